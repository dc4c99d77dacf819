/- THE ABSTRACT SEMANTICS IS SOUND, first part: what reads so in one world reads so in another one that agrees with it. Conditions: none. -/
import Derived.Test.YtedciihjgbkjgacGreatDoorA4
import Derived.Laws.Cells
import Derived.Laws.CopyRow
import Derived.Laws.StructEq
import Derived.ChangeKeysEq
namespace Go.Proofs.YtedciihjgbkjgacGreatDoor.A
open Go

theorem all2_mono {α β : Type} {R S : α → β → Prop} : ∀ {as : List α} {bs : List β}, (∀ a b, a ∈ as → R a b → S a b) → All2 R as bs → All2 S as bs
  | [], [], _, _ => trivial
  | _ :: _, _ :: _, h, ⟨h1, h2⟩ => ⟨h _ _ (by simp) h1, all2_mono (fun a b m => h a b (by simp [m])) h2⟩
  | [], _ :: _, _, h => h.elim
  | _ :: _, [], _, h => h.elim
theorem all2_length {α β : Type} {R : α → β → Prop} : ∀ {as : List α} {bs : List β}, All2 R as bs → as.length = bs.length
  | [], [], _ => rfl
  | _ :: _, _ :: _, ⟨_, h⟩ => by simp [all2_length h]
  | [], _ :: _, h => h.elim
  | _ :: _, [], h => h.elim
theorem all2_get {α β : Type} {R : α → β → Prop} : ∀ {as : List α} {bs : List β} {k : Nat} {a : α}, All2 R as bs → as[k]? = some a → ∃ b, bs[k]? = some b ∧ R a b
  | _ :: _, b :: _, 0, _, ⟨h, _⟩, e => by simp at e; subst e; exact ⟨b, by simp, h⟩
  | _ :: _, _ :: _, k + 1, _, ⟨_, h⟩, e => by simp at e; simpa using all2_get h e
  | [], _, _, _, _, e => by simp at e
  | _ :: _, [], _, _, h, _ => h.elim
theorem all2_of_get {α β : Type} {R : α → β → Prop} : ∀ {as : List α} {bs : List β}, as.length = bs.length → (∀ (k : Nat) (a : α) (b : β), as[k]? = some a → bs[k]? = some b → R a b) → All2 R as bs
  | [], [], _, _ => trivial
  | a :: as, b :: bs, h, g => ⟨g 0 a b (by simp) (by simp), all2_of_get (by simpa using h) fun k x y hx hy => g (k + 1) x y (by simpa using hx) (by simpa using hy)⟩
  | [], _ :: _, h, _ => by simp at h
  | _ :: _, [], h, _ => by simp at h
theorem all2_drop {α β : Type} {R : α → β → Prop} : ∀ {as : List α} {bs : List β} (k : Nat), All2 R as bs → All2 R (as.drop k) (bs.drop k)
  | _, _, 0, h => by simpa using h
  | [], [], _ + 1, _ => trivial
  | _ :: _, _ :: _, k + 1, ⟨_, h⟩ => by simpa using all2_drop k h
  | [], _ :: _, _ + 1, h => h.elim
  | _ :: _, [], _ + 1, h => h.elim
theorem all2_take {α β : Type} {R : α → β → Prop} : ∀ {as : List α} {bs : List β} (k : Nat), All2 R as bs → All2 R (as.take k) (bs.take k)
  | _, _, 0, _ => by simp [All2]
  | [], [], _ + 1, _ => by simp [All2]
  | _ :: _, _ :: _, k + 1, ⟨h1, h⟩ => ⟨h1, all2_take k h⟩
  | [], _ :: _, _ + 1, h => h.elim
  | _ :: _, [], _ + 1, h => h.elim
theorem all2_append {α β : Type} {R : α → β → Prop} : ∀ {as cs : List α} {bs ds : List β}, All2 R as bs → All2 R cs ds → All2 R (as ++ cs) (bs ++ ds)
  | [], _, [], _, _, h => h
  | _ :: _, _, _ :: _, _, ⟨h1, h⟩, h' => ⟨h1, all2_append h h'⟩
  | [], _, _ :: _, _, h, _ => h.elim
  | _ :: _, _, [], _, h, _ => h.elim

/-- Blocks of some kinds are as they were. -/
def Agree (W : World) (lab : Nat → Lab) (W' : World) (lab' : Nat → Lab) (S : Lab → Prop) : Prop :=
  ∀ b, S (lab b) → lab' b = lab b ∧ W'.heap[b]? = W.heap[b]?

theorem cell_of_block {W W' : World} {b o : Nat} (h : W'.heap[b]? = W.heap[b]?) : W'.cell? ⟨b, o, none⟩ = W.cell? ⟨b, o, none⟩ := by
  simp only [World.cell?, h]
theorem cell_cells {W : World} {b o : Nat} {c : Array Value} {t : TypeId} {f : Nat × Nat} (h : W.heap[b]? = some (.cells c t f)) : W.cell? ⟨b, o, none⟩ = c[o]? := by
  simp [World.cell?, h]

section agree
variable {W W' : World} {lab lab' : Nat → Lab} {S : Lab → Prop}
theorem imSl_agree (h : Agree W lab W' lab' S) (hS : S .imm) {xs : List Value} {v : Value} : ImSl W lab xs v → ImSl W' lab' xs v := by
  rintro ⟨A, cap, h1, h2, h3⟩
  refine ⟨A, cap, h1, h2, fun hne => ?_⟩
  obtain ⟨b, o, e, hl, hc⟩ := h3 hne
  obtain ⟨g1, g2⟩ := h b (by rw [hl]; exact hS)
  exact ⟨b, o, e, by rw [g1, hl], fun k x hk => by rw [cell_of_block g2]; exact hc k x hk⟩
theorem imCell_agree (h : Agree W lab W' lab' S) (hS : S .imm) {c : Cell} {v : Value} : ImCell W lab c v → ImCell W' lab' c v := by
  cases c with
  | sc x => exact id
  | sl s xs => exact imSl_agree h hS
  | gone => exact id
theorem imRow_agree (h : Agree W lab W' lab' S) (hS : S .imm) {row : List Cell} {b o : Nat} (hb : lab b = .imm) : ImRow W lab row b o → ImRow W' lab' row b o := by
  intro hr j c hj
  obtain ⟨v, h1, h2⟩ := hr j c hj
  obtain ⟨_, g2⟩ := h b (by rw [hb]; exact hS)
  exact ⟨v, by rw [cell_of_block g2]; exact h1, imCell_agree h hS h2⟩
theorem imRep_agree (h : Agree W lab W' lab' S) (hS : S .imm) {w : Nat} {rows : Rows} {v : Value} : ImRep W lab w rows v → ImRep W' lab' w rows v := by
  rintro ⟨A, cap, h1, h2, h3, h4⟩
  refine ⟨A, cap, h1, h2, h3, fun hne => ?_⟩
  obtain ⟨hw, b, o, e, hl, hr⟩ := h4 hne
  exact ⟨hw, b, o, e, by rw [(h b (by rw [hl]; exact hS)).1, hl], fun i r hi => imRow_agree h hS hl (hr i r hi)⟩
theorem fldRep_agree (h : Agree W lab W' lab' S) (hS : S .imm) {f : Fld} {v : Value} : FldRep W lab f v → FldRep W' lab' f v := by
  cases f with
  | sc x => exact id
  | im w rows => exact imRep_agree h hS
theorem ipRep_agree (h : Agree W lab W' lab' S) (hS : S .imm) {fs : List Fld} {j : Nat} {v : Value} : IpRep W lab fs j v → IpRep W' lab' fs j v := by
  rintro ⟨b, o, e, hl, hf⟩
  obtain ⟨g1, g2⟩ := h b (by rw [hl]; exact hS)
  refine ⟨b, o, e, by rw [g1, hl], fun k f hk => ?_⟩
  obtain ⟨u, h1, h2⟩ := hf k f hk
  exact ⟨u, by rw [cell_of_block g2]; exact h1, fldRep_agree h hS h2⟩
theorem ownSl_agree (h : Agree W lab W' lab' S) {L : Lab} (hL : S L) {xs : List Value} {v : Value} : OwnSl W lab L xs v → OwnSl W' lab' L xs v := by
  rintro (⟨A, h1, h2⟩ | ⟨b, cap, c, t, h1, h2, h3, h4, h5, h6⟩)
  · exact .inl ⟨A, h1, h2⟩
  · obtain ⟨g1, g2⟩ := h b (by rw [h3]; exact hL)
    exact .inr ⟨b, cap, c, t, h1, h2, by rw [g1, h3], by rw [g2, h4], h5, h6⟩
theorem ownCell_agree (h : Agree W lab W' lab' S) (hS : S .imm) {L : Lab} (hL : S L) {c : Cell} {v : Value} : OwnCell W lab L c v → OwnCell W' lab' L c v := by
  cases c with
  | sc x => exact id
  | sl s xs => cases s with
    | zero => exact imSl_agree h hS
    | succ s => exact ownSl_agree h hL
  | gone => exact id
theorem ownRep_agree (h : Agree W lab W' lab' S) (hS : S .imm) {id w : Nat} (h1 : S (.own id)) (h2 : ∀ i j, S (.inn id i j)) {rows : Rows} {v : Value} :
    OwnRep W lab id w rows v → OwnRep W' lab' id w rows v := by
  rintro ⟨hw, hr, hc⟩
  refine ⟨hw, hr, ?_⟩
  rcases hc with ⟨A, e, hn⟩ | ⟨b, cap, c, t, e1, e2, e3, e4, e5, e6⟩
  · exact .inl ⟨A, e, hn⟩
  · obtain ⟨g1, g2⟩ := h b (by rw [e3]; exact h1)
    refine .inr ⟨b, cap, c, t, e1, e2, by rw [g1, e3], by rw [g2, e4], e5, fun i j r x hi hj => ?_⟩
    obtain ⟨v, k1, k2⟩ := e6 i j r x hi hj
    exact ⟨v, k1, ownCell_agree h hS (h2 i j) k2⟩
end agree

/-- What slots and variables lean on is kept; 'new': ids that nobody has named before. -/
structure Keeps (st : St) (W : World) (sh : Sh) (st' : St) (W' : World) (sh' : Sh) (new : Nat → Prop) : Prop where
  imm : Agree W sh.lab W' sh'.lab (· = .imm)
  vars : ∀ id, ¬ new id → st'.vars id ≠ none → st.vars id ≠ none ∧ sh'.β id = sh.β id
  objs : ∀ id w rows', ¬ new id → st'.objs id = some (w, rows') → sh'.μ id = sh.μ id ∧ ∃ rows, st.objs id = some (w, rows) ∧ rows.length = rows'.length ∧
    ∀ i j s xs', ¬ new s → 0 < s → Rows.cell rows' i j = .sl s xs' → ∃ xs, Rows.cell rows i j = .sl s xs ∧ xs.length = xs'.length ∧ headAt W' (sh'.μ id) w i j = headAt W (sh.μ id) w i j

section keeps
variable {st st' : St} {W W' : World} {sh sh' : Sh} {new : Nat → Prop}
theorem svRep_keeps (k : Keeps st W sh st' W' sh' new) {s : SV} {v : Value} (hn : ∀ id ∈ s.ids, ¬ new id) : SVRep st W sh s v → SVRep st' W' sh' s v := by
  cases s with
  | un => exact fun _ => trivial
  | sc x => exact id
  | im w rows => exact imRep_agree k.imm rfl
  | ref id w off len =>
    intro h w' rows' ho
    obtain ⟨hμ, rows, h1, h2, _⟩ := k.objs id w' rows' (hn id (by simp [SV.ids])) ho
    obtain ⟨g1, g2, g3⟩ := h w' rows h1
    exact ⟨g1, by omega, by rw [hμ]; exact g3⟩
  | rin id i j s off len =>
    rintro ⟨hs0, h⟩
    refine ⟨hs0, fun w rows' xs' ho hc => ?_⟩
    obtain ⟨hμ, rows, h1, h2, h3⟩ := k.objs id w rows' (hn id (by simp [SV.ids])) ho
    obtain ⟨xs, c1, c2, c3⟩ := h3 i j s xs' (hn s (by simp [SV.ids])) hs0 hc
    obtain ⟨g0, g1, hd, g2, g3⟩ := h w rows xs h1 c1
    exact ⟨g0, by omega, hd, by rw [c3]; exact g2, g3⟩
  | vad id j =>
    intro h fs' hf
    obtain ⟨h1, h2⟩ := k.vars id (hn id (by simp [SV.ids])) (by rw [hf]; simp)
    obtain ⟨fs, hfs⟩ := Option.ne_none_iff_exists'.mp h1
    rw [h2]; exact h fs hfs
  | oad id i j =>
    intro h w rows' ho hi
    obtain ⟨hμ, rows, h1, h2, _⟩ := k.objs id w rows' (hn id (by simp [SV.ids])) ho
    rw [hμ]; exact h w rows h1 (by omega)
  | oin id i j s q =>
    rintro ⟨hs0, h⟩
    refine ⟨hs0, fun w rows' xs' ho hc hq => ?_⟩
    obtain ⟨hμ, rows, h1, h2, h3⟩ := k.objs id w rows' (hn id (by simp [SV.ids])) ho
    obtain ⟨xs, c1, c2, c3⟩ := h3 i j s xs' (hn s (by simp [SV.ids])) hs0 hc
    obtain ⟨g0, b, n, cap, g1, g2⟩ := h w rows xs h1 c1 (by omega)
    exact ⟨g0, b, n, cap, by rw [c3]; exact g1, g2⟩
  | iad row j =>
    rintro ⟨b, o, e, hl, hr⟩
    exact ⟨b, o, e, by rw [(k.imm b hl).1, hl], imRow_agree k.imm rfl hl hr⟩
  | ipt fs j => exact ipRep_agree k.imm rfl
  | fnv f ids =>
    rintro ⟨cs, e, h⟩
    refine ⟨cs, e, all2_mono ?_ h⟩
    intro id u hm g fs' hf
    obtain ⟨h1, h2⟩ := k.vars id (hn id (by simpa [SV.ids] using hm)) (by rw [hf]; simp)
    obtain ⟨fs, hfs⟩ := Option.ne_none_iff_exists'.mp h1
    rw [h2]; exact g fs hfs
  | fni f caps =>
    rintro ⟨cs, e, h⟩
    exact ⟨cs, e, all2_mono (fun _ _ _ g => ipRep_agree k.imm rfl g) h⟩
theorem pkRep_keeps (k : Keeps st W sh st' W' sh' new) {p : Pk} {v : Value} (hn : ∀ id ∈ p.svs.flatMap SV.ids, ¬ new id) : PkRep st W sh p v → PkRep st' W' sh' p v := by
  cases p with
  | one s => exact svRep_keeps k fun id h => hn id (by simpa [Pk.svs] using h)
  | agg xs =>
    rintro ⟨cs, e, h⟩
    exact ⟨cs, e, all2_mono (fun s u m g => svRep_keeps k (fun id hi => hn id (by simp only [Pk.svs, List.mem_flatMap]; exact ⟨s, m, hi⟩)) g) h⟩
theorem avRep_keeps (k : Keeps st W sh st' W' sh' new) {a : AV} {v : Value} (hn : ∀ id ∈ a.ids, ¬ new id) : AVRep st W sh a v → AVRep st' W' sh' a v := by
  cases a with
  | pk p => exact pkRep_keeps k fun id h => hn id h
  | tup ps =>
    rintro ⟨cs, e, h⟩
    refine ⟨cs, e, all2_mono (fun p u m g => pkRep_keeps k (fun id hi => hn id ?_) g) h⟩
    simp only [AV.ids, AV.svs, List.mem_flatMap] at hi ⊢
    obtain ⟨s, h1, h2⟩ := hi
    exact ⟨s, ⟨p, m, h1⟩, h2⟩
end keeps

end Go.Proofs.YtedciihjgbkjgacGreatDoor.A

/-! THE ABSTRACT SEMANTICS IS SOUND, second part: how a frame that is as a state says goes on being so. Conditions: none. -/
namespace Go.Proofs.YtedciihjgbkjgacGreatDoor.A
open Go

theorem Keeps.same {st st' : St} {W : World} {sh : Sh} (hv : st'.vars = st.vars) (ho : st'.objs = st.objs) : Keeps st W sh st' W sh (fun _ => False) where
  imm := fun b _ => ⟨rfl, rfl⟩
  vars := fun id _ h => ⟨by rw [← hv]; exact h, rfl⟩
  objs := fun id w rows' _ h => ⟨rfl, rows', by rw [← ho]; exact h, rfl, fun i j s xs' _ _ hc => ⟨xs', hc, rfl, rfl⟩⟩

theorem tmps_put (a : Act) (d : Option Tmp) (v : Value) (t : Nat) (hd : ∀ d', d = some d' → d' < a.tmps.size) :
    (a.put d v).tmps.getD t undef = if some t = d then v else a.tmps.getD t undef := by
  cases d with
  | none => simp [Act.put]
  | some d =>
    have hd := hd d rfl
    simp only [Act.put, Array.getD_eq_getD_getElem?, Array.getElem?_setIfInBounds, Option.some.injEq]
    by_cases h : d = t
    · subst h; simp [hd]
    · have h' : ¬ t = d := fun e => h e.symm
      simp [h, h']
theorem put_defers (a : Act) (d : Option Tmp) (v : Value) : (a.put d v).defers = a.defers := by cases d <;> rfl
theorem put_size (a : Act) (d : Option Tmp) (v : Value) : (a.put d v).tmps.size = a.tmps.size := by cases d <;> simp [Act.put]

section put
variable {cx : Cx} {st : St} {sh : Sh} {a : Act} {W : World} {Fr : Nat → Prop}
/-- A value is put into a slot. -/
theorem InvS.put (h : InvS cx st sh a W Fr) {d : Option Tmp} (hd : ∀ d', d = some d' → d' < cx.n) {av : AV} {v : Value} (hv : AVRep st W sh av v) (hid : ∀ id, Fr id → id ∉ av.ids) :
    InvS cx (st.app d ⟨av, [], []⟩) sh (a.put d v) W Fr := by
  have k : Keeps st W sh (st.app d ⟨av, [], []⟩) W sh (fun _ => False) := Keeps.same rfl rfl
  refine ⟨by rw [put_defers]; exact h.defers, by rw [put_size]; exact h.size, h.ext, fun t => ?_, fun id fs hf => ?_, h.objs, fun id hF => ?_, h.low, h.stamps, h.pinO, h.pinV⟩
  · rw [tmps_put _ _ _ _ (by rw [h.size]; exact hd)]
    show AVRep _ W sh (if some t = d then av else st.slots t) _
    split
    · exact avRep_keeps k (fun _ _ h => h) hv
    · exact avRep_keeps k (fun _ _ h => h) (h.slots t)
  · obtain ⟨h1, c, t, h2, h3⟩ := h.vars id fs hf
    exact ⟨h1, c, t, h2, all2_mono (fun s u _ g => svRep_keeps k (fun _ _ h => h) g) h3⟩
  · obtain ⟨h1, h2, h3, h4⟩ := h.fresh id hF
    refine ⟨h1, h2, fun t => ?_, h4⟩
    show id ∉ (if some t = d then av else st.slots t).ids
    split
    · exact hid id hF
    · exact h3 t
/-- Fewer ids are fresh. -/
theorem InvS.less (h : InvS cx st sh a W Fr) {Fr' : Nat → Prop} (hF : ∀ id, Fr' id → Fr id) : InvS cx st sh a W Fr' :=
  ⟨h.defers, h.size, h.ext, h.slots, h.vars, h.objs, fun id hf => h.fresh id (hF id hf), fun id hf => h.low id (hF id hf), fun id w rows i j s xs ho hc hf => h.stamps id w rows i j s xs ho hc (hF s hf), h.pinO, h.pinV⟩

/-- The memory moves on. -/
theorem InvS.move (h : InvS cx st sh a W Fr) {vars' : Nat → Option (List SV)} {objs' : Nat → Option Obj'} {sh' : Sh} {W' : World} {Fr' new : Nat → Prop} {n' : Nat}
    (k : Keeps st W sh ⟨st.slots, vars', objs', n'⟩ W' sh' new) (hn : ∀ id, new id → Fr id) (hF : ∀ id, Fr' id → Fr id)
    (hext : Ext cx.W0 cx.lab0 W' sh'.lab)
    (hvars : ∀ id fs, vars' id = some fs → (sh'.lab (sh'.β id) = .var id ∧ ∃ (c : Array Value) (t : TypeId), W'.heap[sh'.β id]? = some (.cells c t (0, 0)) ∧
      All2 (SVRep ⟨st.slots, vars', objs', n'⟩ W' sh') fs c.toList) ∧ ∀ id', Fr' id' → ∀ s ∈ fs, id' ∉ s.ids)
    (hobjs : ∀ id w rows, objs' id = some (w, rows) → OwnRep W' sh'.lab id w rows (sh'.μ id))
    (hfresh : ∀ id, Fr' id → vars' id = none ∧ objs' id = none)
    (hst : ∀ id w rows i j s xs, objs' id = some (w, rows) → Rows.cell rows i j = .sl s xs → ¬ Fr' s)
    (hpO : ∀ id, id < 1000 → objs' id ≠ none → st.objs id ≠ none ∧ sh'.μ id = sh.μ id) (hpV : ∀ id, id < 1000 → vars' id ≠ none → st.vars id ≠ none ∧ sh'.β id = sh.β id)
    (hpins : ∀ q ∈ cx.pins, q.1 < 1000) :
    InvS cx ⟨st.slots, vars', objs', n'⟩ sh' a W' Fr' := by
  refine ⟨h.defers, h.size, hext, fun t => avRep_keeps k (fun id hi hq => (h.fresh id (hn id hq)).2.2.1 t hi) (h.slots t), fun id fs hf => (hvars id fs hf).1, hobjs, fun id hf => ?_, fun id hf => h.low id (hF id hf), hst, ?_, ?_⟩
  · exact ⟨(hfresh id hf).1, (hfresh id hf).2, (h.fresh id (hF id hf)).2.2.1, fun q fs hq => (hvars q fs hq).2 id hf⟩
  · intro q v hm hne
    obtain ⟨h1, h2⟩ := hpO q (hpins _ hm) hne
    rw [h2]; exact h.pinO q v hm h1
  · intro q v hm hne
    obtain ⟨h1, h2⟩ := hpV q (hpins _ hm) hne
    rw [h2]; exact h.pinV q v hm h1
end put

/-! #### a new block -/
def Sh.add (sh : Sh) (n : Nat) (L : Lab) : Nat → Lab := fun b => if b = n then L else sh.lab b
theorem alloc_get (W : World) (o : Obj) (b : Nat) : (W.alloc o).heap[b]? = if b = W.heap.size then some o else W.heap[b]? := by
  show (W.heap.push o)[b]? = _
  rw [Array.getElem?_push]
theorem alloc_size (W : World) (o : Obj) : (W.alloc o).heap.size = W.heap.size + 1 := by
  show (W.heap.push o).size = _
  simp
section alloc
variable {cx : Cx} {st : St} {sh : Sh} {a : Act} {W : World} {Fr : Nat → Prop}
theorem InvS.below (h : InvS cx st sh a W Fr) {b : Nat} (hb : sh.lab b ≠ .dead) : b < W.heap.size := by
  rcases Nat.lt_or_ge b W.heap.size with g | g
  · exact g
  · exact absurd (h.ext.dead b g) hb
theorem InvS.agree_alloc (h : InvS cx st sh a W Fr) (o : Obj) (L : Lab) : Agree W sh.lab (W.alloc o) (sh.add W.heap.size L) (· ≠ .dead) := by
  intro b hb
  have := h.below hb
  refine ⟨by simp [Sh.add]; omega, ?_⟩
  rw [alloc_get, if_neg (by omega)]
theorem agree_mono {W W' : World} {lab lab' : Nat → Lab} {S S' : Lab → Prop} (h : Agree W lab W' lab' S) (hs : ∀ L, S' L → S L) : Agree W lab W' lab' S' := fun b hb => h b (hs _ hb)
theorem ext_alloc (h : InvS cx st sh a W Fr) (o : Obj) (L : Lab) : Ext cx.W0 cx.lab0 (W.alloc o) (sh.add W.heap.size L) := by
  obtain ⟨h1, h2, h3, h4, h5, h6⟩ := h.ext
  refine ⟨h1, h2, h3, by rw [alloc_size]; omega, fun b hb hl => ?_, fun b hb => ?_⟩
  · obtain ⟨g1, g2⟩ := h5 b hb hl
    obtain ⟨k1, k2⟩ := h.agree_alloc o L b (by rcases hl with hl | hl <;> rw [g1, hl] <;> simp)
    exact ⟨by rw [k1, g1], by rw [k2, g2]⟩
  · rw [alloc_size] at hb
    simp only [Sh.add]
    rw [if_neg (by omega)]
    exact h6 b (by omega)
theorem headAt_agree {W W' : World} {h : Value} {w i j : Nat} (hb : ∀ b L c, h = .slice (some ⟨b, 0, none⟩) L c → W'.heap[b]? = W.heap[b]?) : headAt W' h w i j = headAt W h w i j := by
  unfold headAt
  split
  · rename_i b L c
    exact cell_of_block (hb b L c rfl)
  · rfl
/-- The block of an outer slice is its own. -/
theorem InvS.own_block (h : InvS cx st sh a W Fr) {id w : Nat} {rows : Rows} (ho : st.objs id = some (w, rows)) {b L c : Nat} (e : sh.μ id = .slice (some ⟨b, 0, none⟩) L c) (hne : rows ≠ []) :
    sh.lab b = .own id := by
  obtain ⟨_, _, hc⟩ := h.objs id w rows ho
  rcases hc with ⟨A, _, hn⟩ | ⟨b', cap, c', t, e1, _, e3, _⟩
  · exact absurd hn hne
  · rw [e] at e1; cases e1; exact e3
theorem cell_ne {rows : Rows} {i j s : Nat} {xs : List Value} (h : Rows.cell rows i j = .sl s xs) : i < rows.length ∧ j < (rows.getD i []).length := by
  unfold Rows.cell at h
  constructor
  · rcases Nat.lt_or_ge i rows.length with g | g
    · exact g
    · have e : rows.getD i [] = [] := by rw [List.getD_eq_getElem?_getD, List.getElem?_eq_none g]; rfl
      rw [e] at h; simp at h
  · rcases Nat.lt_or_ge j (rows.getD i []).length with g | g
    · exact g
    · rw [List.getD_eq_getElem?_getD, List.getElem?_eq_none g] at h; simp at h
theorem keeps_alloc (h : InvS cx st sh a W Fr) (o : Obj) (L : Lab) {st' : St} {sh' : Sh} {new : Nat → Prop} (hlab : sh'.lab = sh.add W.heap.size L)
    (hv : ∀ id, ¬ new id → st'.vars id ≠ none → st.vars id ≠ none ∧ sh'.β id = sh.β id) (ho : ∀ id, ¬ new id → st'.objs id ≠ none → st'.objs id = st.objs id ∧ sh'.μ id = sh.μ id) :
    Keeps st W sh st' (W.alloc o) sh' new := by
  have ag := h.agree_alloc o L
  refine ⟨by rw [hlab]; exact agree_mono ag (by rintro _ rfl; simp), hv, fun id w rows' hn hs => ?_⟩
  obtain ⟨h1, h2⟩ := ho id hn (by rw [hs]; simp)
  rw [h1] at hs
  refine ⟨h2, rows', hs, rfl, fun i j s xs' _ _ hc => ⟨xs', hc, rfl, ?_⟩⟩
  rw [h2]
  refine headAt_agree fun b l c e => ?_
  have hne : rows' ≠ [] := by
    intro e; rw [e] at hc; have := (cell_ne hc).1; simp at this
  exact (ag b (by rw [h.own_block hs e hne]; simp)).2

/-- A new variable. -/
theorem InvS.newVar (h : InvS cx st sh a W Fr) {nid : Nat} (hid : Fr nid) {fs : List SV} {c : Array Value} {t : TypeId} (hfs : All2 (SVRep st W sh) fs c.toList)
    (hmen : ∀ id, Fr id → ∀ s ∈ fs, id ∉ s.ids) {Fr' : Nat → Prop} (hF : ∀ id, Fr' id → Fr id ∧ id ≠ nid) (hpins : ∀ q ∈ cx.pins, q.1 < 1000) :
    InvS cx ⟨st.slots, upd st.vars [(nid, some fs)], st.objs, st.next⟩ ⟨sh.add W.heap.size (.var nid), sh.μ, fun id => if id = nid then W.heap.size else sh.β id⟩ a (W.alloc (.cells c t)) Fr' := by
  have hlo := h.low nid hid
  have k : Keeps st W sh ⟨st.slots, upd st.vars [(nid, some fs)], st.objs, st.next⟩ (W.alloc (.cells c t)) ⟨sh.add W.heap.size (.var nid), sh.μ, fun id => if id = nid then W.heap.size else sh.β id⟩ (· = nid) := by
    refine keeps_alloc h _ (.var nid) rfl (fun id hn hs => ?_) (fun id _ _ => ⟨rfl, rfl⟩)
    simp only [upd, if_neg hn] at hs ⊢
    exact ⟨hs, trivial⟩
  refine h.move k (by rintro _ rfl; exact hid) (fun id hf => (hF id hf).1) (ext_alloc h _ _) (fun id gs hg => ?_) (fun id w rows ho => ?_) (fun id hf => ?_) (fun id w rows i j s xs ho hc hf => h.stamps id w rows i j s xs ho hc (hF s hf).1) (fun id _ ho => ⟨ho, rfl⟩) (fun id hl hv => ?_) hpins
  · by_cases e : id = nid
    · subst e
      simp only [upd, if_true, Option.some.injEq] at hg
      subst hg
      refine ⟨⟨by simp [Sh.add], c, t, by simp only [if_true]; rw [alloc_get, if_pos rfl], all2_mono (fun s u m g => svRep_keeps k (fun id' hi e => hmen id hid s m (by rw [← e]; exact hi)) g) hfs⟩, fun id' hf s m => hmen id' (hF id' hf).1 s m⟩
    · simp only [upd, if_neg e] at hg
      obtain ⟨h1, c', t', h2, h3⟩ := h.vars id gs hg
      have ag := h.agree_alloc (.cells c t) (.var nid) (sh.β id) (by rw [h1]; simp)
      refine ⟨⟨by simp only [if_neg e]; rw [ag.1, h1], c', t', by simp only [if_neg e]; rw [ag.2, h2], all2_mono (fun s u m g => svRep_keeps k (fun id' hi e' => ?_) g) h3⟩, fun id' hf s m => (h.fresh id' (hF id' hf).1).2.2.2 id gs hg s m⟩
      subst e'
      exact (h.fresh id' hid).2.2.2 id gs hg s m hi
  · exact ownRep_agree (h.agree_alloc _ _) (by simp) (by simp) (by simp) (h.objs id w rows ho)
  · obtain ⟨h1, h2, _⟩ := h.fresh id (hF id hf).1
    exact ⟨by simp only [upd, if_neg (hF id hf).2]; exact h1, h2⟩
  · simp only [upd] at hv ⊢
    rw [if_neg (by omega)] at hv
    exact ⟨hv, by rw [if_neg (by omega)]⟩
end alloc

end Go.Proofs.YtedciihjgbkjgacGreatDoor.A

/-! THE ABSTRACT SEMANTICS IS SOUND, third part: operations that leave memory alone. Conditions: none. -/
namespace Go.Proofs.YtedciihjgbkjgacGreatDoor.A
open Go
set_option linter.unusedSimpArgs false

section runs
variable {P : Program} {W : World}
theorem run_under {t : TypeId} {d : TypeDesc} (h : P.underlying t = some d) : (underlying t).run P W = .ok d W := by
  simp [underlying, program, Sem.run_bind, Sem.run, h, Result.andThen]
theorem run_info {t : TypeId} {i : TypeInfo} (h : P.info? t = some i) : (typeInfo t).run P W = .ok i W := by
  simp [typeInfo, program, Sem.run_bind, Sem.run, h, Result.andThen]
theorem run_size {t : TypeId} {i : TypeInfo} (h : P.info? t = some i) : (sizeOf t).run P W = .ok i.size W := by
  simp [sizeOf, Sem.run_bind, run_info h, Result.andThen]
theorem aggOf_some {t : TypeId} {n : Option Nat} (h : aggOf P t = some n) : (isAgg t).run P W = .ok n.isSome W ∧ (sizeOf t).run P W = .ok (n.getD 1) W := by
  unfold aggOf at h
  split at h
  · rename_i fs i h1 h2
    simp only [Option.some.injEq] at h; subst h
    exact ⟨by simp [isAgg, Sem.run_bind, run_under h1, Result.andThen], by rw [run_size h2]; rfl⟩
  · rename_i n e i h1 h2
    simp only [Option.some.injEq] at h; subst h
    exact ⟨by simp [isAgg, Sem.run_bind, run_under h1, Result.andThen], by rw [run_size h2]; rfl⟩
  · rename_i d i h1 h2 h3 h4
    split at h
    · rename_i hs
      simp only [Option.some.injEq] at h; subst h
      refine ⟨?_, by rw [run_size h4]; simp [hs]⟩
      simp only [isAgg, Sem.run_bind, run_under h3, Result.andThen]
      cases d <;> simp_all
    · cases h
  · cases h
  · cases h
theorem add_mk (b o j : Nat) : (⟨b, o, none⟩ : Addr).add j = ⟨b, o + j, none⟩ := by
  unfold Addr.add; split <;> simp_all
theorem run_load1 {t : TypeId} (h : aggOf P t = some none) {a : Addr} {v : Value} (hc : W.cell? a = some v) : (loadVar t a).run P W = .ok v W := by
  simp [loadVar, Sem.run_bind, (aggOf_some (W := W) h).1, Result.andThen, load, Sem.run, hc]
theorem run_loadn {t : TypeId} {n : Nat} (h : aggOf P t = some (some n)) {b o : Nat} {cs : List Value} (hl : cs.length = n) (hc : ∀ (j : Nat) (v : Value), cs[j]? = some v → W.cell? ⟨b, o + j, none⟩ = some v) :
    (loadVar t ⟨b, o, none⟩).run P W = .ok (.agg cs.toArray) W := by
  subst hl
  have := run_loadCells_list (P := P) W ⟨b, o, none⟩ cs (fun j v hj => by rw [add_mk]; exact hc j v hj)
  simp [loadVar, Sem.run_bind, (aggOf_some (W := W) h).1, (aggOf_some (W := W) h).2, Result.andThen, this]
end runs

/-- What an operation must come to. -/
def Good (P : Program) (cx : Cx) (st : St) (Fr : Nat → Prop) (nid : Nat) (o : Oper) (a : Act) (W : World) (K : Eff → Prop) (Q : Exit → Act → World → Prop) : Prop :=
  o.wp P a W (fun a' W' => ∃ e sh', K e ∧ InvS cx (st.app o.dst e) sh' a' W' (fun id => Fr id ∧ ¬ (nid ≤ id ∧ id < nid + 64))) Q

section pure
variable {P : Program} {cx : Cx} {st : St} {sh : Sh} {a : Act} {W : World} {Fr : Nat → Prop} {nid : Nat} {o : Oper} {K : Eff → Prop} {Q : Exit → Act → World → Prop}
theorem InvS.ev (h : InvS cx st sh a W Fr) (x : Operand) : AVRep st W sh (st.ev x) (a.eval x) := by
  cases x with
  | tmp t => exact h.slots t
  | const v => exact rfl
  | func f => exact ⟨#[], rfl, trivial⟩
  | global g => exact trivial
theorem InvS.ev_ids (h : InvS cx st sh a W Fr) (x : Operand) {id : Nat} (hid : Fr id) : id ∉ (st.ev x).ids := by
  cases x with
  | tmp t => exact (h.fresh id hid).2.2.1 t
  | const v => simp [St.ev, AV.ids, AV.svs, Pk.svs, SV.ids]
  | func f => simp [St.ev, AV.ids, AV.svs, Pk.svs, SV.ids]
  | global g => simp [St.ev, AV.ids, AV.svs, Pk.svs, SV.ids]

theorem good_value (h : InvS cx st sh a W Fr) (hd : ∀ d', o.dst = some d' → d' < cx.n) {v : Value} (hr : (execOp a.eval o).run P W = .ok (.value v) W) {av : AV} (hv : AVRep st W sh av v)
    (hid : ∀ id, Fr id → id ∉ av.ids) (hK : K ⟨av, [], []⟩) : Good P cx st Fr nid o a W K Q := by
  unfold Good Oper.wp
  rw [hr]
  exact ⟨_, sh, hK, (h.put hd hv hid).less fun id hf => hf.1⟩
theorem good_v (h : InvS cx st sh a W Fr) (hd : ∀ d', o.dst = some d' → d' < cx.n) {s : Sem Value} (he : execOp a.eval o = (do pure (.value (← s)))) {v : Value} (hr : s.run P W = .ok v W) {av : AV} (hv : AVRep st W sh av v)
    (hid : ∀ id, Fr id → id ∉ av.ids) (hK : K ⟨av, [], []⟩) : Good P cx st Fr nid o a W K Q :=
  good_value h hd (by rw [he]; simp [Sem.run_bind, hr, Result.andThen]) hv hid hK

theorem sc_ids (v : Value) (id : Nat) : id ∉ (AV.sc v).ids := by simp [AV.ids, AV.svs, Pk.svs, SV.ids]

theorem good_move (h : InvS cx st sh a W Fr) (hd : ∀ d', o.dst = some d' → d' < cx.n) {x : Operand} (ho : o.op = .move x ∨ o.op = .assign x) (hK : K ⟨st.ev x, [], []⟩) : Good P cx st Fr nid o a W K Q := by
  refine good_value h hd (v := a.eval x) ?_ (h.ev x) (fun id hf => h.ev_ids x hf) hK
  rcases ho with ho | ho <;> simp [execOp, ho, Sem.run]

theorem good_pick (h : InvS cx st sh a W Fr) (hd : ∀ d', o.dst = some d' → d' < cx.n) {c x y : Operand} (ho : o.op = .pick c x y) {t : Bool} (hc : st.ev c = .sc (.bool t))
    (hK : K ⟨if t then st.ev x else st.ev y, [], []⟩) : Good P cx st Fr nid o a W K Q := by
  have e := h.ev c
  rw [hc] at e
  have e' : a.eval c = .bool t := e
  refine good_value h hd (v := if t then a.eval x else a.eval y) ?_ ?_ ?_ hK
  · simp [execOp, ho, Sem.run_bind, e', asBool, Sem.run, Result.andThen]
  · cases t
    · exact h.ev y
    · exact h.ev x
  · intro id hf
    cases t
    · exact h.ev_ids y hf
    · exact h.ev_ids x hf

theorem run_eqBool {xT : TypeId} (h : P.underlying xT = some .bool) (a b : Bool) : (Op.equal xT (.bool a) (.bool b)).run P W = .ok (a == b) W := by
  have e : Op.maxDepth = 9999 + 1 := rfl
  rw [Op.equal, e, Op.equalIn]
  simp only [Sem.run_bind, run_under h, Result.andThen]
  rfl
theorem run_binOp {xT : TypeId} {op : BinOp} {x y : Value} {K : Value → Prop} (h : binK P xT op x y K) : ∃ v, K v ∧ ((do eqGuard op xT (.tmp 0) (.tmp 0) x y; binOp op xT x y) : Sem Value).run P W = .ok v W ∧
    ∀ ox oy, ((do eqGuard op xT ox oy x y; binOp op xT x y) : Sem Value).run P W = .ok v W := by
  have key : ∃ v, K v ∧ (binOp op xT x y).run P W = .ok v W ∧ ∀ ox oy, (eqGuard op xT ox oy x y).run P W = .ok () W := by
    unfold binK at h
    split at h
    · rename_i k a k' b
      have hg : ∀ ox oy, (eqGuard op xT ox oy (.int k a) (.int k' b)).run P W = .ok () W := by
        intro ox oy; unfold eqGuard; cases op <;> simp [Sem.run]
      split at h
      · rename_i hs
        cases op <;> simp [isShift] at hs <;> simp only [shiftK] at h <;> refine ⟨_, h.2, ?_, hg⟩ <;> simp [binOp, Op.shift, Sem.run, show ¬ b < 0 by omega]
      · rename_i hs
        obtain ⟨hk, h⟩ := h
        subst hk
        cases op <;> simp [isShift] at hs <;> simp only [intK] at h <;> first
          | exact h.elim
          | exact ⟨_, h, by simp [binOp, Op.intArith, Op.intBits, Op.intCmp, Sem.run], hg⟩
          | exact ⟨_, h.2, by simp [binOp, Op.intDiv, Sem.run, h.1], hg⟩
    · rename_i a b
      have hg : ∀ ox oy, (eqGuard op xT ox oy (.string a) (.string b)).run P W = .ok () W := by
        intro ox oy; unfold eqGuard; cases op <;> simp [Sem.run]
      cases op <;> simp only [strK] at h <;> first
        | exact h.elim
        | exact ⟨_, h, by simp [binOp, Op.stringOp, Sem.run], hg⟩
        | (refine ⟨_, h.2, ?_, hg⟩
           have hh : ¬ (((a.size + b.size : Nat) : Int) > IntKind.i64.max) := by
             have : IntKind.i64.max = 9223372036854775807 := by decide
             rw [this]; omega
           simp only [binOp, Op.stringOp, if_neg hh]; rfl)
    · rename_i a b
      have hg : ∀ ox oy, (eqGuard op xT ox oy (.bool a) (.bool b)).run P W = .ok () W := by
        intro ox oy; unfold eqGuard; cases op <;> simp [Sem.run]
      cases op <;> simp only [boolK] at h <;> first
        | exact h.elim
        | (refine ⟨_, h.2, ?_, hg⟩
           simp only [binOp, Sem.run_bind, run_eqBool h.1, Result.andThen]; rfl)
    · exact h.elim
  obtain ⟨v, h1, h2, h3⟩ := key
  refine ⟨v, h1, ?_, fun ox oy => ?_⟩ <;> simp [Sem.run_bind, h3, h2, Result.andThen]

theorem run_pair {xT : TypeId} (h : pairT P xT = true) (a b c d : Int) : (Op.equalIn 10000 xT (.agg #[.int .i64 a, .int .i64 b]) (.agg #[.int .i64 c, .int .i64 d])).run P W = .ok (a == c && b == d) W ∧ P.eqGuardType P.depth xT = false := by
  unfold pairT at h
  split at h
  · rename_i fs ht
    split at h
    · rename_i f g hfs
      simp only [Bool.and_eq_true, bne_iff_ne, ne_eq, beq_iff_eq, Bool.not_eq_true'] at h
      obtain ⟨h1, h2, h3, h4, h5, h6, h7, h8⟩ := h
      have i64 : ∀ {t : TypeId}, i64T P t = true → P.underlying t = some (.int .i64) := by
        intro t h
        unfold i64T at h
        split at h
        · assumption
        · cases h
      have pk : ∀ {t : TypeId}, i64T P t = true → P.plainKey t = true := fun h => by simp [Program.plainKey, i64 h]
      have hf : P.fieldsOf xT = fs := by simp [Program.fieldsOf, ht]
      refine ⟨?_, h8⟩
      rw [show (10000 : Nat) = 9999 + 1 from rfl, run_equalIn_struct W 9999 xT _ _ (by rw [hf]; exact ht) h7, hf, hfs]
      have e1 := run_part_plain (P := P) (w := W) (pk h5) (xs := #[.int .i64 a, .int .i64 b]) (off := f.offset) (v := .int .i64 a) (by rw [h3]; rfl)
      have e2 := run_part_plain (P := P) (w := W) (pk h5) (xs := #[.int .i64 c, .int .i64 d]) (off := f.offset) (v := .int .i64 c) (by rw [h3]; rfl)
      have e3 := run_part_plain (P := P) (w := W) (pk h6) (xs := #[.int .i64 a, .int .i64 b]) (off := g.offset) (v := .int .i64 b) (by rw [h4]; rfl)
      have e4 := run_part_plain (P := P) (w := W) (pk h6) (xs := #[.int .i64 c, .int .i64 d]) (off := g.offset) (v := .int .i64 d) (by rw [h4]; rfl)
      have q1 := run_equalIn_int W 9998 f.type .i64 .i64 a c (i64 h5)
      have q2 := run_equalIn_int W 9998 g.type .i64 .i64 b d (i64 h6)
      rw [show (9999 : Nat) = 9998 + 1 from rfl]
      simp only [Op.eqFields, h1, h2, ne_eq, not_false_eq_true, if_true, Sem.run_bind, e1, e2, q1, Result.andThen_ok]
      rcases hac : (a == c)
      · simp
      · simp only [Bool.not_true, Bool.false_eq_true, if_false, Sem.run_bind, e3, e4, q2, Result.andThen_ok]
        rcases hbd : (b == d) <;> simp
    · cases h
  · cases h
theorem good_pair (h : InvS cx st sh a W Fr) (hd : ∀ d', o.dst = some d' → d' < cx.n) {op : BinOp} {xT yT : TypeId} {x y : Operand} (ho : o.op = .binOp op xT x y yT) {xs ys : List SV} (hx : st.ev x = .agg xs) (hy : st.ev y = .agg ys)
    (hK : pairK P xT op xs ys fun r => K ⟨.sc r, [], []⟩) : Good P cx st Fr nid o a W K Q := by
  have ex := h.ev x
  rw [hx] at ex
  have ey := h.ev y
  rw [hy] at ey
  unfold pairK at hK
  split at hK
  · rename_i p q r s
    obtain ⟨hp, hK⟩ := hK
    obtain ⟨cs, e1, f1⟩ := ex
    obtain ⟨ds, e2, f2⟩ := ey
    have c1 : cs = #[.int .i64 p, .int .i64 q] := by
      rcases cs with ⟨l⟩
      match l, f1 with
      | [u, v], ⟨g1, g2, _⟩ =>
        have g1 : u = .int .i64 p := g1
        have g2 : v = .int .i64 q := g2
        rw [g1, g2]
    have c2 : ds = #[.int .i64 r, .int .i64 s] := by
      rcases ds with ⟨l⟩
      match l, f2 with
      | [u, v], ⟨g1, g2, _⟩ =>
        have g1 : u = .int .i64 r := g1
        have g2 : v = .int .i64 s := g2
        rw [g1, g2]
    subst c1
    subst c2
    obtain ⟨k1, k2⟩ := run_pair (W := W) hp p q r s
    have k3 := run_eqGuard_agg (P := P) W op xT x y #[.int .i64 p, .int .i64 q] #[.int .i64 r, .int .i64 s] k2
    cases op <;> simp only at hK <;> first
      | exact hK.elim
      | (refine good_v h hd (s := do eqGuard _ xT x y (a.eval x) (a.eval y); binOp _ xT (a.eval x) (a.eval y)) (by simp [execOp, ho]; rfl) (v := .bool _) ?_ (av := .sc (.bool _)) rfl (fun id _ => sc_ids _ id) hK
         rw [e1, e2]
         first
           | (simp only [Sem.run_bind, k3, Result.andThen_ok, run_eql_struct, k1]; done)
           | (simp only [Sem.run_bind, k3, Result.andThen_ok, run_neq_struct, k1]; done))
  · exact hK.elim
theorem good_bin (h : InvS cx st sh a W Fr) (hd : ∀ d', o.dst = some d' → d' < cx.n) {op : BinOp} {xT yT : TypeId} {x y : Operand} (ho : o.op = .binOp op xT x y yT) {u v : Value} (hx : st.ev x = .sc u) (hy : st.ev y = .sc v)
    (hK : binK P xT op u v fun r => K ⟨.sc r, [], []⟩) : Good P cx st Fr nid o a W K Q := by
  have ex := h.ev x
  rw [hx] at ex
  have ey := h.ev y
  rw [hy] at ey
  obtain ⟨r, h1, _, h2⟩ := run_binOp (P := P) (W := W) hK
  refine good_v h hd (s := do eqGuard op xT x y (a.eval x) (a.eval y); binOp op xT (a.eval x) (a.eval y)) (by simp [execOp, ho]) (v := r) ?_ (av := .sc r) rfl (fun id _ => sc_ids r id) h1
  rw [show a.eval x = u from ex, show a.eval y = v from ey]
  exact h2 x y
theorem good_un (h : InvS cx st sh a W Fr) (hd : ∀ d', o.dst = some d' → d' < cx.n) {op : UnOp} {t : TypeId} {x : Operand} (ho : o.op = .unOp op t x) {u : Value} (hx : st.ev x = .sc u)
    (hK : unK op u fun r => K ⟨.sc r, [], []⟩) : Good P cx st Fr nid o a W K Q := by
  have ex := h.ev x
  rw [hx] at ex
  have ex : a.eval x = u := ex
  cases op with
  | neg => cases u with
    | int k n => exact good_v h hd (s := Op.unary .neg (a.eval x)) (by simp [execOp, ho]) (v := .int k (k.wrap (0 - n))) (by rw [ex]; rfl) (av := .sc (.int k (k.wrap (0 - n)))) rfl (fun id _ => sc_ids _ id) hK
    | _ => exact hK.elim
  | not => cases u with
    | bool b => exact good_v h hd (s := Op.unary .not (a.eval x)) (by simp [execOp, ho]) (v := .bool (!b)) (by rw [ex]; rfl) (av := .sc (.bool (!b))) rfl (fun id _ => sc_ids _ id) hK
    | _ => exact hK.elim
  | _ => exact hK.elim
end pure

section slices
variable {P : Program} {cx : Cx} {st : St} {sh : Sh} {a : Act} {W : World} {Fr : Nat → Prop} {nid : Nat} {o : Oper} {K : Eff → Prop} {Q : Exit → Act → World → Prop}

theorem cell_get {rows : Rows} {i j : Nat} {c : Cell} (h : Rows.cell rows i j = c) (hc : c ≠ .gone) : ∃ r, rows[i]? = some r ∧ r[j]? = some c := by
  unfold Rows.cell at h
  rcases hr : rows[i]? with _ | r
  · rw [List.getD_eq_getElem?_getD, List.getD_eq_getElem?_getD, hr] at h
    simp at h; exact absurd h.symm hc
  · refine ⟨r, rfl, ?_⟩
    rw [List.getD_eq_getElem?_getD, List.getD_eq_getElem?_getD, hr] at h
    simp only [Option.getD_some] at h
    rcases hj : r[j]? with _ | c'
    · rw [hj] at h; simp at h; exact absurd h.symm hc
    · rw [hj] at h; simp at h; rw [h]
/-- What an outer slice's cell holds. -/
theorem InvS.obj_cell (h : InvS cx st sh a W Fr) {id w : Nat} {rows : Rows} (ho : st.objs id = some (w, rows)) {i j : Nat} {r : List Cell} {c : Cell} (hi : rows[i]? = some r) (hj : r[j]? = some c) :
    ∃ (b n cap : Nat) (v : Value), sh.μ id = .slice (some ⟨b, 0, none⟩) n cap ∧ sh.lab b = .own id ∧ W.cell? ⟨b, i * w + j, none⟩ = some v ∧ OwnCell W sh.lab (.inn id i j) c v := by
  obtain ⟨_, _, hc⟩ := h.objs id w rows ho
  rcases hc with ⟨A, _, hn⟩ | ⟨b, cap, c', t, e1, _, e3, e4, _, e6⟩
  · rw [hn] at hi; simp at hi
  · obtain ⟨v, g1, g2⟩ := e6 i j r c hi hj
    exact ⟨b, _, cap, v, e1, e3, by rw [cell_cells e4]; exact g1, g2⟩
theorem InvS.own_head (h : InvS cx st sh a W Fr) {id w : Nat} {rows : Rows} (ho : st.objs id = some (w, rows)) {i j s : Nat} {xs : List Value} (hc : Rows.cell rows i j = .sl s xs) (hs : 0 < s) :
    ∃ v, headAt W (sh.μ id) w i j = some v ∧ OwnSl W sh.lab (.inn id i j) xs v := by
  obtain ⟨r, hi, hj⟩ := cell_get hc (by simp)
  obtain ⟨b, n, cap, v, e1, _, e3, e4⟩ := h.obj_cell ho hi hj
  refine ⟨v, by simp only [headAt, e1]; exact e3, ?_⟩
  cases s with
  | zero => omega
  | succ s => exact e4
theorem viewOf_len {h : Value} {A : Option Addr} {n cap w off len : Nat} (e : h = .slice A n cap) : ∃ A', viewOf h w off len = .slice A' len (cap - off) := by
  subst e; simp only [viewOf]; exact ⟨_, rfl⟩
theorem lift_length (xs : List Value) : (lift xs).length = xs.length := by simp [lift]
theorem InvS.rows_len (h : InvS cx st sh a W Fr) {s : SV} {v : Value} (hv : SVRep st W sh s v) {w : Nat} {rows : Rows} (hr : st.rows s = some (w, rows)) :
    ∃ A cap, v = .slice A rows.length cap ∧ rows.length ≤ cap := by
  unfold St.rows at hr
  split at hr
  · simp only [Option.some.injEq, Prod.mk.injEq] at hr
    obtain ⟨_, rfl⟩ := hr
    obtain ⟨A, cap, e, hl, _⟩ := hv
    exact ⟨A, cap, e, hl⟩
  · rename_i id w' off len
    split at hr
    · rename_i w'' rows' ho
      simp only [Option.some.injEq, Prod.mk.injEq] at hr
      obtain ⟨_, rfl⟩ := hr
      obtain ⟨_, g2, g3⟩ := hv w'' rows' ho
      have hlen : ((rows'.drop off).take len).length = len := by simp; omega
      rcases g3 with g3 | ⟨g3, A, g4⟩
      case inr => exact ⟨A, 0, by rw [hlen, g3]; exact g4, by rw [hlen, g3]; omega⟩
      obtain ⟨_, _, hc⟩ := h.objs id w'' rows' ho
      rcases hc with ⟨A, e, hn⟩ | ⟨b, cap, c', t, e, hcap, _⟩
      · obtain ⟨A', e'⟩ := viewOf_len (w := w') (off := off) (len := len) e
        rw [hn] at g2 hlen
        refine ⟨A', 0 - off, by rw [g3, e', hn, hlen], ?_⟩
        rw [hn, hlen]; simp at g2; omega
      · obtain ⟨A', e'⟩ := viewOf_len (w := w') (off := off) (len := len) e
        exact ⟨A', cap - off, by rw [g3, e', hlen], by rw [hlen]; omega⟩
    · cases hr
  · rename_i id i j s off len
    split at hr
    · rename_i w'' rows' ho
      split at hr
      · rename_i s' xs hc
        split at hr
        · rename_i es
          subst es
          simp only [Option.some.injEq, Prod.mk.injEq] at hr
          obtain ⟨_, rfl⟩ := hr
          obtain ⟨g0, g1, hd, g2, g3⟩ := hv.2 w'' rows' xs ho hc
          have hlen : (lift ((xs.drop off).take len)).length = len := by rw [lift_length]; simp; omega
          rcases g3 with g3 | ⟨g3, A, g4⟩
          case inr => exact ⟨A, 0, by rw [hlen, g3]; exact g4, by rw [hlen, g3]; omega⟩
          obtain ⟨v', k1, k2⟩ := h.own_head ho hc g0
          rw [g2] at k1; cases k1
          rcases k2 with ⟨A, e, hn⟩ | ⟨b, cap, c', t, e, hcap, _⟩
          · obtain ⟨A', e'⟩ := viewOf_len (w := 1) (off := off) (len := len) e
            rw [hn] at g1 hlen
            refine ⟨A', 0 - off, by rw [g3, e', hn, hlen], ?_⟩
            rw [hn, hlen]; simp at g1; omega
          · obtain ⟨A', e'⟩ := viewOf_len (w := 1) (off := off) (len := len) e
            exact ⟨A', cap - off, by rw [g3, e', hlen], by rw [hlen]; omega⟩
        · cases hr
      · cases hr
    · cases hr
  · cases hr

theorem elemOf_some {t w bytes : Nat} {z : List Value} (h : elemOf' P t = some (w, bytes, z)) : ∃ e i, P.underlying t = some (.slice e) ∧ P.info? e = some i ∧ i.size = w ∧ i.bytes = bytes ∧
    zeroOf P e = some z ∧ z.length = w ∧ 0 < w ∧ 0 < bytes ∧ bytes ≤ 4096 := by
  unfold elemOf' at h
  split at h
  · rename_i e he
    split at h
    · rename_i i z' hi hz
      split at h
      · rename_i hc
        simp only [Option.some.injEq, Prod.mk.injEq] at h
        obtain ⟨rfl, rfl, rfl⟩ := h
        exact ⟨e, i, he, hi, rfl, rfl, hz, hc.1, hc.2.1, hc.2.2.1, hc.2.2.2.1⟩
      · cases h
    · cases h
  · cases h
theorem elemOf_zero {t w bytes : Nat} {z : List Value} (h : elemOf' P t = some (w, bytes, z)) : ∀ v ∈ z, v.oneCell' = true := by
  unfold elemOf' at h
  split at h
  · split at h
    · split at h
      · rename_i hc
        simp only [Option.some.injEq, Prod.mk.injEq] at h
        obtain ⟨rfl, rfl, rfl⟩ := h
        exact fun v hv => List.all_eq_true.mp hc.2.2.2.2 v hv
      · cases h
    · cases h
  · cases h
theorem ownCell_one {lab : Nat → Lab} {L : Lab} {c : Cell} {v : Value} (h : OwnCell W lab L c v) : v.oneCell' = true := by
  cases c with
  | sc x => obtain ⟨rfl, h⟩ := h; exact h
  | gone => exact h
  | sl s xs => cases s with
    | zero => obtain ⟨A, cap, e, _⟩ := h; rw [e]; rfl
    | succ s => rcases h with ⟨A, e, _⟩ | ⟨b, cap, c, t, e, _⟩ <;> rw [e] <;> rfl
theorem imCell_one {lab : Nat → Lab} {c : Cell} {v : Value} (h : ImCell W lab c v) : v.oneCell' = true := by
  cases c with
  | sc x => obtain ⟨rfl, h⟩ := h; exact h
  | gone => exact h
  | sl s xs => obtain ⟨A, cap, e, _⟩ := h; rw [e]; rfl

theorem good_builtin (h : InvS cx st sh a W Fr) (hd : ∀ d', o.dst = some d' → d' < cx.n) {b : Builtin} {args : Array Operand} {tys : Array TypeId} (ho : o.op = .call ⟨.builtin b, args, tys⟩) {v : Value}
    (hr : (builtin b tys o.type (args.map fun | .const _ => true | _ => false) (args.map a.eval)).run P W = .ok (.value v) W) {av : AV} (hv : AVRep st W sh av v) (hid : ∀ id, Fr id → id ∉ av.ids) (hK : K ⟨av, [], []⟩) :
    Good P cx st Fr nid o a W K Q := by
  refine good_value h hd ?_ hv hid hK
  simp only [execOp, ho, resolve, invoke, Sem.run_bind]
  exact hr

theorem good_len_rows (h : InvS cx st sh a W Fr) (hd : ∀ d', o.dst = some d' → d' < cx.n) {x : Operand} {tys : Array TypeId} (ho : o.op = .call ⟨.builtin .len, #[x], tys⟩) {s : SV} (hx : st.ev x = .one s) {w : Nat} {rows : Rows}
    (hr : st.rows s = some (w, rows)) (ht : ((tys[0]?).bind (elemOf' P)).isSome = true) (hK : K ⟨.sc (.int .i64 rows.length), [], []⟩) : Good P cx st Fr nid o a W K Q := by
  have ex := h.ev x
  rw [hx] at ex
  obtain ⟨A, cap, e, _⟩ := h.rows_len ex hr
  rcases ht0 : tys[0]? with _ | t
  · rw [ht0] at ht; simp at ht
  · rw [ht0] at ht
    simp only [Option.bind_some] at ht
    obtain ⟨⟨w', bytes, z⟩, hz⟩ := Option.isSome_iff_exists.mp ht
    obtain ⟨el, i, hu, _⟩ := elemOf_some hz
    refine good_builtin h hd ho (v := .int .i64 rows.length) ?_ (av := .sc (.int .i64 rows.length)) rfl (fun id _ => sc_ids _ id) hK
    simp [builtin, Builtin.len_, ht0, e, Sem.run_bind, run_under hu, Result.andThen, goInt, Sem.run]
theorem good_len_nil (h : InvS cx st sh a W Fr) (hd : ∀ d', o.dst = some d' → d' < cx.n) {x : Operand} {tys : Array TypeId} (ho : o.op = .call ⟨.builtin .len, #[x], tys⟩) {v : Value} (hx : st.ev x = .sc v) (hn : isNil v = true)
    (ht : ((tys[0]?).bind (elemOf' P)).isSome = true) (hK : K ⟨.sc (.int .i64 0), [], []⟩) : Good P cx st Fr nid o a W K Q := by
  have ex := h.ev x
  rw [hx] at ex
  have ex : a.eval x = v := ex
  have ev : v = .slice none 0 0 := by unfold isNil at hn; split at hn <;> simp_all
  rcases ht0 : tys[0]? with _ | t
  · rw [ht0] at ht; simp at ht
  · rw [ht0] at ht
    simp only [Option.bind_some] at ht
    obtain ⟨⟨w', bytes, z⟩, hz⟩ := Option.isSome_iff_exists.mp ht
    obtain ⟨el, i, hu, _⟩ := elemOf_some hz
    refine good_builtin h hd ho (v := .int .i64 0) ?_ (av := .sc (.int .i64 0)) rfl (fun id _ => sc_ids _ id) hK
    simp [builtin, Builtin.len_, ht0, ex, ev, Sem.run_bind, run_under hu, Result.andThen, goInt, Sem.run]
theorem good_len_str (h : InvS cx st sh a W Fr) (hd : ∀ d', o.dst = some d' → d' < cx.n) {x : Operand} {tys : Array TypeId} (ho : o.op = .call ⟨.builtin .len, #[x], tys⟩) {s : ByteArray} (hx : st.ev x = .sc (.string s))
    (ht : (tys[0]?).bind P.underlying = some .string) (hK : K ⟨.sc (.int .i64 s.size), [], []⟩) : Good P cx st Fr nid o a W K Q := by
  have ex := h.ev x
  rw [hx] at ex
  have ex : a.eval x = .string s := ex
  rcases ht0 : tys[0]? with _ | t
  · rw [ht0] at ht; simp at ht
  · rw [ht0] at ht
    simp only [Option.bind_some] at ht
    refine good_builtin h hd ho (v := .int .i64 s.size) ?_ (av := .sc (.int .i64 s.size)) rfl (fun id _ => sc_ids _ id) hK
    simp [builtin, Builtin.len_, ht0, ex, Sem.run_bind, run_under ht, Result.andThen, goInt, Sem.run]
end slices

end Go.Proofs.YtedciihjgbkjgacGreatDoor.A

/-! THE ABSTRACT SEMANTICS IS SOUND, fourth part: loads, addresses, cuts and the like. Conditions: none. -/
namespace Go.Proofs.YtedciihjgbkjgacGreatDoor.A
open Go
set_option linter.unusedSimpArgs false
set_option linter.unusedVariables false

section load
variable {P : Program} {cx : Cx} {st : St} {sh : Sh} {a : Act} {W : World} {Fr : Nat → Prop} {nid : Nat} {o : Oper} {K : Eff → Prop} {Q : Exit → Act → World → Prop}

theorem imSl_lift {lab : Nat → Lab} {xs : List Value} {v : Value} (h : ImSl W lab xs v) : ImRep W lab 1 (lift xs) v := by
  obtain ⟨A, cap, e, hl, hc⟩ := h
  refine ⟨A, cap, by rw [lift_length]; exact e, by rw [lift_length]; exact hl, ?_, fun hne => ⟨by omega, ?_⟩⟩
  · intro r hr
    simp only [lift, List.mem_map] at hr
    obtain ⟨x, _, rfl⟩ := hr
    rfl
  · have hne' : xs ≠ [] := by intro e; rw [e] at hne; exact hne rfl
    obtain ⟨b, o, e1, e2, e3⟩ := hc hne'
    refine ⟨b, o, e1, e2, fun i r hi j c hj => ?_⟩
    simp only [lift, List.getElem?_map, Option.map_eq_some_iff] at hi
    obtain ⟨x, hx, rfl⟩ := hi
    cases j with
    | zero =>
      simp at hj; subst hj
      exact ⟨x, by simpa using (e3 i x hx).2, rfl, (e3 i x hx).1⟩
    | succ j => simp at hj
theorem viewOf_full {A : Option Addr} {n cap w : Nat} (hA : ∀ a, A = some a → a.spot = none) : viewOf (.slice A n cap) w 0 n = .slice A n cap := by
  simp only [viewOf, Nat.zero_mul, Nat.sub_zero]
  congr 1
  split
  · rfl
  · cases A <;> simp [Addr.add]
theorem ownSl_view {lab : Nat → Lab} {L : Lab} {xs : List Value} {v : Value} (h : OwnSl W lab L xs v) : v = viewOf v 1 0 xs.length := by
  rcases h with ⟨A, e, hn⟩ | ⟨b, cap, c, t, e, _⟩
  · subst e; subst hn
    simp [viewOf]
  · subst e; rw [viewOf_full]; intro a ha; cases ha; rfl
/-- A cell of an outer slice, as a value. -/
theorem InvS.cell_sv (h : InvS cx st sh a W Fr) {id w : Nat} {rows : Rows} (ho : st.objs id = some (w, rows)) {i j : Nat} {r : List Cell} {c : Cell} (hi : rows[i]? = some r) (hj : r[j]? = some c) {b n cap : Nat} {v : Value}
    (hμ : sh.μ id = .slice (some ⟨b, 0, none⟩) n cap) (hv : W.cell? ⟨b, i * w + j, none⟩ = some v) (hc : OwnCell W sh.lab (.inn id i j) c v) : SVRep st W sh (c.sv id i j) v := by
  cases c with
  | sc x => exact hc.1
  | gone => exact trivial
  | sl s xs => cases s with
    | zero => exact imSl_lift hc
    | succ s =>
      refine ⟨by omega, fun w' rows' xs' ho' hc' => ?_⟩
      rw [ho] at ho'; cases ho'
      have e : Rows.cell rows i j = .sl (s + 1) xs := by simp [Rows.cell, List.getD_eq_getElem?_getD, hi, hj]
      rw [e] at hc'; cases hc'
      exact ⟨by omega, by omega, v, by simp only [headAt, hμ]; exact hv, .inl (ownSl_view hc)⟩
theorem svs_get (id i : Nat) : ∀ (row : List Cell) (j k : Nat), (svs id i j row)[k]? = (row[k]?).map fun c => c.sv id i (j + k)
  | [], _, _ => by simp [svs]
  | c :: r, j, 0 => by simp [svs]
  | c :: r, j, k + 1 => by simp [svs, svs_get id i r (j + 1) k]; congr 1; funext c; congr 1; omega
theorem svs_length (id i : Nat) : ∀ (row : List Cell) (j : Nat), (svs id i j row).length = row.length
  | [], _ => rfl
  | c :: r, j => by simp [svs, svs_length id i r (j + 1)]

theorem run_loadAt {t : TypeId} {b o : Nat} {r : Result Value} (h : (loadVar t ⟨b, o, none⟩).run P W = r) : (Instr.loadAt t (.pointer (some ⟨b, o, none⟩))).run P W = r := by
  simp only [Instr.loadAt, Instr.sureAddr]
  exact h
/-- Cells that read so, one after another. -/
theorem load_cells {t : TypeId} {n : Option Nat} (ht : aggOf P t = some n) {b off : Nat} {xs : List SV} {vs : List Value} (hx : All2 (SVRep st W sh) xs vs) (hv : ∀ (j : Nat) (v : Value), vs[j]? = some v → W.cell? ⟨b, off + j, none⟩ = some v) :
    (∀ m, n = some m → ∀ j, j + m ≤ xs.length → ∃ v, (Instr.loadAt t (.pointer (some ⟨b, off + j, none⟩))).run P W = .ok v W ∧ AVRep st W sh (.agg ((xs.drop j).take m)) v) ∧
    (n = none → ∀ j, j < xs.length → ∃ v, (Instr.loadAt t (.pointer (some ⟨b, off + j, none⟩))).run P W = .ok v W ∧ AVRep st W sh (.one (xs.getD j .un)) v) := by
  have hlen := all2_length hx
  constructor
  · rintro m rfl j hj
    have hl : ((vs.drop j).take m).length = m := by simp; omega
    refine ⟨.agg ((vs.drop j).take m).toArray, run_loadAt (run_loadn ht hl fun k v hk => ?_), ((vs.drop j).take m).toArray, rfl, all2_take m (all2_drop j hx)⟩
    rw [List.getElem?_take] at hk
    split at hk
    · rw [List.getElem?_drop] at hk
      rw [show off + j + k = off + (j + k) by omega]
      exact hv (j + k) v hk
    · cases hk
  · rintro rfl j hj
    obtain ⟨v, h1, h2⟩ := all2_get hx (List.getElem?_eq_getElem hj)
    refine ⟨v, run_loadAt (run_load1 ht (hv j v h1)), ?_⟩
    rw [List.getD_eq_getElem?_getD, List.getElem?_eq_getElem hj]
    exact h2
theorem imCell_isv {c : Cell} {v : Value} (h : ImCell W sh.lab c v) : SVRep st W sh c.isv v := by
  cases c with
  | sc x => exact h.1
  | sl s xs => exact imSl_lift h
  | gone => exact trivial
theorem fld_sv {f : Fld} {v : Value} (h : FldRep W sh.lab f v) : SVRep st W sh f.sv v := by
  cases f with
  | sc x => exact h
  | im w rows => exact h
theorem agg_ids {xs : List SV} {id : Nat} (h : id ∈ (AV.agg xs).ids) : ∃ s ∈ xs, id ∈ s.ids := by
  simpa [AV.ids, AV.svs, Pk.svs] using h
theorem one_ids {s : SV} {id : Nat} : id ∈ (AV.one s).ids ↔ id ∈ s.ids := by
  simp [AV.ids, AV.svs, Pk.svs]
theorem isv_ids (c : Cell) (id : Nat) : id ∉ c.isv.ids := by cases c <;> simp [Cell.isv, SV.ids]
theorem fsv_ids (c : Fld) (id : Nat) : id ∉ c.sv.ids := by cases c <;> simp [Fld.sv, SV.ids]

theorem InvS.svs_ids (h : InvS cx st sh a W Fr) {id w : Nat} {rows : Rows} (ho : st.objs id = some (w, rows)) {i : Nat} {r : List Cell} {f : Nat} (hf : Fr f) (hi : rows[i]? = some r) :
    ∀ s ∈ svs id i 0 r, f ∉ s.ids := by
  intro s hs hm
  obtain ⟨k, hk⟩ := List.getElem?_of_mem hs
  rw [svs_get] at hk
  simp only [Option.map_eq_some_iff, Nat.zero_add] at hk
  obtain ⟨c, hc, rfl⟩ := hk
  have hne : id ≠ f := by rintro rfl; rw [(h.fresh id hf).2.1] at ho; cases ho
  have e : Rows.cell rows i k = c := by simp [Rows.cell, List.getD_eq_getElem?_getD, hi, hc]
  cases c with
  | sc x => simp [Cell.sv, SV.ids] at hm
  | gone => simp [Cell.sv, SV.ids] at hm
  | sl q xs => cases q with
    | zero => simp [Cell.sv, SV.ids] at hm
    | succ q =>
      simp only [Cell.sv, SV.ids, List.mem_cons, List.not_mem_nil, or_false] at hm
      rcases hm with rfl | rfl
      · exact hne rfl
      · exact h.stamps id w rows i k _ xs ho e hf

theorem good_load (h : InvS cx st sh a W Fr) (hd : ∀ d', o.dst = some d' → d' < cx.n) {t : TypeId} {x : Operand} (ho : o.op = .load t x) {n : Option Nat} (ht : aggOf P t = some n) {s : SV} (hx : st.ev x = .one s)
    (hK : loadK st s n fun v => K ⟨v, [], []⟩) : Good P cx st Fr nid o a W K Q := by
  have ex := h.ev x
  rw [hx] at ex
  have ex : SVRep st W sh s (a.eval x) := ex
  have key : ∃ av v, K ⟨av, [], []⟩ ∧ (Instr.loadAt t (a.eval x)).run P W = .ok v W ∧ AVRep st W sh av v ∧ ∀ id, Fr id → id ∉ av.ids := by
    cases s with
    | vad id j =>
      simp only [loadK] at hK
      rcases hf : st.vars id with _ | fs
      · rw [hf] at hK; exact hK.elim
      · rw [hf] at hK
        have e := ex fs hf
        obtain ⟨_, c, tt, h2, h3⟩ := h.vars id fs hf
        have hc : ∀ (j : Nat) (v : Value), c.toList[j]? = some v → W.cell? ⟨sh.β id, 0 + j, none⟩ = some v := fun j v hj => by
          rw [cell_cells h2, Nat.zero_add]; simpa using hj
        obtain ⟨L1, L2⟩ := load_cells (P := P) ht h3 hc
        rw [e]
        cases n with
        | none =>
          obtain ⟨v, g1, g2⟩ := L2 rfl j hK.1
          rw [Nat.zero_add] at g1
          refine ⟨_, v, hK.2, g1, g2, fun f hf' => ?_⟩
          rw [one_ids, List.getD_eq_getElem?_getD, List.getElem?_eq_getElem hK.1]
          exact (h.fresh f hf').2.2.2 id fs hf _ (by simp)
        | some m =>
          obtain ⟨v, g1, g2⟩ := L1 m rfl j hK.1
          rw [Nat.zero_add] at g1
          refine ⟨_, v, hK.2, g1, g2, fun f hf' hm => ?_⟩
          obtain ⟨s', m1, m2⟩ := agg_ids hm
          exact (h.fresh f hf').2.2.2 id fs hf s' (List.mem_of_mem_drop (List.mem_of_mem_take m1)) m2
    | oad id i j =>
      simp only [loadK] at hK
      rcases hf : st.objs id with _ | ⟨w, rows⟩
      · rw [hf] at hK; exact hK.elim
      · rw [hf] at hK
        have hi : i < rows.length := by cases n <;> exact hK.1
        obtain ⟨b, nn, cap, e1, e2⟩ := ex w rows hf hi
        have hrow : rows.getD i [] = rows[i] := by rw [List.getD_eq_getElem?_getD, List.getElem?_eq_getElem hi]; rfl
        have hi' : rows[i]? = some rows[i] := List.getElem?_eq_getElem hi
        obtain ⟨_, hrl, hcs⟩ := h.objs id w rows hf
        rcases hcs with ⟨A, _, hn⟩ | ⟨b', cap', c', t', k1, _, k3, k4, k5, k6⟩
        · subst hn; simp at hi
        · rw [e1] at k1; cases k1
          have hvs : ∃ vs : List Value, All2 (SVRep st W sh) (svs id i 0 rows[i]) vs ∧ ∀ (j : Nat) (v : Value), vs[j]? = some v → W.cell? ⟨b, i * w + j, none⟩ = some v := by
            refine ⟨(List.range rows[i].length).map fun j => (W.cell? ⟨b, i * w + j, none⟩).getD undef, all2_of_get (by simp [svs_length]) ?_, ?_⟩
            · intro k s v hk hv
              rw [svs_get] at hk
              simp only [Option.map_eq_some_iff, Nat.zero_add] at hk
              obtain ⟨c, hc, rfl⟩ := hk
              have hkl : k < rows[i].length := (List.getElem?_eq_some_iff.mp hc).1
              simp only [List.getElem?_map, List.getElem?_range hkl, Option.map_some, Option.some.injEq] at hv
              obtain ⟨v', g1, g2⟩ := k6 i k _ c hi' hc
              rw [← cell_cells (W := W) k4] at g1
              rw [g1] at hv
              simp only [Option.getD_some] at hv
              subst hv
              exact h.cell_sv hf hi' hc e1 g1 g2
            · intro j v hj
              by_cases hl : j < rows[i].length
              · simp only [List.getElem?_map, List.getElem?_range hl, Option.map_some, Option.some.injEq] at hj
                obtain ⟨v', g1, _⟩ := k6 i j _ _ hi' (List.getElem?_eq_getElem hl)
                rw [← cell_cells (W := W) k4] at g1
                rw [g1] at hj ⊢
                simp only [Option.getD_some] at hj
                rw [hj]
              · rw [List.getElem?_eq_none (by simp; omega)] at hj; cases hj
          obtain ⟨vs, hvs1, hvs2⟩ := hvs
          obtain ⟨L1, L2⟩ := load_cells (P := P) ht hvs1 hvs2
          rw [e2]
          have hids : ∀ f, Fr f → ∀ s ∈ svs id i 0 rows[i], f ∉ s.ids := fun f hf' => h.svs_ids hf hf' hi'
          cases n with
          | none =>
            simp only [hrow] at hK
            have hj : j < (svs id i 0 rows[i]).length := by rw [svs_length]; exact hK.2.1
            obtain ⟨v, g1, g2⟩ := L2 rfl j hj
            have e : (svs id i 0 rows[i]).getD j .un = (Rows.cell rows i j).sv id i j := by
              rw [List.getD_eq_getElem?_getD, svs_get]
              simp only [Rows.cell, hrow, Nat.zero_add, List.getD_eq_getElem?_getD, List.getElem?_eq_getElem hK.2.1, Option.map_some, Option.getD_some]
            rw [e] at g2
            refine ⟨_, v, hK.2.2, by simpa using g1, g2, fun f hf' => ?_⟩
            rw [one_ids, ← e, List.getD_eq_getElem?_getD, List.getElem?_eq_getElem hj]
            exact hids f hf' _ (by simp)
          | some m =>
            simp only [hrow] at hK
            obtain ⟨v, g1, g2⟩ := L1 m rfl j (by rw [svs_length]; exact hK.2.1)
            refine ⟨_, v, hK.2.2, by simpa using g1, g2, fun f hf' hm => ?_⟩
            obtain ⟨s', m1, m2⟩ := agg_ids hm
            exact hids f hf' s' (List.mem_of_mem_drop (List.mem_of_mem_take m1)) m2
    | oin id i j s k =>
      simp only [loadK] at hK
      rcases hf : st.objs id with _ | ⟨w, rows⟩
      · rw [hf] at hK; exact hK.elim
      · rw [hf] at hK
        simp only at hK
        rcases hc : Rows.cell rows i j with _ | ⟨s', xs⟩ | _
        · rw [hc] at hK; exact hK.elim
        · rw [hc] at hK
          obtain ⟨rfl, rfl, hk, hK⟩ := hK
          obtain ⟨g0, b, nn, cap, g1, g2⟩ := ex.2 w rows xs hf hc hk
          obtain ⟨v', k1, k2⟩ := h.own_head hf hc g0
          rw [g1] at k1; cases k1
          rcases k2 with ⟨A, e, hn⟩ | ⟨b', cap', c', t', e, _, _, e4, _, e6⟩
          · subst hn; simp at hk
          · cases e
            have hcell : W.cell? ⟨b, k, none⟩ = some xs[k] := by
              rw [cell_cells e4]; exact (e6 k _ (List.getElem?_eq_getElem hk)).2
            refine ⟨_, xs[k], hK, by rw [g2]; exact run_loadAt (run_load1 ht hcell), ?_, fun id _ => sc_ids _ id⟩
            show _ = _
            rw [List.getD_eq_getElem?_getD, List.getElem?_eq_getElem hk]; rfl
        · rw [hc] at hK; exact hK.elim
    | iad row j =>
      obtain ⟨b, off, e, hl, hr⟩ := ex
      simp only [loadK] at hK
      have hvs : ∃ vs : List Value, All2 (SVRep st W sh) (row.map Cell.isv) vs ∧ ∀ (j : Nat) (v : Value), vs[j]? = some v → W.cell? ⟨b, off + j, none⟩ = some v := by
        refine ⟨(List.range row.length).map fun j => (W.cell? ⟨b, off + j, none⟩).getD undef, all2_of_get (by simp) ?_, ?_⟩
        · intro k s v hk hv
          simp only [List.getElem?_map, Option.map_eq_some_iff] at hk
          obtain ⟨c, hc, rfl⟩ := hk
          have hkl : k < row.length := (List.getElem?_eq_some_iff.mp hc).1
          simp only [List.getElem?_map, List.getElem?_range hkl, Option.map_some, Option.some.injEq] at hv
          obtain ⟨v', g1, g2⟩ := hr k c hc
          rw [g1] at hv
          simp only [Option.getD_some] at hv
          subst hv
          exact imCell_isv g2
        · intro j v hj
          by_cases hl : j < row.length
          · simp only [List.getElem?_map, List.getElem?_range hl, Option.map_some, Option.some.injEq] at hj
            obtain ⟨v', g1, _⟩ := hr j _ (List.getElem?_eq_getElem hl)
            rw [g1] at hj ⊢
            simp only [Option.getD_some] at hj
            rw [hj]
          · rw [List.getElem?_eq_none (by simp; omega)] at hj; cases hj
      obtain ⟨vs, hvs1, hvs2⟩ := hvs
      obtain ⟨L1, L2⟩ := load_cells (P := P) ht hvs1 hvs2
      rw [e]
      cases n with
      | none =>
        obtain ⟨v, g1, g2⟩ := L2 rfl j (by simpa using hK.1)
        have e' : (row.map Cell.isv).getD j .un = (row.getD j .gone).isv := by
          simp only [List.getD_eq_getElem?_getD, List.getElem?_map, List.getElem?_eq_getElem hK.1, Option.map_some, Option.getD_some]
        rw [e'] at g2
        exact ⟨_, v, hK.2, g1, g2, fun f _ hm => isv_ids _ f (one_ids.mp hm)⟩
      | some m =>
        obtain ⟨v, g1, g2⟩ := L1 m rfl j (by simpa using hK.1)
        refine ⟨_, v, hK.2, g1, g2, fun f _ hm => ?_⟩
        obtain ⟨s', m1, m2⟩ := agg_ids hm
        obtain ⟨c, _, rfl⟩ := List.mem_map.mp (List.mem_of_mem_drop (List.mem_of_mem_take m1))
        exact isv_ids c f m2
    | ipt fs j =>
      obtain ⟨b, off, e, hl, hr⟩ := ex
      simp only [loadK] at hK
      have hvs : ∃ vs : List Value, All2 (SVRep st W sh) (fs.map Fld.sv) vs ∧ ∀ (j : Nat) (v : Value), vs[j]? = some v → W.cell? ⟨b, off + j, none⟩ = some v := by
        refine ⟨(List.range fs.length).map fun j => (W.cell? ⟨b, off + j, none⟩).getD undef, all2_of_get (by simp) ?_, ?_⟩
        · intro k s v hk hv
          simp only [List.getElem?_map, Option.map_eq_some_iff] at hk
          obtain ⟨c, hc, rfl⟩ := hk
          have hkl : k < fs.length := (List.getElem?_eq_some_iff.mp hc).1
          simp only [List.getElem?_map, List.getElem?_range hkl, Option.map_some, Option.some.injEq] at hv
          obtain ⟨v', g1, g2⟩ := hr k c hc
          rw [g1] at hv
          simp only [Option.getD_some] at hv
          subst hv
          exact fld_sv g2
        · intro j v hj
          by_cases hl : j < fs.length
          · simp only [List.getElem?_map, List.getElem?_range hl, Option.map_some, Option.some.injEq] at hj
            obtain ⟨v', g1, _⟩ := hr j _ (List.getElem?_eq_getElem hl)
            rw [g1] at hj ⊢
            simp only [Option.getD_some] at hj
            rw [hj]
          · rw [List.getElem?_eq_none (by simp; omega)] at hj; cases hj
      obtain ⟨vs, hvs1, hvs2⟩ := hvs
      obtain ⟨L1, L2⟩ := load_cells (P := P) ht hvs1 hvs2
      rw [e]
      cases n with
      | none =>
        obtain ⟨v, g1, g2⟩ := L2 rfl j (by simpa using hK.1)
        refine ⟨_, v, hK.2, g1, g2, fun f _ hm => ?_⟩
        rw [one_ids, List.getD_eq_getElem?_getD, List.getElem?_map, List.getElem?_eq_getElem hK.1] at hm
        exact fsv_ids _ f hm
      | some m =>
        obtain ⟨v, g1, g2⟩ := L1 m rfl j (by simpa using hK.1)
        refine ⟨_, v, hK.2, g1, g2, fun f _ hm => ?_⟩
        obtain ⟨s', m1, m2⟩ := agg_ids hm
        obtain ⟨c, _, rfl⟩ := List.mem_map.mp (List.mem_of_mem_drop (List.mem_of_mem_take m1))
        exact fsv_ids c f m2
    | _ => exact hK.elim
  obtain ⟨av, v, h1, h2, h3, h4⟩ := key
  exact good_v h hd (s := Instr.loadAt t (a.eval x)) (by simp [execOp, ho]) h2 h3 h4 h1
end load
end Go.Proofs.YtedciihjgbkjgacGreatDoor.A

/-! THE ABSTRACT SEMANTICS IS SOUND, fifth part: addresses, cuts and the like. Conditions: none. -/
namespace Go.Proofs.YtedciihjgbkjgacGreatDoor.A
open Go
set_option linter.unusedSimpArgs false
set_option linter.unusedVariables false

section addr
variable {P : Program} {cx : Cx} {st : St} {sh : Sh} {a : Act} {W : World} {Fr : Nat → Prop} {nid : Nat} {o : Oper} {K : Eff → Prop} {Q : Exit → Act → World → Prop}

theorem run_fieldAt {t : TypeId} {f off : Nat} {n : Option Nat} (h : fieldOf P t f = some (off, n)) (b o : Nat) :
    (Instr.fieldAt t (.pointer (some ⟨b, o, none⟩)) f).run P W = .ok (.pointer (some ⟨b, o + off, none⟩)) W := by
  unfold fieldOf at h
  split at h
  · rename_i fs hu
    split at h
    · rename_i fl hf
      split at h
      · rename_i n' ha
        split at h
        · cases h
        · rename_i hn
          simp only [Option.some.injEq, Prod.mk.injEq] at h
          obtain ⟨rfl, rfl⟩ := h
          have hs := (aggOf_some (W := W) ha).2
          have hz : ¬ n'.getD 1 = 0 := by
            cases n' with
            | none => simp
            | some m => simp; rintro rfl; exact hn rfl
          simp [Instr.fieldAt, Sem.run_bind, run_under hu, Result.andThen, hf, Instr.sureAddr, fieldPlace, hs, hz, add_mk, Sem.run]
      · cases h
    · cases h
  · cases h

theorem good_fieldAddr (h : InvS cx st sh a W Fr) (hd : ∀ d', o.dst = some d' → d' < cx.n) {t : TypeId} {x : Operand} {f : Nat} (ho : o.op = .fieldAddr t x f) {off : Nat} {n : Option Nat} (ht : fieldOf P t f = some (off, n))
    {s : SV} (hx : st.ev x = .one s) (hK : fldA st off s K) : Good P cx st Fr nid o a W K Q := by
  have ex := h.ev x
  rw [hx] at ex
  have ex : SVRep st W sh s (a.eval x) := ex
  have ids : ∀ id, Fr id → id ∉ s.ids := fun id hf => by have := h.ev_ids x hf; rwa [hx, one_ids] at this
  have key : ∃ v s', K ⟨.one s', [], []⟩ ∧ (Instr.fieldAt t (a.eval x) f).run P W = .ok v W ∧ SVRep st W sh s' v ∧ s'.ids = s.ids := by
    cases s with
    | vad id j =>
      obtain ⟨h1, hK⟩ := hK
      obtain ⟨fs, hf⟩ := Option.ne_none_iff_exists'.mp h1
      refine ⟨_, _, hK, by rw [ex fs hf]; exact run_fieldAt ht _ _, fun fs' hf' => rfl, rfl⟩
    | oad id i j =>
      simp only [fldA] at hK
      rcases hf : st.objs id with _ | ⟨w, rows⟩
      · rw [hf] at hK; exact hK.elim
      · rw [hf] at hK
        obtain ⟨h1, hK⟩ := hK
        obtain ⟨b, nn, cap, e1, e2⟩ := ex w rows hf h1
        refine ⟨_, _, hK, by rw [e2]; exact run_fieldAt ht _ _, fun w' rows' ho' hi' => ?_, rfl⟩
        rw [hf] at ho'; cases ho'
        exact ⟨b, nn, cap, e1, by rw [Nat.add_assoc]⟩
    | iad row j =>
      obtain ⟨b, off', e, hl, hr⟩ := ex
      exact ⟨_, _, hK, by rw [e]; exact run_fieldAt ht _ _, ⟨b, off', by rw [Nat.add_assoc], hl, hr⟩, rfl⟩
    | ipt fs j =>
      obtain ⟨b, off', e, hl, hr⟩ := ex
      exact ⟨_, _, hK, by rw [e]; exact run_fieldAt ht _ _, ⟨b, off', by rw [Nat.add_assoc], hl, hr⟩, rfl⟩
    | _ => exact hK.elim
  obtain ⟨v, s', h0, h1, h2, h3⟩ := key
  exact good_v h hd (s := Instr.fieldAt t (a.eval x) f) (by simp [execOp, ho]) h1 (av := .one s') h2 (fun id hf => by rw [one_ids, h3]; exact ids id hf) h0

theorem run_indexAt {t e : TypeId} {i : TypeInfo} {w : Nat} (hu : P.underlying t = some (.slice e)) (hi : P.info? e = some i) (hw : i.size = w) {b o len cap : Nat} {ik : IntKind} {n : Int} (h0 : 0 ≤ n) (h1 : n.toNat < len) :
    (Instr.indexAt t (.slice (some ⟨b, o, none⟩) len cap) (.int ik n)).run P W = .ok (.pointer (some ⟨b, o + n.toNat * w, none⟩)) W := by
  have hc : 0 ≤ n ∧ n < (len : Int) := ⟨h0, by omega⟩
  simp [Instr.indexAt, Sem.run_bind, asIntOf, run_under hu, Result.andThen, run_size hi, hc, hw, add_mk, Sem.run]

theorem asNat_eq {x : AV} {K : Nat → Prop} (h : asNat x K) : ∃ ik n, x = .sc (.int ik n) ∧ 0 ≤ n ∧ K n.toNat := by
  unfold asNat at h
  split at h
  · rename_i ik n
    exact ⟨ik, n, rfl, h.1, h.2⟩
  · exact h.elim

theorem good_indexAddr (h : InvS cx st sh a W Fr) (hd : ∀ d', o.dst = some d' → d' < cx.n) {t : TypeId} {x i : Operand} (ho : o.op = .indexAddr t x i) {e bytes : Nat} {z : List Value} (ht : elemOf' P t = some (e, bytes, z)) {s : SV} (hx : st.ev x = .one s)
    (hK : asNat (st.ev i) fun k => idxA st e s k K) : Good P cx st Fr nid o a W K Q := by
  have ex := h.ev x
  rw [hx] at ex
  have ex : SVRep st W sh s (a.eval x) := ex
  have ids : ∀ id, Fr id → id ∉ s.ids := fun id hf => by have := h.ev_ids x hf; rwa [hx, one_ids] at this
  obtain ⟨el, info, hu, hin, hsz, _, _, _, _, _, _⟩ := elemOf_some ht
  obtain ⟨ik, n, ei, h0, hQ⟩ := asNat_eq hK
  clear hK
  have ev := h.ev i
  rw [ei] at ev
  have ev : a.eval i = .int ik n := ev
  have key : ∃ v s', K ⟨.one s', [], []⟩ ∧ (Instr.indexAt t (a.eval x) (a.eval i)).run P W = .ok v W ∧ SVRep st W sh s' v ∧ ∀ id ∈ s'.ids, id ∈ s.ids := by
    rw [ev]
    cases s with
    | im w rows =>
      obtain ⟨rfl, hk, hQ⟩ := hQ
      obtain ⟨A, cap, e1, e2, e3, e4⟩ := ex
      obtain ⟨_, b, off, eA, hl, hr⟩ := e4 (by rintro rfl; simp at hk)
      subst eA
      refine ⟨_, _, hQ, by rw [e1]; exact run_indexAt hu hin hsz h0 hk, ⟨b, off + n.toNat * w, rfl, hl, ?_⟩, by simp [SV.ids]⟩
      rw [List.getD_eq_getElem?_getD, List.getElem?_eq_getElem hk]
      exact hr _ _ (List.getElem?_eq_getElem hk)
    | ref id w off len =>
      obtain ⟨hne, rfl, hk, hQ⟩ := hQ
      obtain ⟨⟨w', rows⟩, hob⟩ := Option.ne_none_iff_exists'.mp hne
      obtain ⟨rfl, g2, g3⟩ := ex w' rows hob
      rcases g3 with g3 | ⟨g3, _⟩
      case inr => omega
      obtain ⟨_, _, hc⟩ := h.objs id w' rows hob
      rcases hc with ⟨A, _, hn⟩ | ⟨b, cap, c', t', e1, e2, _⟩
      · subst hn; simp at g2; omega
      · have hcap : cap ≠ off := by omega
        simp only [e1, viewOf, if_neg hcap, Option.map_some, add_mk] at g3
        refine ⟨_, _, hQ, by rw [g3]; exact run_indexAt hu hin hsz h0 hk, fun w2 rows2 ho2 hi2 => ?_, by simp [SV.ids]⟩
        rw [hob] at ho2; cases ho2
        refine ⟨b, _, cap, e1, ?_⟩
        rw [Nat.add_mul]; simp
    | rin id i' j s off len =>
      simp only [idxA] at hQ
      rcases hob : st.objs id with _ | ⟨w, rows⟩
      · rw [hob] at hQ; exact hQ.elim
      · rw [hob] at hQ
        simp only at hQ
        rcases hc : Rows.cell rows i' j with _ | ⟨s', xs⟩ | _
        · rw [hc] at hQ; exact hQ.elim
        · rw [hc] at hQ
          obtain ⟨rfl, rfl, hk, hQ⟩ := hQ
          obtain ⟨g0, g1, hd', g2, g3⟩ := ex.2 w rows xs hob hc
          rcases g3 with g3 | ⟨g3, _⟩
          case inr => omega
          obtain ⟨v', k1, k2⟩ := h.own_head hob hc g0
          rw [g2] at k1; cases k1
          rcases k2 with ⟨A, _, hn⟩ | ⟨b, cap, c', t', e1, e2, _⟩
          · subst hn; simp at g1; omega
          · have hcap : cap ≠ off := by omega
            subst e1
            simp only [viewOf, if_neg hcap, Option.map_some, add_mk, Nat.mul_one, Nat.zero_add] at g3
            refine ⟨_, _, hQ, by rw [g3]; exact run_indexAt hu hin hsz h0 hk, ⟨g0, fun w2 rows2 xs2 ho2 hc2 hq => ?_⟩, by simp [SV.ids]⟩
            rw [hob] at ho2; cases ho2
            rw [hc] at hc2; cases hc2
            exact ⟨g0, b, _, cap, g2, by rw [Nat.mul_one]⟩
        · rw [hc] at hQ; exact hQ.elim
    | _ => exact hQ.elim
  obtain ⟨v, s', h1, h2, h3, h4⟩ := key
  exact good_v h hd (s := Instr.indexAt t (a.eval x) (a.eval i)) (by simp [execOp, ho]) h2 (av := .one s') h3 (fun id hf hm => ids id hf (h4 id (one_ids.mp hm))) h1

theorem bytes_get (s : ByteArray) (k : Nat) (h : k < s.size) : s[k]? = some (s.data.toList.getD k 0) := by
  rw [List.getD_eq_getElem?_getD]
  have hk : k < s.data.toList.length := by rw [Array.length_toList]; exact h
  rw [List.getElem?_eq_getElem hk]
  rw [getElem?_pos s k h]
  rfl
theorem good_index_str (h : InvS cx st sh a W Fr) (hd : ∀ d', o.dst = some d' → d' < cx.n) {t : TypeId} {x i : Operand} (ho : o.op = .index t x i) (hu : P.underlying t = some .string) {s : ByteArray} (hx : st.ev x = .sc (.string s))
    (hK : asNat (st.ev i) fun k => k < s.size ∧ K ⟨.sc (.int .u8 (s.data.toList.getD k 0).toNat), [], []⟩) : Good P cx st Fr nid o a W K Q := by
  have ex := h.ev x
  rw [hx] at ex
  have ex : a.eval x = .string s := ex
  obtain ⟨ik, n, ei, h0, hk, hK⟩ := asNat_eq hK
  have ev := h.ev i
  rw [ei] at ev
  have ev : a.eval i = .int ik n := ev
  refine good_v h hd (s := Instr.index t (a.eval x) (a.eval i)) (by simp [execOp, ho]) (v := .int .u8 (s.data.toList.getD n.toNat 0).toNat) ?_ (av := .sc (.int .u8 (s.data.toList.getD n.toNat 0).toNat)) rfl (fun id _ => sc_ids _ id) hK
  have e := bytes_get s _ hk
  rw [ex, ev]
  simp only [Instr.index, Sem.run_bind, asIntOf, Sem.run_pure, Result.andThen, run_under hu]
  rw [if_pos h0, e]
  rfl

theorem good_index_arr (h : InvS cx st sh a W Fr) (hd : ∀ d', o.dst = some d' → d' < cx.n) {t : TypeId} {x i : Operand} (ho : o.op = .index t x i) {n : Nat} {e : TypeId} (hu : P.underlying t = some (.array n e)) {xs : List SV} (hx : st.ev x = .agg xs)
    (he : aggOf P e = some none) (hl : xs.length = n) (hK : asNat (st.ev i) fun k => k < n ∧ K ⟨.one (xs.getD k .un), [], []⟩) : Good P cx st Fr nid o a W K Q := by
  have ex := h.ev x
  rw [hx] at ex
  obtain ⟨cs, ec, h2⟩ := ex
  obtain ⟨ik, m, ei, h0, hk, hK⟩ := asNat_eq hK
  have ev := h.ev i
  rw [ei] at ev
  have ev : a.eval i = .int ik m := ev
  have hk' : m.toNat < xs.length := by omega
  obtain ⟨v, g1, g2⟩ := all2_get h2 (List.getElem?_eq_getElem hk')
  have g1 : cs[m.toNat]? = some v := by simpa using g1
  obtain ⟨a1, a2⟩ := aggOf_some (W := W) he
  refine good_v h hd (s := Instr.index t (a.eval x) (a.eval i)) (by simp [execOp, ho]) (v := v) ?_ (av := .one (xs.getD m.toNat .un)) ?_ (fun id hf => ?_) hK
  · rw [ec, ev]
    have hc : 0 ≤ m ∧ m < (n : Int) := ⟨h0, by omega⟩
    simp [Instr.index, Sem.run_bind, asIntOf, Sem.run_pure, Result.andThen, run_under hu, hc, a2, part, a1, g1]
  · rw [List.getD_eq_getElem?_getD, List.getElem?_eq_getElem hk']; exact g2
  · rw [one_ids, List.getD_eq_getElem?_getD, List.getElem?_eq_getElem hk']
    intro hm
    have := h.ev_ids x hf
    rw [hx] at this
    exact this (by simp only [AV.ids, AV.svs, Pk.svs, List.mem_flatMap]; exact ⟨_, List.getElem_mem hk', hm⟩)

theorem good_extract (h : InvS cx st sh a W Fr) (hd : ∀ d', o.dst = some d' → d' < cx.n) {x : Operand} {k : Nat} (ho : o.op = .extract x k) {ps : List Pk} {p : Pk} (hx : st.ev x = .tup ps) (hp : ps[k]? = some p) (hK : K ⟨.pk p, [], []⟩) :
    Good P cx st Fr nid o a W K Q := by
  have ex := h.ev x
  rw [hx] at ex
  obtain ⟨vs, e, h2⟩ := ex
  obtain ⟨v, g1, g2⟩ := all2_get h2 hp
  have g1 : vs[k]? = some v := by simpa using g1
  refine good_v h hd (s := Instr.extract (a.eval x) k) (by simp [execOp, ho]) (v := v) ?_ (av := .pk p) g2 (fun id hf hm => ?_) hK
  · rw [e]; simp [Instr.extract, g1, Sem.run_pure]
  · have := h.ev_ids x hf
    rw [hx] at this
    refine this ?_
    simp only [AV.ids, AV.svs, List.mem_flatMap] at hm ⊢
    obtain ⟨s, m1, m2⟩ := hm
    exact ⟨s, ⟨p, List.mem_of_getElem? hp, m1⟩, m2⟩

theorem good_field (h : InvS cx st sh a W Fr) (hd : ∀ d', o.dst = some d' → d' < cx.n) {t : TypeId} {x : Operand} {f : Nat} (ho : o.op = .field t x f) {off : Nat} {n : Option Nat} (ht : fieldOf P t f = some (off, n)) {xs : List SV} (hx : st.ev x = .agg xs)
    (hK : match n with
      | none => off < xs.length ∧ K ⟨.one (xs.getD off .un), [], []⟩
      | some n => off + n ≤ xs.length ∧ K ⟨.agg ((xs.drop off).take n), [], []⟩) : Good P cx st Fr nid o a W K Q := by
  have ex := h.ev x
  rw [hx] at ex
  obtain ⟨cs, ec, h2⟩ := ex
  have ids : ∀ id, Fr id → ∀ s ∈ xs, id ∉ s.ids := fun id hf s hs hm => by
    have := h.ev_ids x hf
    rw [hx] at this
    exact this (by simp only [AV.ids, AV.svs, Pk.svs, List.mem_flatMap]; exact ⟨s, hs, hm⟩)
  have hlen := all2_length h2
  unfold fieldOf at ht
  split at ht
  · rename_i fs hu
    split at ht
    · rename_i fl hf
      split at ht
      · rename_i n' ha
        split at ht
        · cases ht
        · simp only [Option.some.injEq, Prod.mk.injEq] at ht
          obtain ⟨rfl, rfl⟩ := ht
          obtain ⟨a1, a2⟩ := aggOf_some (W := W) ha
          cases n' with
          | none =>
            obtain ⟨v, g1, g2⟩ := all2_get h2 (List.getElem?_eq_getElem hK.1)
            have g1 : cs[fl.offset]? = some v := by simpa using g1
            refine good_v h hd (s := Instr.field t (a.eval x) f) (by simp [execOp, ho]) (v := v) ?_ (av := .one (xs.getD fl.offset .un)) ?_ (fun id hf' => ?_) hK.2
            · rw [ec]; simp [Instr.field, Sem.run_bind, run_under hu, Result.andThen, hf, asAgg, part, a1, g1, Sem.run_pure]
            · rw [List.getD_eq_getElem?_getD, List.getElem?_eq_getElem hK.1]; exact g2
            · rw [one_ids, List.getD_eq_getElem?_getD, List.getElem?_eq_getElem hK.1]; exact ids id hf' _ (by simp)
          | some m =>
            refine good_v h hd (s := Instr.field t (a.eval x) f) (by simp [execOp, ho]) (v := .agg (cs.extract fl.offset (fl.offset + m))) ?_ (av := .agg ((xs.drop fl.offset).take m)) ⟨_, rfl, ?_⟩ (fun id hf' hm => ?_) hK.2
            · rw [ec]; simp [Instr.field, Sem.run_bind, run_under hu, Result.andThen, hf, asAgg, part, a1, a2, Sem.run_pure]
            · have e : (cs.extract fl.offset (fl.offset + m)).toList = (cs.toList.drop fl.offset).take m := by
                simp [Array.toList_extract, List.extract_eq_take_drop]
              rw [e]; exact all2_take m (all2_drop _ h2)
            · obtain ⟨s', m1, m2⟩ := agg_ids hm
              exact ids id hf' s' (List.mem_of_mem_drop (List.mem_of_mem_take m1)) m2
      · cases ht
    · cases ht
  · cases ht

theorem good_nilCheck (h : InvS cx st sh a W Fr) (hd : ∀ d', o.dst = some d' → d' < cx.n) {x : Operand} (ho : o.op = .nilCheck x) {s : SV} (hx : st.ev x = .one s)
    (hK : nilK st s K) : Good P cx st Fr nid o a W K Q := by
  have ex := h.ev x
  rw [hx] at ex
  have ex : SVRep st W sh s (a.eval x) := ex
  have hp : K ⟨.one s, [], []⟩ ∧ ∃ ad, a.eval x = .pointer (some ad) := by
    cases s with
    | vad id j =>
      obtain ⟨fs, hf⟩ := Option.ne_none_iff_exists'.mp hK.1
      exact ⟨hK.2, _, ex fs hf⟩
    | iad row j => obtain ⟨b, off, e, _⟩ := ex; exact ⟨hK, _, e⟩
    | ipt fs j => obtain ⟨b, off, e, _⟩ := ex; exact ⟨hK, _, e⟩
    | _ => exact hK.elim
  obtain ⟨hK, ad, e⟩ := hp
  refine good_value h hd (v := a.eval x) ?_ (av := .one s) ex (fun id hf => by rw [← hx]; exact h.ev_ids x hf) hK
  simp [execOp, ho, e, Sem.run_pure]
end addr
end Go.Proofs.YtedciihjgbkjgacGreatDoor.A

/-! THE ABSTRACT SEMANTICS IS SOUND, sixth part: cuts, conversions, variables. Conditions: none. -/
namespace Go.Proofs.YtedciihjgbkjgacGreatDoor.A
open Go
set_option linter.unusedSimpArgs false
set_option linter.unusedVariables false

section cuts
variable {P : Program} {cx : Cx} {st : St} {sh : Sh} {a : Act} {W : World} {Fr : Nat → Prop} {nid : Nat} {o : Oper} {K : Eff → Prop} {Q : Exit → Act → World → Prop}

theorem isNil_eq {v : Value} (h : isNil v = true) : v = .slice none 0 0 := by
  unfold isNil at h
  split at h
  · rfl
  · cases h

theorem asNat?_eq (h : InvS cx st sh a W Fr) {x : Option Operand} {d : Nat} {K : Nat → Prop} (hx : asNat? st x d K) :
    ∃ n, K n ∧ ((x = none ∧ n = d) ∨ ∃ y ik m, x = some y ∧ a.eval y = .int ik m ∧ 0 ≤ m ∧ m.toNat = n) := by
  cases x with
  | none => exact ⟨d, hx, .inl ⟨rfl, rfl⟩⟩
  | some y =>
    obtain ⟨ik, m, e, h0, hK⟩ := asNat_eq hx
    have ev := h.ev y
    rw [e] at ev
    exact ⟨m.toNat, hK, .inr ⟨y, ik, m, rfl, ev, h0, rfl⟩⟩
theorem run_bound {ik : IntKind} {m : Int} {y : Nat} {code : BoundsCode} (h0 : 0 ≤ m) (h1 : m.toNat ≤ y) : (Instr.sliceBound (.int ik m) y code).run P W = .ok m.toNat W := by
  have hc : 0 ≤ m ∧ m ≤ (y : Int) := ⟨h0, by omega⟩
  simp [Instr.sliceBound, asIntOf, Sem.run_bind, Sem.run_pure, Result.andThen, hc]
theorem run_bounds {isS : Bool} {len cap : Nat} {lo hi : Option Operand} {l hh : Nat}
    (hl : (lo = none ∧ l = 0) ∨ ∃ y ik m, lo = some y ∧ a.eval y = .int ik m ∧ 0 ≤ m ∧ m.toNat = l)
    (hr : (hi = none ∧ hh = len) ∨ ∃ y ik m, hi = some y ∧ a.eval y = .int ik m ∧ 0 ≤ m ∧ m.toNat = hh) (h1 : l ≤ hh) (h2 : hh ≤ cap) :
    (Instr.sliceBounds isS len cap (lo.map a.eval) (hi.map a.eval) none).run P W = .ok (l, hh, cap) W := by
  rcases hl with ⟨rfl, rfl⟩ | ⟨y, ik, m, rfl, e, h0, rfl⟩
  · rcases hr with ⟨rfl, rfl⟩ | ⟨y', ik', m', rfl, e', h0', rfl⟩
    · simp [Instr.sliceBounds, Sem.run_bind, Sem.run_pure, Result.andThen]
    · simp [Instr.sliceBounds, Sem.run_bind, Sem.run_pure, Result.andThen, e', run_bound h0' h2]
  · rcases hr with ⟨rfl, rfl⟩ | ⟨y', ik', m', rfl, e', h0', rfl⟩
    · simp [Instr.sliceBounds, Sem.run_bind, Sem.run_pure, Result.andThen, e, run_bound h0 h1]
    · simp [Instr.sliceBounds, Sem.run_bind, Sem.run_pure, Result.andThen, e', run_bound h0' h2, e, run_bound h0 h1]
theorem run_sliceAt {t e : TypeId} {i : TypeInfo} {w : Nat} (hu : P.underlying t = some (.slice e)) (hi : P.info? e = some i) (hw : i.size = w) {A : Option Addr} {len cap : Nat} {lo hi' : Option Operand} {l hh : Nat}
    (hl : (lo = none ∧ l = 0) ∨ ∃ y ik m, lo = some y ∧ a.eval y = .int ik m ∧ 0 ≤ m ∧ m.toNat = l)
    (hr : (hi' = none ∧ hh = len) ∨ ∃ y ik m, hi' = some y ∧ a.eval y = .int ik m ∧ 0 ≤ m ∧ m.toNat = hh) (h1 : l ≤ hh) (h2 : hh ≤ cap) :
    (Instr.sliceAt t (.slice A len cap) (lo.map a.eval) (hi'.map a.eval) none).run P W = .ok (.slice (if cap = l then A else A.map (·.add (l * w))) (hh - l) (cap - l)) W := by
  simp [Instr.sliceAt, Instr.slice, Sem.run_bind, run_under hu, Result.andThen, run_bounds hl hr h1 h2, run_size hi, hw, Sem.run_pure]
theorem view_view {h : Value} {w off len l n : Nat} {v : Value} (hv : ViewIs h w off len v) {A : Option Addr} {m cap : Nat} (e : h = .slice A m cap) (hA : cap = 0 ∨ ∀ a, A = some a → a.spot = none) (hc : off + len ≤ cap) (hl : l + n ≤ len) :
    ∃ A' c', v = .slice A' len c' ∧ len ≤ c' ∧ ViewIs h w (off + l) n (.slice (if c' = l then A' else A'.map (·.add (l * w))) n (c' - l)) := by
  rcases hv with hv | ⟨h0, A', hv⟩
  · subst e
    refine ⟨_, _, hv, by omega, ?_⟩
    by_cases h2 : cap - off = l
    · have : n = 0 := by omega
      subst this
      right
      exact ⟨rfl, _, by rw [show cap - off - l = 0 by omega]⟩
    · left
      have h1 : ¬ cap = off := by omega
      have h3 : ¬ cap = off + l := by omega
      simp only [viewOf, if_neg h1, if_neg h2, if_neg h3]
      congr 1
      · cases A with
        | none => rfl
        | some a =>
          obtain ⟨b, o, s⟩ := a
          have := (hA.resolve_left (by omega)) _ rfl
          simp only at this
          subst this
          simp only [Option.map_some, add_mk, Nat.add_mul, Nat.add_assoc]
      · omega
  · have : n = 0 := by omega
    subst this
    have : l = 0 := by omega
    subst this
    refine ⟨A', 0, by rw [h0]; exact hv, by omega, .inr ⟨rfl, _, by simp; rfl⟩⟩
theorem own_shape (h : InvS cx st sh a W Fr) {id w : Nat} {rows : Rows} (ho : st.objs id = some (w, rows)) : ∃ A cap, sh.μ id = .slice A rows.length cap ∧ rows.length ≤ cap ∧ (cap = 0 ∨ ∀ a, A = some a → a.spot = none) := by
  obtain ⟨_, _, hc⟩ := h.objs id w rows ho
  rcases hc with ⟨A, e, hn⟩ | ⟨b, cap, c', t', e1, e2, _⟩
  · subst hn; exact ⟨A, 0, e, by simp, .inl rfl⟩
  · exact ⟨_, cap, e1, e2, .inr fun a ha => by cases ha; rfl⟩
theorem ownSl_shape {L : Lab} {xs : List Value} {v : Value} (h : OwnSl W sh.lab L xs v) : ∃ A cap, v = .slice A xs.length cap ∧ xs.length ≤ cap ∧ (cap = 0 ∨ ∀ a, A = some a → a.spot = none) := by
  rcases h with ⟨A, e, hn⟩ | ⟨b, cap, c', t', e1, e2, _⟩
  · subst hn; exact ⟨A, 0, e, by simp, .inl rfl⟩
  · exact ⟨_, cap, e1, e2, .inr fun a ha => by cases ha; rfl⟩

theorem good_cut (h : InvS cx st sh a W Fr) (hd : ∀ d', o.dst = some d' → d' < cx.n) {t : TypeId} {x : Operand} {lo hi : Option Operand} (ho : o.op = .slice t x lo hi none) {w bytes : Nat} {z : List Value} (ht : elemOf' P t = some (w, bytes, z)) {s : SV}
    (hx : st.ev x = .one s) (hK : cutK st w s lo hi K) : Good P cx st Fr nid o a W K Q := by
  have ex := h.ev x
  rw [hx] at ex
  have ex : SVRep st W sh s (a.eval x) := ex
  have ids : ∀ id, Fr id → id ∉ s.ids := fun id hf => by have := h.ev_ids x hf; rwa [hx, one_ids] at this
  obtain ⟨el, info, hu, hin, hsz, _⟩ := elemOf_some ht
  have key : ∃ v s', K ⟨.one s', [], []⟩ ∧ (Instr.sliceAt t (a.eval x) (lo.map a.eval) (hi.map a.eval) none).run P W = .ok v W ∧ SVRep st W sh s' v ∧ ∀ id ∈ s'.ids, id ∈ s.ids := by
    cases s with
    | sc u =>
      obtain ⟨hn, hK⟩ := hK
      have hu' := isNil_eq hn
      subst hu'
      have ex : a.eval x = .slice none 0 0 := ex
      obtain ⟨l, hK, hl⟩ := asNat?_eq h hK
      obtain ⟨hh, hK, hr⟩ := asNat?_eq h hK
      obtain ⟨rfl, rfl, hK⟩ := hK
      refine ⟨_, .sc (.slice none 0 0), hK, by rw [ex]; exact run_sliceAt hu hin hsz hl hr (by omega) (by omega), ?_, fun id hm => hm⟩
      simp [SVRep]
    | im w' rows =>
      obtain ⟨l, hK, hl⟩ := asNat?_eq h hK
      obtain ⟨hh, hK, hr⟩ := asNat?_eq h hK
      obtain ⟨rfl, h1, h2, hK⟩ := hK
      obtain ⟨A, cap, e1, e2, e3, e4⟩ := ex
      refine ⟨_, _, hK, by rw [e1]; exact run_sliceAt hu hin hsz hl hr h1 (by omega), ?_, by simp [SV.ids]⟩
      have hlen : ((rows.take hh).drop l).length = hh - l := by simp; omega
      refine ⟨_, _, by rw [hlen], by rw [hlen]; omega, fun r hm => e3 r (List.mem_of_mem_take (List.mem_of_mem_drop hm)), fun hne => ?_⟩
      have hlt : l < hh := by
        rcases Nat.lt_or_ge l hh with g | g
        · exact g
        · exact absurd (List.length_eq_zero_iff.mp (by rw [hlen]; omega)) hne
      obtain ⟨hw, b, off, eA, hb, hrr⟩ := e4 (by rintro rfl; simp at h2; omega)
      refine ⟨hw, b, off + l * w', ?_, hb, fun i r hi' => ?_⟩
      · rw [if_neg (by omega), eA]; simp [add_mk]
      · rw [List.getElem?_drop] at hi'
        have hi'' : rows[l + i]? = some r := by
          rw [List.getElem?_take] at hi'
          split at hi'
          · exact hi'
          · cases hi'
        have := hrr (l + i) r hi''
        rw [show off + l * w' + i * w' = off + (l + i) * w' by rw [Nat.add_mul]; omega]
        exact this
    | ref id w' off len =>
      obtain ⟨hrs, hK⟩ := hK
      obtain ⟨l, hK, hl⟩ := asNat?_eq h hK
      obtain ⟨hh, hK, hr⟩ := asNat?_eq h hK
      obtain ⟨rfl, h1, h2, hK⟩ := hK
      rcases hob : st.objs id with _ | ⟨w2, rows⟩
      · simp only [St.rows, hob] at hrs; exact absurd rfl hrs
      · obtain ⟨rfl, g2, g3⟩ := ex w2 rows hob
        obtain ⟨A, cap, e, hcap, hA⟩ := own_shape h hob
        obtain ⟨A', c', k1, k2, k3⟩ := view_view (n := hh - l) (l := l) g3 e hA (by omega) (by omega)
        refine ⟨_, _, hK, by rw [k1]; exact run_sliceAt hu hin hsz hl hr h1 (by omega), fun w3 rows3 ho3 => ?_, by simp [SV.ids]⟩
        rw [hob] at ho3; cases ho3
        exact ⟨rfl, by omega, k3⟩
    | rin id i j s' off len =>
      obtain ⟨hrs, hK⟩ := hK
      obtain ⟨l, hK, hl⟩ := asNat?_eq h hK
      obtain ⟨hh, hK, hr⟩ := asNat?_eq h hK
      obtain ⟨rfl, h1, h2, hK⟩ := hK
      rcases hob : st.objs id with _ | ⟨w2, rows⟩
      · simp only [St.rows, hob] at hrs; exact absurd rfl hrs
      · simp only [St.rows, hob] at hrs
        rcases hc : Rows.cell rows i j with _ | ⟨s2, xs⟩ | _
        · rw [hc] at hrs; exact absurd rfl hrs
        · rw [hc] at hrs
          by_cases es : s2 = s'
          · subst es
            obtain ⟨g0, g2, hd2, g3, g4⟩ := ex.2 w2 rows xs hob hc
            obtain ⟨v', m1, m2⟩ := h.own_head hob hc g0
            rw [g3] at m1; cases m1
            obtain ⟨A, cap, e, hcap, hA⟩ := ownSl_shape m2
            obtain ⟨A', c', k1, k2, k3⟩ := view_view (n := hh - l) (l := l) g4 e hA (by omega) (by omega)
            refine ⟨_, _, hK, by rw [k1]; exact run_sliceAt hu hin hsz hl hr h1 (by omega), ⟨g0, fun w3 rows3 xs3 ho3 hc3 => ?_⟩, by simp [SV.ids]⟩
            rw [hob] at ho3; cases ho3
            rw [hc] at hc3; cases hc3
            exact ⟨g0, by omega, hd2, g3, k3⟩
          · simp only [if_neg es] at hrs; exact absurd rfl hrs
        · rw [hc] at hrs; exact absurd rfl hrs
    | _ => exact hK.elim
  obtain ⟨v, s', h1, h2, h3, h4⟩ := key
  exact good_v h hd (s := Instr.sliceAt t (a.eval x) (lo.map a.eval) (hi.map a.eval) none) (by simp [execOp, ho]) h2 (av := .one s') h3 (fun id hf hm => ids id hf (h4 id (one_ids.mp hm))) h1

theorem good_cut_str (h : InvS cx st sh a W Fr) (hd : ∀ d', o.dst = some d' → d' < cx.n) {t : TypeId} {x : Operand} {lo hi : Option Operand} (ho : o.op = .slice t x lo hi none) (hu : P.underlying t = some .string) {s : ByteArray}
    (hx : st.ev x = .sc (.string s)) (hK : asNat? st lo 0 fun l => asNat? st hi s.size fun h => l ≤ h ∧ h ≤ s.size ∧ K ⟨.sc (.string (s.extract l h)), [], []⟩) : Good P cx st Fr nid o a W K Q := by
  have ex := h.ev x
  rw [hx] at ex
  have ex : a.eval x = .string s := ex
  obtain ⟨l, hK, hl⟩ := asNat?_eq h hK
  obtain ⟨hh, hK, hr⟩ := asNat?_eq h hK
  obtain ⟨h1, h2, hK⟩ := hK
  refine good_v h hd (s := Instr.sliceAt t (a.eval x) (lo.map a.eval) (hi.map a.eval) none) (by simp [execOp, ho]) (v := .string (s.extract l hh)) ?_ (av := .sc (.string (s.extract l hh))) rfl (fun id _ => sc_ids _ id) hK
  rw [ex]
  simp [Instr.sliceAt, Instr.slice, Sem.run_bind, run_under hu, Result.andThen, run_bounds hl hr h1 h2, Sem.run_pure]

theorem good_convert_int (h : InvS cx st sh a W Fr) (hd : ∀ d', o.dst = some d' → d' < cx.n) {s d : TypeId} {x : Operand} (ho : o.op = .convert s d x) {k1 k : IntKind} (hs : P.underlying s = some (.int k1)) (hdd : P.underlying d = some (.int k)) {ik : IntKind} {n : Int}
    (hx : st.ev x = .sc (.int ik n)) (hK : K ⟨.sc (.int k (k.wrap n)), [], []⟩) : Good P cx st Fr nid o a W K Q := by
  have ex := h.ev x
  rw [hx] at ex
  have ex : a.eval x = .int ik n := ex
  refine good_v h hd (s := convert s d (a.eval x)) (by simp [execOp, ho]) (v := .int k (k.wrap n)) ?_ (av := .sc (.int k (k.wrap n))) rfl (fun id _ => sc_ids _ id) hK
  rw [ex]
  simp [convert, Sem.run_bind, run_under hs, run_under hdd, Result.andThen, Conv.intToInt, Sem.run_pure]
theorem good_convert_str (h : InvS cx st sh a W Fr) (hd : ∀ d', o.dst = some d' → d' < cx.n) {s d : TypeId} {x : Operand} (ho : o.op = .convert s d x) (hs : P.underlying s = some .string) (hdd : P.underlying d = some .string) {b : ByteArray}
    (hx : st.ev x = .sc (.string b)) (hK : K ⟨.sc (.string b), [], []⟩) : Good P cx st Fr nid o a W K Q := by
  have ex := h.ev x
  rw [hx] at ex
  have ex : a.eval x = .string b := ex
  refine good_v h hd (s := convert s d (a.eval x)) (by simp [execOp, ho]) (v := .string b) ?_ (av := .sc (.string b)) rfl (fun id _ => sc_ids _ id) hK
  rw [ex]
  simp [convert, Sem.run_bind, run_under hs, run_under hdd, Result.andThen, Sem.run_pure]

theorem good_minmax (h : InvS cx st sh a W Fr) (hd : ∀ d', o.dst = some d' → d' < cx.n) {b : Builtin} {x y : Operand} {tys : Array TypeId} (ho : o.op = .call ⟨.builtin b, #[x, y], tys⟩) {k k' : IntKind} {m n : Int} (hx : st.ev x = .sc (.int k m)) (hy : st.ev y = .sc (.int k' n))
    {r : Int} (hb : (b = .max ∧ r = if n > m then n else m) ∨ (b = .min ∧ r = if n < m then n else m)) (hK : K ⟨.sc (.int k r), [], []⟩) : Good P cx st Fr nid o a W K Q := by
  have ex := h.ev x
  rw [hx] at ex
  have ex : a.eval x = .int k m := ex
  have ey := h.ev y
  rw [hy] at ey
  have ey : a.eval y = .int k' n := ey
  refine good_builtin h hd ho (v := .int k r) ?_ (av := .sc (.int k r)) rfl (fun id _ => sc_ids _ id) hK
  rcases hb with ⟨rfl, rfl⟩ | ⟨rfl, rfl⟩
  · simp [builtin, Builtin.max_, ex, ey, Builtin.max2, Sem.run_bind, Result.andThen, Sem.run_pure]
  · simp [builtin, Builtin.min_, ex, ey, Builtin.min2, Sem.run_bind, Result.andThen, Sem.run_pure]

theorem varIds_rep (h : InvS cx st sh a W Fr) : ∀ (xs : List Operand) (ids : List Nat), varIds xs st = some ids →
    All2 (fun (id : Nat) (u : Value) => ∀ fs, st.vars id = some fs → u = .pointer (some ⟨sh.β id, 0, none⟩)) ids (xs.map a.eval) ∧ ∀ id ∈ ids, ¬ Fr id
  | [], ids, e => by simp [varIds] at e; subst e; exact ⟨trivial, by simp⟩
  | x :: r, ids, e => by
    unfold varIds at e
    split at e
    · rename_i id ids' hx hr
      simp only [Option.some.injEq] at e; subst e
      obtain ⟨h1, h2⟩ := varIds_rep h r ids' hr
      have ex := h.ev x
      rw [hx] at ex
      refine ⟨⟨fun fs hf => ex fs hf, h1⟩, fun id' hm hf => ?_⟩
      rcases List.mem_cons.mp hm with rfl | hm
      · have := h.ev_ids x hf
        rw [hx] at this
        exact this (by simp [AV.ids, AV.svs, Pk.svs, SV.ids])
      · exact h2 id' hm hf
    · cases e
theorem good_makeFunc (h : InvS cx st sh a W Fr) (hd : ∀ d', o.dst = some d' → d' < cx.n) {f : FuncId} {captured : Array Operand} (ho : o.op = .makeFunc (.func f) #[] captured) {ids : List Nat} (hx : varIds captured.toList st = some ids) (hK : K ⟨.one (.fnv f ids), [], []⟩) :
    Good P cx st Fr nid o a W K Q := by
  obtain ⟨h1, h2⟩ := varIds_rep h _ _ hx
  refine good_v h hd (s := Instr.makeFunc (.func f) #[] (captured.map a.eval)) (by simp [execOp, ho]) (v := .func (.func f) #[] (captured.map a.eval)) (by simp [Instr.makeFunc, Sem.run_pure]) (av := .one (.fnv f ids)) ⟨_, rfl, by simpa using h1⟩ (fun id hf hm => h2 id (by simpa [AV.ids, AV.svs, Pk.svs, SV.ids] using hm) hf) hK
end cuts
end Go.Proofs.YtedciihjgbkjgacGreatDoor.A

/-! THE ABSTRACT SEMANTICS IS SOUND, seventh part: variables are made and written. Conditions: none. -/
namespace Go.Proofs.YtedciihjgbkjgacGreatDoor.A
open Go
set_option linter.unusedSimpArgs false
set_option linter.unusedVariables false

section vars
variable {P : Program} {cx : Cx} {st : St} {sh : Sh} {a : Act} {W : World} {Fr : Nat → Prop} {nid : Nat} {o : Oper} {K : Eff → Prop} {Q : Exit → Act → World → Prop}

theorem one_cells {v : Value} (h : v.oneCell' = true) : v.cells = #[v] := by
  cases v <;> simp_all [Value.cells, Value.oneCell']
theorem slice_one (A : Option Addr) (n c : Nat) : (Value.slice A n c).oneCell' = true := rfl
theorem InvS.solid_one (h : InvS cx st sh a W Fr) {s : SV} {v : Value} (hv : SVRep st W sh s v) (hs : s.solid st) : v.oneCell' = true := by
  cases s with
  | sc x => have e : v = x := hv; rw [e]; exact hs
  | im w rows => obtain ⟨A, cap, e, _⟩ := hv; rw [e]; rfl
  | ref id w off len =>
    rcases hr : st.rows (.ref id w off len) with _ | ⟨w', rows⟩
    · exact absurd hr hs
    · obtain ⟨A, cap, e, _⟩ := h.rows_len hv hr; rw [e]; rfl
  | rin id i j s off len =>
    rcases hr : st.rows (.rin id i j s off len) with _ | ⟨w', rows⟩
    · exact absurd hr hs
    · obtain ⟨A, cap, e, _⟩ := h.rows_len hv hr; rw [e]; rfl
  | vad id j =>
    obtain ⟨fs, hf⟩ := Option.ne_none_iff_exists'.mp hs
    rw [hv fs hf]; rfl
  | iad row j => obtain ⟨b, off, e, _⟩ := hv; rw [e]; rfl
  | ipt fs j => obtain ⟨b, off, e, _⟩ := hv; rw [e]; rfl
  | fnv f ids => obtain ⟨cs, e, _⟩ := hv; rw [e]; rfl
  | fni f caps => obtain ⟨cs, e, _⟩ := hv; rw [e]; rfl
  | _ => exact hs.elim
theorem InvS.solids_all (h : InvS cx st sh a W Fr) : ∀ {xs : List SV} {vs : List Value}, All2 (SVRep st W sh) xs vs → solids st xs → ∀ v ∈ vs, v.oneCell' = true
  | [], [], _, _ => by simp
  | s :: r, v :: vs, ⟨h1, h2⟩, ⟨g1, g2⟩ => by
    intro u hu
    rcases List.mem_cons.mp hu with rfl | hu
    · exact h.solid_one h1 g1
    · exact h.solids_all h2 g2 u hu
  | [], _ :: _, h, _ => h.elim
  | _ :: _, [], h, _ => h.elim
/-- A value's cells. -/
theorem InvS.pk_cells (h : InvS cx st sh a W Fr) {p : Pk} {v : Value} (hv : PkRep st W sh p v) (hs : ∀ s, p = .one s → s.solid st) : All2 (SVRep st W sh) p.svs v.cells.toList := by
  cases p with
  | one s =>
    rw [one_cells (h.solid_one hv (hs s rfl))]
    exact ⟨hv, trivial⟩
  | agg xs =>
    obtain ⟨cs, e, h2⟩ := hv
    rw [e]; exact h2

theorem alloc_val (W : World) (c : Array Value) (t : TypeId) : (newRow t c).run P W = .ok ⟨W.heap.size, 0, none⟩ (W.alloc (.cells c t)) := by
  simp [newRow, Sem.run_bind, newObj, Sem.run, Result.andThen]

theorem good_newVar (h : InvS cx st sh a W Fr) (hd : ∀ d', o.dst = some d' → d' < cx.n) (hnid : ∀ k, k < 64 → Fr (nid + k)) (hpins : ∀ q ∈ cx.pins, q.1 < 1000) {fs : List SV} {c : Array Value} {t : TypeId}
    (hr : (execOp a.eval o).run P W = .ok (.value (.pointer (some ⟨W.heap.size, 0, none⟩))) (W.alloc (.cells c t))) (hfs : All2 (SVRep st W sh) fs c.toList) (hmen : ∀ id, Fr id → ∀ s ∈ fs, id ∉ s.ids)
    (hK : K ⟨.one (.vad nid 0), [], [(nid, some fs)]⟩) : Good P cx st Fr nid o a W K Q := by
  unfold Good Oper.wp
  rw [hr]
  have h1 := h.newVar (nid := nid) (by simpa using hnid 0 (by omega)) (t := t) hfs hmen (Fr' := fun id => Fr id ∧ ¬ (nid ≤ id ∧ id < nid + 64)) (fun id hf => ⟨hf.1, by rintro rfl; exact hf.2 ⟨by omega, by omega⟩⟩) hpins
  refine ⟨⟨.one (.vad nid 0), [], [(nid, some fs)]⟩, _, hK, InvS.put h1 hd (av := .one (.vad nid 0)) (v := .pointer (some ⟨W.heap.size, 0, none⟩)) ?_ ?_⟩
  · intro fs' hf'
    simp
  · intro id hf hm
    rw [one_ids] at hm
    simp only [SV.ids, List.mem_singleton] at hm
    subst hm
    exact hf.2 ⟨by omega, by omega⟩

theorem good_alloc (h : InvS cx st sh a W Fr) (hd : ∀ d', o.dst = some d' → d' < cx.n) (hnid : ∀ k, k < 64 → Fr (nid + k)) (hpins : ∀ q ∈ cx.pins, q.1 < 1000) {e : TypeId} (ho : o.op = .alloc e) {z : List Value} (hz : zeroOf P e = some z)
    (hK : K ⟨.one (.vad nid 0), [], [(nid, some (z.map .sc))]⟩) : Good P cx st Fr nid o a W K Q := by
  unfold zeroOf at hz
  split at hz
  · rename_i i hi
    simp only [Option.map_eq_some_iff] at hz
    obtain ⟨v, hv, rfl⟩ := hz
    refine good_newVar h hd hnid hpins (c := v.cells) (t := e) ?_ (fs := v.cells.toList.map .sc) ?_ ?_ hK
    · simp [execOp, ho, Instr.alloc, zeroValue, Sem.run_bind, run_info hi, hv, Result.andThen, newVar, alloc_val, Sem.run_pure]
    · refine all2_of_get (by simp) fun k s u hk hu => ?_
      simp only [List.getElem?_map, Option.map_eq_some_iff] at hk
      obtain ⟨x, hx, rfl⟩ := hk
      rw [hx] at hu; cases hu
      rfl
    · intro id _ s hs
      obtain ⟨x, _, rfl⟩ := List.mem_map.mp hs
      simp [SV.ids]
  · cases hz
theorem good_box (h : InvS cx st sh a W Fr) (hd : ∀ d', o.dst = some d' → d' < cx.n) (hnid : ∀ k, k < 64 → Fr (nid + k)) (hpins : ∀ q ∈ cx.pins, q.1 < 1000) {e : TypeId} {x : Operand} (ho : o.op = .box e x) {p : Pk} (hx : st.ev x = .pk p)
    (hs : ∀ s, p = .one s → s.solid st) (hK : K ⟨.one (.vad nid 0), [], [(nid, some p.svs)]⟩) : Good P cx st Fr nid o a W K Q := by
  have ex := h.ev x
  rw [hx] at ex
  have ex : PkRep st W sh p (a.eval x) := ex
  refine good_newVar h hd hnid hpins (c := (a.eval x).cells) (t := e) ?_ (h.pk_cells ex hs) ?_ hK
  · simp [execOp, ho, Instr.box, Sem.run_bind, Result.andThen, newVar, alloc_val, Sem.run_pure]
  · intro id hf s hs' hm
    have := h.ev_ids x hf
    rw [hx] at this
    exact this (by simp only [AV.ids, AV.svs, List.mem_flatMap]; exact ⟨s, hs', hm⟩)

theorem InvS.var_ne (h : InvS cx st sh a W Fr) {id : Nat} {fs : List SV} (hf : st.vars id = some fs) {b : Nat} (hb : sh.lab b ≠ .var id) : b ≠ sh.β id := by
  rintro rfl
  exact hb (h.vars id fs hf).1
/-- A variable is written. -/
theorem InvS.setVar (h : InvS cx st sh a W Fr) (hpins : ∀ q ∈ cx.pins, q.1 < 1000) {id : Nat} {fs fs' : List SV} (hf : st.vars id = some fs) {c' : Array Value} (hfs : All2 (SVRep st W sh) fs' c'.toList) (hmen : ∀ id, Fr id → ∀ s ∈ fs', id ∉ s.ids)
    {Fr' : Nat → Prop} (hF : ∀ id, Fr' id → Fr id) : InvS cx ⟨st.slots, upd st.vars [(id, some fs')], st.objs, st.next⟩ sh a (W.setRow (sh.β id) c') Fr' := by
  obtain ⟨hlab, c, t, hc, _⟩ := h.vars id fs hf
  have ag : Agree W sh.lab (W.setRow (sh.β id) c') sh.lab (· ≠ .var id) := fun b hb => ⟨rfl, setRow_other _ _ _ _ (h.var_ne hf hb)⟩
  have k : Keeps st W sh ⟨st.slots, upd st.vars [(id, some fs')], st.objs, st.next⟩ (W.setRow (sh.β id) c') sh (fun _ => False) := by
    refine ⟨agree_mono ag (by rintro _ rfl; simp), fun q _ hq => ⟨?_, rfl⟩, fun q w rows' _ ho => ⟨rfl, rows', ho, rfl, fun i j s xs' _ _ hcell => ⟨xs', hcell, rfl, ?_⟩⟩⟩
    · by_cases e : q = id
      · subst e; rw [hf]; simp
      · simpa only [upd, if_neg e] using hq
    · refine headAt_agree fun b l n e => ?_
      have hne : rows' ≠ [] := by
        intro e; rw [e] at hcell; have := (cell_ne hcell).1; simp at this
      exact (ag b (by rw [h.own_block ho e hne]; simp)).2
  refine h.move k (fun _ h => h.elim) hF ?_ (fun q gs hg => ?_) (fun q w rows ho => ownRep_agree ag (by simp) (by simp) (by simp) (h.objs q w rows ho)) (fun q hq => ?_) (fun q w rows i j s xs ho hcell hs => h.stamps q w rows i j s xs ho hcell (hF s hs)) (fun q _ ho => ⟨ho, rfl⟩) (fun q _ hv => ⟨?_, rfl⟩) hpins
  · obtain ⟨h1, h2, h3, h4, h5, h6⟩ := h.ext
    refine ⟨h1, h2, h3, by rw [setRow_size]; exact h4, fun b hb hl => ?_, fun b hb => h6 b (by rw [setRow_size] at hb; exact hb)⟩
    obtain ⟨g1, g2⟩ := h5 b hb hl
    exact ⟨g1, by rw [(ag b (by rcases hl with hl | hl <;> rw [g1, hl] <;> simp)).2, g2]⟩
  · by_cases e : q = id
    · subst e
      simp only [upd, if_true, Option.some.injEq] at hg
      subst hg
      exact ⟨⟨hlab, c', t, setRow_heap _ _ _ _ _ _ hc, all2_mono (fun s u m g => svRep_keeps k (fun _ _ h => h) g) hfs⟩, fun id' hf' s m => hmen id' (hF id' hf') s m⟩
    · simp only [upd, if_neg e] at hg
      obtain ⟨g1, c2, t2, g2, g3⟩ := h.vars q gs hg
      refine ⟨⟨g1, c2, t2, ?_, all2_mono (fun s u m g => svRep_keeps k (fun _ _ h => h) g) g3⟩, fun id' hf' s m => (h.fresh id' (hF id' hf')).2.2.2 q gs hg s m⟩
      rw [(ag _ (by rw [g1]; simpa using e)).2, g2]
  · obtain ⟨g1, g2, _⟩ := h.fresh q (hF q hq)
    refine ⟨?_, g2⟩
    have : q ≠ id := by rintro rfl; rw [hf] at g1; cases g1
    simp only [upd, if_neg this]; exact g1
  · by_cases e : q = id
    · subst e; rw [hf]; simp
    · simpa only [upd, if_neg e] using hv

theorem good_storeVar (h : InvS cx st sh a W Fr) (hd : ∀ d', o.dst = some d' → d' < cx.n) (hpins : ∀ q ∈ cx.pins, q.1 < 1000) {t : TypeId} {x y : Operand} (ho : o.op = .store t x y) {n : Option Nat} (ht : aggOf P t = some n) {id j : Nat} (hx : st.ev x = .one (.vad id j)) {p : Pk}
    (hy : st.ev y = .pk p) (hs : solids st p.svs) (hl : p.svs.length = n.getD 1) {fs : List SV} (hf : st.vars id = some fs) (hj : j + n.getD 1 ≤ fs.length) (hK : K ⟨.un, [], [(id, some (setRange fs j p.svs))]⟩) : Good P cx st Fr nid o a W K Q := by
  have ex := h.ev x
  rw [hx] at ex
  have ex : a.eval x = .pointer (some ⟨sh.β id, j, none⟩) := (ex : SVRep st W sh (.vad id j) (a.eval x)) fs hf
  have ey := h.ev y
  rw [hy] at ey
  have hone : ∀ s, p = .one s → s.solid st := by rintro s rfl; exact hs.1
  have ec := h.pk_cells ey hone
  have hv1 := h.solids_all ec hs
  obtain ⟨hlab, c, t', hc, hall⟩ := h.vars id fs hf
  have hcl := all2_length hall
  have hcl' := all2_length ec
  have hsz : (a.eval y).cells.size = n.getD 1 := by rw [← hl, hcl']; simp
  have hst : (storeVar t ⟨sh.β id, j, none⟩ (a.eval y)).run P W = .ok () (W.setRow (sh.β id) (c.toList.take j ++ (a.eval y).cells.toList ++ c.toList.drop (j + (a.eval y).cells.toList.length)).toArray) := by
    have := run_storeCells_at (P := P) (sh.β id) j t' (a.eval y).cells.toList 0 c W hc (by simp at hcl ⊢; omega) hv1
    simp only [storeVar, Sem.run_bind, (aggOf_some (W := W) ht).2, Result.andThen, hsz, ne_eq, not_true_eq_false, if_false]
    simpa using this
  unfold Good Oper.wp
  have hrun : (execOp a.eval o).run P W = .ok .skip (W.setRow (sh.β id) (c.toList.take j ++ (a.eval y).cells.toList ++ c.toList.drop (j + (a.eval y).cells.toList.length)).toArray) := by
    simp only [execOp, ho, Instr.storeAt, Sem.run_bind, ex, Instr.sureAddr, Sem.run_pure, Result.andThen, hst]
  rw [hrun]
  have h1 := h.setVar hpins hf (c' := (c.toList.take j ++ (a.eval y).cells.toList ++ c.toList.drop (j + (a.eval y).cells.toList.length)).toArray) (fs' := setRange fs j p.svs)
    (by
      simp only [setRange, hcl']
      exact all2_append (all2_append (all2_take j hall) ec) (all2_drop _ hall))
    (by
      intro id' hf' s hm hi
      simp only [setRange, List.mem_append] at hm
      rcases hm with (hm | hm) | hm
      · exact (h.fresh id' hf').2.2.2 id fs hf s (List.mem_of_mem_take hm) hi
      · have := h.ev_ids y hf'
        rw [hy] at this
        exact this (by simp only [AV.ids, AV.svs, List.mem_flatMap]; exact ⟨s, hm, hi⟩)
      · exact (h.fresh id' hf').2.2.2 id fs hf s (List.mem_of_mem_drop hm) hi)
    (Fr' := fun id => Fr id ∧ ¬ (nid ≤ id ∧ id < nid + 64)) (fun id hf => hf.1)
  exact ⟨⟨.un, [], [(id, some (setRange fs j p.svs))]⟩, _, hK, InvS.put h1 hd (av := .un) (v := undef) trivial (by intro id _ hm; simp [AV.ids, AV.svs, Pk.svs, SV.ids] at hm)⟩
end vars
end Go.Proofs.YtedciihjgbkjgacGreatDoor.A

/-! THE ABSTRACT SEMANTICS IS SOUND, eighth part: blocks change hands; new slices of one's own. Conditions: none. -/
namespace Go.Proofs.YtedciihjgbkjgacGreatDoor.A
open Go
set_option linter.unusedSimpArgs false
set_option linter.unusedVariables false

/-- The same, but that some cells are gone. -/
def Shrinks (rows rows' : Rows) : Prop :=
  rows'.length = rows.length ∧ ∀ (i : Nat) (r' : List Cell), rows'[i]? = some r' → ∃ r, rows[i]? = some r ∧ r.length = r'.length ∧ ∀ (j : Nat) (c : Cell), r'[j]? = some c → c = .gone ∨ r[j]? = some c
theorem shrinks_refl (rows : Rows) : Shrinks rows rows := ⟨rfl, fun i r h => ⟨r, h, rfl, fun j c hc => .inr hc⟩⟩
theorem shrinks_gone (rows : Rows) (i j : Nat) : Shrinks rows (Rows.setCell rows i j .gone) := by
  refine ⟨by simp [Rows.setCell], fun k r' hr' => ?_⟩
  simp only [Rows.setCell, List.getElem?_set] at hr'
  split at hr'
  · rename_i e
    subst e
    split at hr'
    · rename_i hl
      simp only [Option.some.injEq] at hr'
      subst hr'
      refine ⟨rows[i], List.getElem?_eq_getElem hl, ?_, fun q c hc => ?_⟩
      · simp [List.getD_eq_getElem?_getD, List.getElem?_eq_getElem hl]
      · have e : rows.getD i [] = rows[i] := by rw [List.getD_eq_getElem?_getD, List.getElem?_eq_getElem hl]; rfl
        rw [e, List.getElem?_set] at hc
        split at hc
        · split at hc
          · simp only [Option.some.injEq] at hc; exact .inl hc.symm
          · cases hc
        · exact .inr hc
    · cases hr'
  · exact ⟨r', hr', rfl, fun q c hc => .inr hc⟩
theorem shrinks_cell {rows rows' : Rows} (h : Shrinks rows rows') {i j s : Nat} {xs : List Value} (hc : Rows.cell rows' i j = .sl s xs) : Rows.cell rows i j = .sl s xs := by
  obtain ⟨r', hi, hj⟩ := cell_get hc (by simp)
  obtain ⟨r, h1, _, h2⟩ := h.2 i r' hi
  rcases h2 j _ hj with e | e
  · cases e
  · simp [Rows.cell, List.getD_eq_getElem?_getD, h1, e]
theorem shrinks_ne {rows rows' : Rows} (h : Shrinks rows rows') (hn : rows' ≠ []) : rows ≠ [] := by
  rintro rfl
  exact hn (List.length_eq_zero_iff.mp h.1)

def goodπ (π : Lab → Lab) : Prop := π .imm = .imm ∧ π .dead = .dead ∧ (∀ id, π (.var id) = .var id) ∧ π .far = .far

section relab
variable {P : Program} {cx : Cx} {st : St} {sh : Sh} {a : Act} {W : World} {Fr : Nat → Prop}
theorem agree_relab {W : World} {lab : Nat → Lab} (π : Lab → Lab) : Agree W lab W (fun b => π (lab b)) (fun L => π L = L) := fun b hb => ⟨hb, rfl⟩
theorem ownCell_relab {lab : Nat → Lab} {π : Lab → Lab} (hπ : goodπ π) {L : Lab} {c : Cell} {v : Value} (hL : ∀ s xs, c = .sl (s + 1) xs → π L = L) (h : OwnCell W lab L c v) : OwnCell W (fun b => π (lab b)) L c v := by
  cases c with
  | sc x => exact h
  | gone => exact h
  | sl s xs => cases s with
    | zero => exact imSl_agree (agree_relab π) hπ.1 h
    | succ s => exact ownSl_agree (agree_relab π) (hL s xs rfl) h
theorem ownCell_to {lab : Nat → Lab} {π : Lab → Lab} (hπ : goodπ π) {L L' : Lab} {c : Cell} {v : Value} (hL : ∀ s xs, c = .sl (s + 1) xs → π L = L') (h : OwnCell W lab L c v) : OwnCell W (fun b => π (lab b)) L' c v := by
  cases c with
  | sc x => exact h
  | gone => exact h
  | sl s xs => cases s with
    | zero => exact imSl_agree (agree_relab π) hπ.1 h
    | succ s =>
      rcases h with ⟨A, h1, h2⟩ | ⟨b, cap, c, t, h1, h2, h3, h4⟩
      · exact .inl ⟨A, h1, h2⟩
      · exact .inr ⟨b, cap, c, t, h1, h2, by simp only [h3]; exact hL s xs rfl, h4⟩
theorem ownRep_to {lab : Nat → Lab} {π : Lab → Lab} (hπ : goodπ π) {id id' w : Nat} {rows rows' : Rows} {hd : Value} (hsh : Shrinks rows rows') (h1 : π (.own id) = .own id') (h2 : ∀ i j s xs, Rows.cell rows' i j = .sl (s + 1) xs → π (.inn id i j) = .inn id' i j)
    (h : OwnRep W lab id w rows hd) : OwnRep W (fun b => π (lab b)) id' w rows' hd := by
  obtain ⟨hw, hr, hc⟩ := h
  refine ⟨hw, fun r' hm => ?_, ?_⟩
  · obtain ⟨i, hi⟩ := List.getElem?_of_mem hm
    obtain ⟨r, g1, g2, _⟩ := hsh.2 i r' hi
    rw [← g2]; exact hr r (List.mem_of_getElem? g1)
  rcases hc with ⟨A, e, hn⟩ | ⟨b, cap, c, t, e1, e2, e3, e4, e5, e6⟩
  · subst hn
    exact .inl ⟨A, e, List.length_eq_zero_iff.mp hsh.1⟩
  · refine .inr ⟨b, cap, c, t, by rw [hsh.1]; exact e1, by rw [hsh.1]; exact e2, by simp only [e3]; exact h1, e4, e5, fun i j r' x hi hj => ?_⟩
    obtain ⟨r, g1, g2, g3⟩ := hsh.2 i r' hi
    have hjl : j < r.length := by rw [g2]; exact (List.getElem?_eq_some_iff.mp hj).1
    rcases g3 j x hj with rfl | g3
    · obtain ⟨v, k1, k2⟩ := e6 i j r _ g1 (List.getElem?_eq_getElem hjl)
      exact ⟨v, k1, ownCell_one k2⟩
    · obtain ⟨v, k1, k2⟩ := e6 i j r x g1 g3
      refine ⟨v, k1, ownCell_to hπ (fun s xs e => h2 i j s xs ?_) k2⟩
      subst e
      simp [Rows.cell, List.getD_eq_getElem?_getD, hi, hj]

/-- Blocks change hands; slices of one's own fall away, whole or in part. -/
theorem InvS.relab (h : InvS cx st sh a W Fr) (hpins : ∀ q ∈ cx.pins, q.1 < 1000) {π : Lab → Lab} (hπ : goodπ π) {objs' : Nat → Option Obj'}
    (ho : ∀ id w rows', objs' id = some (w, rows') → ∃ rows, st.objs id = some (w, rows) ∧ Shrinks rows rows' ∧ π (.own id) = .own id ∧ ∀ i j s xs, Rows.cell rows' i j = .sl (s + 1) xs → π (.inn id i j) = .inn id i j) :
    InvS cx ⟨st.slots, st.vars, objs', st.next⟩ ⟨fun b => π (sh.lab b), sh.μ, sh.β⟩ a W Fr := by
  have k : Keeps st W sh ⟨st.slots, st.vars, objs', st.next⟩ W ⟨fun b => π (sh.lab b), sh.μ, sh.β⟩ (fun _ => False) := by
    refine ⟨fun b hb => ⟨by simp only [hb]; exact hπ.1, rfl⟩, fun id _ hv => ⟨hv, rfl⟩, fun id w rows' _ hs => ?_⟩
    obtain ⟨rows, h1, h2, _⟩ := ho id w rows' hs
    exact ⟨rfl, rows, h1, h2.1.symm, fun i j s xs' _ _ hc => ⟨xs', shrinks_cell h2 hc, rfl, rfl⟩⟩
  refine h.move k (fun _ h => h.elim) (fun _ h => h) ?_ (fun id fs hf => ?_) (fun id w rows' hs => ?_) (fun id hf => ?_) (fun id w rows' i j s xs hs hc => ?_) (fun id _ hs => ?_) (fun id _ hv => ⟨hv, rfl⟩) hpins
  · obtain ⟨h1, h2, h3, h4, h5, h6⟩ := h.ext
    refine ⟨h1, h2, h3, h4, fun b hb hl => ?_, fun b hb => by simp only [h6 b hb]; exact hπ.2.1⟩
    obtain ⟨g1, g2⟩ := h5 b hb hl
    exact ⟨by rcases hl with hl | hl <;> simp only [g1, hl] <;> first | exact hπ.1 | exact hπ.2.2.2, g2⟩
  · obtain ⟨g1, c, t, g2, g3⟩ := h.vars id fs hf
    exact ⟨⟨by simp only [g1]; exact hπ.2.2.1 id, c, t, g2, all2_mono (fun s u m g => svRep_keeps k (fun _ _ h => h) g) g3⟩, fun id' hf' s m => (h.fresh id' hf').2.2.2 id fs hf s m⟩
  · obtain ⟨rows, h1, h2, h3, h4⟩ := ho id w rows' hs
    exact ownRep_to hπ h2 h3 h4 (h.objs id w rows h1)
  · obtain ⟨g1, g2, _⟩ := h.fresh id hf
    refine ⟨g1, ?_⟩
    rcases hs : objs' id with _ | ⟨w, rows'⟩
    · rfl
    · obtain ⟨rows, h1, _⟩ := ho id w rows' hs
      rw [g2] at h1; cases h1
  · obtain ⟨rows, h1, h2, _⟩ := ho id w rows' hs
    exact h.stamps id w rows i j s xs h1 (shrinks_cell h2 hc)
  · rcases hs' : objs' id with _ | ⟨w, rows'⟩
    · exact absurd hs' hs
    · obtain ⟨rows, h1, _⟩ := ho id w rows' hs'
      exact ⟨by rw [h1]; simp, rfl⟩

/-- A new block, whose label nothing leans on. -/
theorem InvS.alloc (h : InvS cx st sh a W Fr) (hpins : ∀ q ∈ cx.pins, q.1 < 1000) (o : Obj) (L : Lab) : InvS cx st ⟨sh.add W.heap.size L, sh.μ, sh.β⟩ a (W.alloc o) Fr := by
  have k : Keeps st W sh ⟨st.slots, st.vars, st.objs, st.next⟩ (W.alloc o) ⟨sh.add W.heap.size L, sh.μ, sh.β⟩ (fun _ => False) :=
    keeps_alloc h o L rfl (fun id _ hv => ⟨hv, rfl⟩) (fun id _ _ => ⟨rfl, rfl⟩)
  refine h.move k (fun _ h => h.elim) (fun _ h => h) (ext_alloc h o L) (fun id fs hf => ?_) (fun id w rows hs => ?_) (fun id hf => ⟨(h.fresh id hf).1, (h.fresh id hf).2.1⟩) h.stamps (fun id _ hs => ⟨hs, rfl⟩) (fun id _ hv => ⟨hv, rfl⟩) hpins
  · obtain ⟨g1, c, t, g2, g3⟩ := h.vars id fs hf
    have ag := h.agree_alloc o L (sh.β id) (by rw [g1]; simp)
    exact ⟨⟨ag.1.trans g1, c, t, ag.2.trans g2, all2_mono (fun s u m g => svRep_keeps k (fun _ _ h => h) g) g3⟩, fun id' hf' s m => (h.fresh id' hf').2.2.2 id fs hf s m⟩
  · exact ownRep_agree (h.agree_alloc o L) (by simp) (by simp) (by simp) (h.objs id w rows hs)

/-- The tape is drawn from. -/
theorem InvS.sameHeap (h : InvS cx st sh a W Fr) (hpins : ∀ q ∈ cx.pins, q.1 < 1000) {W' : World} (h1 : W'.heap = W.heap) (h2 : W'.os = W.os) (h3 : W'.tape = W.tape) (h4 : W'.output = W.output) : InvS cx st sh a W' Fr := by
  have ag : Agree W sh.lab W' sh.lab (fun _ => True) := fun b _ => ⟨rfl, by rw [h1]⟩
  have k : Keeps st W sh ⟨st.slots, st.vars, st.objs, st.next⟩ W' sh (fun _ => False) := by
    refine ⟨agree_mono ag (fun _ _ => trivial), fun id _ hv => ⟨hv, rfl⟩, fun id w rows' _ hs => ⟨rfl, rows', hs, rfl, fun i j s xs' _ _ hc => ⟨xs', hc, rfl, headAt_agree fun b _ _ _ => (ag b trivial).2⟩⟩⟩
  refine h.move k (fun _ h => h.elim) (fun _ h => h) ?_ (fun id fs hf => ?_) (fun id w rows hs => ?_) (fun id hf => ⟨(h.fresh id hf).1, (h.fresh id hf).2.1⟩) h.stamps (fun id _ hs => ⟨hs, rfl⟩) (fun id _ hv => ⟨hv, rfl⟩) hpins
  · obtain ⟨g1, g2, g3, g4, g5, g6⟩ := h.ext
    exact ⟨by rw [h2, g1], by rw [h3, g2], by rw [h4, g3], by rw [h1]; exact g4, fun b hb hl => by rw [h1]; exact g5 b hb hl, fun b hb => g6 b (by rw [h1] at hb; exact hb)⟩
  · obtain ⟨g1, c, t, g2, g3⟩ := h.vars id fs hf
    exact ⟨⟨g1, c, t, by rw [h1]; exact g2, all2_mono (fun s u m g => svRep_keeps k (fun _ _ h => h) g) g3⟩, fun id' hf' s m => (h.fresh id' hf').2.2.2 id fs hf s m⟩
  · exact ownRep_agree ag trivial trivial (fun _ _ => trivial) (h.objs id w rows hs)

/-- A block is written on which nothing leans. -/
theorem InvS.write (h : InvS cx st sh a W Fr) (hpins : ∀ q ∈ cx.pins, q.1 < 1000) {id : Nat} (ho : st.objs id = none) {b : Nat} (hb : sh.lab b = .own id) (c' : Array Value) : InvS cx st sh a (W.setRow b c') Fr := by
  have ag : Agree W sh.lab (W.setRow b c') sh.lab (· ≠ .own id) := fun q hq => ⟨rfl, setRow_other _ _ _ _ (by rintro rfl; exact hq hb)⟩
  have k : Keeps st W sh ⟨st.slots, st.vars, st.objs, st.next⟩ (W.setRow b c') sh (fun _ => False) := by
    refine ⟨agree_mono ag (by rintro _ rfl; simp), fun id _ hv => ⟨hv, rfl⟩, fun q w rows' _ hs => ⟨rfl, rows', hs, rfl, fun i j s xs' _ _ hc => ⟨xs', hc, rfl, headAt_agree fun b' L n e => ?_⟩⟩⟩
    have hne : rows' ≠ [] := by
      intro e; rw [e] at hc; have := (cell_ne hc).1; simp at this
    refine (ag b' ?_).2
    rw [h.own_block hs e hne]
    rintro e'
    cases e'
    rw [ho] at hs; cases hs
  refine h.move k (fun _ h => h.elim) (fun _ h => h) ?_ (fun q fs hf => ?_) (fun q w rows hs => ?_) (fun id hf => ⟨(h.fresh id hf).1, (h.fresh id hf).2.1⟩) h.stamps (fun id _ hs => ⟨hs, rfl⟩) (fun id _ hv => ⟨hv, rfl⟩) hpins
  · obtain ⟨g1, g2, g3, g4, g5, g6⟩ := h.ext
    refine ⟨g1, g2, g3, by rw [setRow_size]; exact g4, fun q hq hl => ?_, fun q hq => g6 q (by rw [setRow_size] at hq; exact hq)⟩
    obtain ⟨k1, k2⟩ := g5 q hq hl
    exact ⟨k1, by rw [(ag q (by rcases hl with hl | hl <;> rw [k1, hl] <;> simp)).2, k2]⟩
  · obtain ⟨g1, c, t, g2, g3⟩ := h.vars q fs hf
    exact ⟨⟨g1, c, t, by rw [(ag _ (by rw [g1]; simp)).2]; exact g2, all2_mono (fun s u m g => svRep_keeps k (fun _ _ h => h) g) g3⟩, fun id' hf' s m => (h.fresh id' hf').2.2.2 q fs hf s m⟩
  · have hne : q ≠ id := by rintro rfl; rw [ho] at hs; cases hs
    exact ownRep_agree ag (by simp) (by simpa using hne) (by simp) (h.objs q w rows hs)

/-- A new slice of one's own. -/
theorem InvS.addObj (h : InvS cx st sh a W Fr) (hpins : ∀ q ∈ cx.pins, q.1 < 1000) {nid w : Nat} (hid : Fr nid) {rows : Rows} {hd : Value} (hr : OwnRep W sh.lab nid w rows hd)
    {Fr' : Nat → Prop} (hF : ∀ id, Fr' id → Fr id ∧ id ≠ nid) (hst : ∀ i j s xs, Rows.cell rows i j = .sl s xs → ¬ Fr' s) :
    InvS cx ⟨st.slots, st.vars, upd st.objs [(nid, some (w, rows))], st.next⟩ ⟨sh.lab, fun id => if id = nid then hd else sh.μ id, sh.β⟩ a W Fr' := by
  have hlo := h.low nid hid
  have k : Keeps st W sh ⟨st.slots, st.vars, upd st.objs [(nid, some (w, rows))], st.next⟩ W ⟨sh.lab, fun id => if id = nid then hd else sh.μ id, sh.β⟩ (· = nid) := by
    refine ⟨fun b _ => ⟨rfl, rfl⟩, fun id _ hv => ⟨hv, rfl⟩, fun id w' rows' hn hs => ?_⟩
    simp only [upd, if_neg hn] at hs ⊢
    exact ⟨trivial, rows', hs, rfl, fun i j s xs' _ _ hc => ⟨xs', hc, rfl, trivial⟩⟩
  refine h.move k (by rintro _ rfl; exact hid) (fun id hf => (hF id hf).1) h.ext (fun id fs hf => ?_) (fun id w' rows' hs => ?_) (fun id hf => ?_) (fun id w' rows' i j s xs hs hc => ?_) (fun id hl hs => ?_) (fun id _ hv => ⟨hv, rfl⟩) hpins
  · obtain ⟨g1, c, t, g2, g3⟩ := h.vars id fs hf
    refine ⟨⟨g1, c, t, g2, all2_mono (fun s u m g => svRep_keeps k (fun id' hi e' => ?_) g) g3⟩, fun id' hf' s m => (h.fresh id' (hF id' hf').1).2.2.2 id fs hf s m⟩
    subst e'
    exact (h.fresh id' hid).2.2.2 id fs hf s m hi
  · by_cases e : id = nid
    · subst e
      simp only [upd, if_true, Option.some.injEq, Prod.mk.injEq] at hs ⊢
      obtain ⟨rfl, rfl⟩ := hs
      exact hr
    · simp only [upd, if_neg e] at hs ⊢
      exact h.objs id w' rows' hs
  · obtain ⟨g1, g2, _⟩ := h.fresh id (hF id hf).1
    exact ⟨g1, by simp only [upd, if_neg (hF id hf).2]; exact g2⟩
  · by_cases e : id = nid
    · subst e
      simp only [upd, if_true, Option.some.injEq, Prod.mk.injEq] at hs
      obtain ⟨rfl, rfl⟩ := hs
      exact hst i j s xs hc
    · simp only [upd, if_neg e] at hs
      exact fun hf => h.stamps id w' rows' i j s xs hs hc (hF s hf).1
  · simp only [upd] at hs ⊢
    rw [if_neg (by omega)] at hs
    exact ⟨hs, by rw [if_neg (by omega)]⟩
end relab
end Go.Proofs.YtedciihjgbkjgacGreatDoor.A
