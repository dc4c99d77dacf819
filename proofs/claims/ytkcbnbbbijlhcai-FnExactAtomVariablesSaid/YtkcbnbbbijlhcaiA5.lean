/- THE ABSTRACT SEMANTICS IS SOUND, first part: what reads so in one world reads so in another one that agrees with it. Conditions: none. -/
import Derived.Test.YtkcbnbbbijlhcaiA3
namespace Go.Proofs.Ytkcbnbbbijlhcai.A
open Go

theorem all2_mono {α β : Type} {R S : α → β → Prop} : ∀ {as : List α} {bs : List β}, (∀ a b, a ∈ as → R a b → S a b) → All2 R as bs → All2 S as bs
  | [], [], _, _ => trivial
  | _ :: _, _ :: _, h, ⟨h1, h2⟩ => ⟨h _ _ (by simp) h1, all2_mono (fun a b m => h a b (by simp [m])) h2⟩
  | [], _ :: _, _, h => h.elim
  | _ :: _, [], _, h => h.elim
theorem all2_length {α β : Type} {R : α → β → Prop} : ∀ {as : List α} {bs : List β}, All2 R as bs → as.length = bs.length
  | [], [], _ => rfl
  | _ :: _, _ :: _, ⟨_, h⟩ => by simp [all2_length h]
  | [], _ :: _, h => h.elim
  | _ :: _, [], h => h.elim
theorem all2_get {α β : Type} {R : α → β → Prop} : ∀ {as : List α} {bs : List β} {k : Nat} {a : α}, All2 R as bs → as[k]? = some a → ∃ b, bs[k]? = some b ∧ R a b
  | _ :: _, b :: _, 0, _, ⟨h, _⟩, e => by simp at e; subst e; exact ⟨b, by simp, h⟩
  | _ :: _, _ :: _, k + 1, _, ⟨_, h⟩, e => by simp at e; simpa using all2_get h e
  | [], _, _, _, _, e => by simp at e
  | _ :: _, [], _, _, h, _ => h.elim
theorem all2_of_get {α β : Type} {R : α → β → Prop} : ∀ {as : List α} {bs : List β}, as.length = bs.length → (∀ (k : Nat) (a : α) (b : β), as[k]? = some a → bs[k]? = some b → R a b) → All2 R as bs
  | [], [], _, _ => trivial
  | a :: as, b :: bs, h, g => ⟨g 0 a b (by simp) (by simp), all2_of_get (by simpa using h) fun k x y hx hy => g (k + 1) x y (by simpa using hx) (by simpa using hy)⟩
  | [], _ :: _, h, _ => by simp at h
  | _ :: _, [], h, _ => by simp at h
theorem all2_drop {α β : Type} {R : α → β → Prop} : ∀ {as : List α} {bs : List β} (k : Nat), All2 R as bs → All2 R (as.drop k) (bs.drop k)
  | _, _, 0, h => by simpa using h
  | [], [], _ + 1, _ => trivial
  | _ :: _, _ :: _, k + 1, ⟨_, h⟩ => by simpa using all2_drop k h
  | [], _ :: _, _ + 1, h => h.elim
  | _ :: _, [], _ + 1, h => h.elim
theorem all2_take {α β : Type} {R : α → β → Prop} : ∀ {as : List α} {bs : List β} (k : Nat), All2 R as bs → All2 R (as.take k) (bs.take k)
  | _, _, 0, _ => by simp [All2]
  | [], [], _ + 1, _ => by simp [All2]
  | _ :: _, _ :: _, k + 1, ⟨h1, h⟩ => ⟨h1, all2_take k h⟩
  | [], _ :: _, _ + 1, h => h.elim
  | _ :: _, [], _ + 1, h => h.elim
theorem all2_append {α β : Type} {R : α → β → Prop} : ∀ {as cs : List α} {bs ds : List β}, All2 R as bs → All2 R cs ds → All2 R (as ++ cs) (bs ++ ds)
  | [], _, [], _, _, h => h
  | _ :: _, _, _ :: _, _, ⟨h1, h⟩, h' => ⟨h1, all2_append h h'⟩
  | [], _, _ :: _, _, h, _ => h.elim
  | _ :: _, _, [], _, h, _ => h.elim

/-- Blocks of some kinds are as they were. -/
def Agree (W : World) (lab : Nat → Lab) (W' : World) (lab' : Nat → Lab) (S : Lab → Prop) : Prop :=
  ∀ b, S (lab b) → lab' b = lab b ∧ W'.heap[b]? = W.heap[b]?

theorem cell_of_block {W W' : World} {b o : Nat} (h : W'.heap[b]? = W.heap[b]?) : W'.cell? ⟨b, o, none⟩ = W.cell? ⟨b, o, none⟩ := by
  simp only [World.cell?, h]
theorem cell_cells {W : World} {b o : Nat} {c : Array Value} {t : TypeId} {f : Nat × Nat} (h : W.heap[b]? = some (.cells c t f)) : W.cell? ⟨b, o, none⟩ = c[o]? := by
  simp [World.cell?, h]

section agree
variable {W W' : World} {lab lab' : Nat → Lab} {S : Lab → Prop}
theorem imSl_agree (h : Agree W lab W' lab' S) (hS : S .imm) {xs : List Value} {v : Value} : ImSl W lab xs v → ImSl W' lab' xs v := by
  rintro ⟨A, cap, h1, h2, h3⟩
  refine ⟨A, cap, h1, h2, fun hne => ?_⟩
  obtain ⟨b, o, e, hl, hc⟩ := h3 hne
  obtain ⟨g1, g2⟩ := h b (by rw [hl]; exact hS)
  exact ⟨b, o, e, by rw [g1, hl], fun k x hk => by rw [cell_of_block g2]; exact hc k x hk⟩
theorem imCell_agree (h : Agree W lab W' lab' S) (hS : S .imm) {c : Cell} {v : Value} : ImCell W lab c v → ImCell W' lab' c v := by
  cases c with
  | sc x => exact id
  | sl s xs => exact imSl_agree h hS
  | gone => exact id
theorem imRow_agree (h : Agree W lab W' lab' S) (hS : S .imm) {row : List Cell} {b o : Nat} (hb : lab b = .imm) : ImRow W lab row b o → ImRow W' lab' row b o := by
  intro hr j c hj
  obtain ⟨v, h1, h2⟩ := hr j c hj
  obtain ⟨_, g2⟩ := h b (by rw [hb]; exact hS)
  exact ⟨v, by rw [cell_of_block g2]; exact h1, imCell_agree h hS h2⟩
theorem imRep_agree (h : Agree W lab W' lab' S) (hS : S .imm) {w : Nat} {rows : Rows} {v : Value} : ImRep W lab w rows v → ImRep W' lab' w rows v := by
  rintro ⟨A, cap, h1, h2, h3, h4⟩
  refine ⟨A, cap, h1, h2, h3, fun hne => ?_⟩
  obtain ⟨hw, b, o, e, hl, hr⟩ := h4 hne
  exact ⟨hw, b, o, e, by rw [(h b (by rw [hl]; exact hS)).1, hl], fun i r hi => imRow_agree h hS hl (hr i r hi)⟩
theorem fldRep_agree (h : Agree W lab W' lab' S) (hS : S .imm) {f : Fld} {v : Value} : FldRep W lab f v → FldRep W' lab' f v := by
  cases f with
  | sc x => exact id
  | im w rows => exact imRep_agree h hS
theorem ipRep_agree (h : Agree W lab W' lab' S) (hS : S .imm) {fs : List Fld} {j : Nat} {v : Value} : IpRep W lab fs j v → IpRep W' lab' fs j v := by
  rintro ⟨b, o, e, hl, hf⟩
  obtain ⟨g1, g2⟩ := h b (by rw [hl]; exact hS)
  refine ⟨b, o, e, by rw [g1, hl], fun k f hk => ?_⟩
  obtain ⟨u, h1, h2⟩ := hf k f hk
  exact ⟨u, by rw [cell_of_block g2]; exact h1, fldRep_agree h hS h2⟩
theorem ownSl_agree (h : Agree W lab W' lab' S) {L : Lab} (hL : S L) {xs : List Value} {v : Value} : OwnSl W lab L xs v → OwnSl W' lab' L xs v := by
  rintro (⟨A, h1, h2⟩ | ⟨b, cap, c, t, h1, h2, h3, h4, h5, h6⟩)
  · exact .inl ⟨A, h1, h2⟩
  · obtain ⟨g1, g2⟩ := h b (by rw [h3]; exact hL)
    exact .inr ⟨b, cap, c, t, h1, h2, by rw [g1, h3], by rw [g2, h4], h5, h6⟩
theorem ownCell_agree (h : Agree W lab W' lab' S) (hS : S .imm) {L : Lab} (hL : S L) {c : Cell} {v : Value} : OwnCell W lab L c v → OwnCell W' lab' L c v := by
  cases c with
  | sc x => exact id
  | sl s xs => cases s with
    | zero => exact imSl_agree h hS
    | succ s => exact ownSl_agree h hL
  | gone => exact id
theorem ownRep_agree (h : Agree W lab W' lab' S) (hS : S .imm) {id w : Nat} (h1 : S (.own id)) (h2 : ∀ i j, S (.inn id i j)) {rows : Rows} {v : Value} :
    OwnRep W lab id w rows v → OwnRep W' lab' id w rows v := by
  rintro ⟨hw, hr, hc⟩
  refine ⟨hw, hr, ?_⟩
  rcases hc with ⟨A, e, hn⟩ | ⟨b, cap, c, t, e1, e2, e3, e4, e5, e6⟩
  · exact .inl ⟨A, e, hn⟩
  · obtain ⟨g1, g2⟩ := h b (by rw [e3]; exact h1)
    refine .inr ⟨b, cap, c, t, e1, e2, by rw [g1, e3], by rw [g2, e4], e5, fun i j r x hi hj => ?_⟩
    obtain ⟨v, k1, k2⟩ := e6 i j r x hi hj
    exact ⟨v, k1, ownCell_agree h hS (h2 i j) k2⟩
end agree

/-- What slots and variables lean on is kept; 'new': ids that nobody has named before. -/
structure Keeps (st : St) (W : World) (sh : Sh) (st' : St) (W' : World) (sh' : Sh) (new : Nat → Prop) : Prop where
  imm : Agree W sh.lab W' sh'.lab (· = .imm)
  vars : ∀ id, ¬ new id → st'.vars id ≠ none → st.vars id ≠ none ∧ sh'.β id = sh.β id
  objs : ∀ id w rows', ¬ new id → st'.objs id = some (w, rows') → sh'.μ id = sh.μ id ∧ ∃ rows, st.objs id = some (w, rows) ∧ rows.length = rows'.length ∧
    ∀ i j s xs', ¬ new s → 0 < s → Rows.cell rows' i j = .sl s xs' → ∃ xs, Rows.cell rows i j = .sl s xs ∧ xs.length = xs'.length ∧ headAt W' (sh'.μ id) w i j = headAt W (sh.μ id) w i j

section keeps
variable {st st' : St} {W W' : World} {sh sh' : Sh} {new : Nat → Prop}
theorem svRep_keeps (k : Keeps st W sh st' W' sh' new) {s : SV} {v : Value} (hn : ∀ id ∈ s.ids, ¬ new id) : SVRep st W sh s v → SVRep st' W' sh' s v := by
  cases s with
  | un => exact fun _ => trivial
  | sc x => exact id
  | im w rows => exact imRep_agree k.imm rfl
  | ref id w off len =>
    intro h w' rows' ho
    obtain ⟨hμ, rows, h1, h2, _⟩ := k.objs id w' rows' (hn id (by simp [SV.ids])) ho
    obtain ⟨g1, g2, g3⟩ := h w' rows h1
    exact ⟨g1, by omega, by rw [hμ]; exact g3⟩
  | rin id i j s off len =>
    rintro ⟨hs0, h⟩
    refine ⟨hs0, fun w rows' xs' ho hc => ?_⟩
    obtain ⟨hμ, rows, h1, h2, h3⟩ := k.objs id w rows' (hn id (by simp [SV.ids])) ho
    obtain ⟨xs, c1, c2, c3⟩ := h3 i j s xs' (hn s (by simp [SV.ids])) hs0 hc
    obtain ⟨g0, g1, hd, g2, g3⟩ := h w rows xs h1 c1
    exact ⟨g0, by omega, hd, by rw [c3]; exact g2, g3⟩
  | vad id j =>
    intro h fs' hf
    obtain ⟨h1, h2⟩ := k.vars id (hn id (by simp [SV.ids])) (by rw [hf]; simp)
    obtain ⟨fs, hfs⟩ := Option.ne_none_iff_exists'.mp h1
    rw [h2]; exact h fs hfs
  | oad id i j =>
    intro h w rows' ho hi
    obtain ⟨hμ, rows, h1, h2, _⟩ := k.objs id w rows' (hn id (by simp [SV.ids])) ho
    rw [hμ]; exact h w rows h1 (by omega)
  | oin id i j s q =>
    rintro ⟨hs0, h⟩
    refine ⟨hs0, fun w rows' xs' ho hc hq => ?_⟩
    obtain ⟨hμ, rows, h1, h2, h3⟩ := k.objs id w rows' (hn id (by simp [SV.ids])) ho
    obtain ⟨xs, c1, c2, c3⟩ := h3 i j s xs' (hn s (by simp [SV.ids])) hs0 hc
    obtain ⟨g0, b, n, cap, g1, g2⟩ := h w rows xs h1 c1 (by omega)
    exact ⟨g0, b, n, cap, by rw [c3]; exact g1, g2⟩
  | iad row j =>
    rintro ⟨b, o, e, hl, hr⟩
    exact ⟨b, o, e, by rw [(k.imm b hl).1, hl], imRow_agree k.imm rfl hl hr⟩
  | ipt fs j => exact ipRep_agree k.imm rfl
  | fnv f ids =>
    rintro ⟨cs, e, h⟩
    refine ⟨cs, e, all2_mono ?_ h⟩
    intro id u hm g fs' hf
    obtain ⟨h1, h2⟩ := k.vars id (hn id (by simpa [SV.ids] using hm)) (by rw [hf]; simp)
    obtain ⟨fs, hfs⟩ := Option.ne_none_iff_exists'.mp h1
    rw [h2]; exact g fs hfs
  | fni f caps =>
    rintro ⟨cs, e, h⟩
    exact ⟨cs, e, all2_mono (fun _ _ _ g => ipRep_agree k.imm rfl g) h⟩
theorem pkRep_keeps (k : Keeps st W sh st' W' sh' new) {p : Pk} {v : Value} (hn : ∀ id ∈ p.svs.flatMap SV.ids, ¬ new id) : PkRep st W sh p v → PkRep st' W' sh' p v := by
  cases p with
  | one s => exact svRep_keeps k fun id h => hn id (by simpa [Pk.svs] using h)
  | agg xs =>
    rintro ⟨cs, e, h⟩
    exact ⟨cs, e, all2_mono (fun s u m g => svRep_keeps k (fun id hi => hn id (by simp only [Pk.svs, List.mem_flatMap]; exact ⟨s, m, hi⟩)) g) h⟩
theorem avRep_keeps (k : Keeps st W sh st' W' sh' new) {a : AV} {v : Value} (hn : ∀ id ∈ a.ids, ¬ new id) : AVRep st W sh a v → AVRep st' W' sh' a v := by
  cases a with
  | pk p => exact pkRep_keeps k fun id h => hn id h
  | tup ps =>
    rintro ⟨cs, e, h⟩
    refine ⟨cs, e, all2_mono (fun p u m g => pkRep_keeps k (fun id hi => hn id ?_) g) h⟩
    simp only [AV.ids, AV.svs, List.mem_flatMap] at hi ⊢
    obtain ⟨s, h1, h2⟩ := hi
    exact ⟨s, ⟨p, m, h1⟩, h2⟩
end keeps

end Go.Proofs.Ytkcbnbbbijlhcai.A
