/- THE ABSTRACT SEMANTICS IS SOUND, second part: how a frame that is as a state says goes on being so. Conditions: none. -/
import Derived.Test.YtkcbnbbbijlhcaiA5
namespace Go.Proofs.Ytkcbnbbbijlhcai.A
open Go

theorem Keeps.same {st st' : St} {W : World} {sh : Sh} (hv : st'.vars = st.vars) (ho : st'.objs = st.objs) : Keeps st W sh st' W sh (fun _ => False) where
  imm := fun b _ => ⟨rfl, rfl⟩
  vars := fun id _ h => ⟨by rw [← hv]; exact h, rfl⟩
  objs := fun id w rows' _ h => ⟨rfl, rows', by rw [← ho]; exact h, rfl, fun i j s xs' _ _ hc => ⟨xs', hc, rfl, rfl⟩⟩

theorem tmps_put (a : Act) (d : Option Tmp) (v : Value) (t : Nat) (hd : ∀ d', d = some d' → d' < a.tmps.size) :
    (a.put d v).tmps.getD t undef = if some t = d then v else a.tmps.getD t undef := by
  cases d with
  | none => simp [Act.put]
  | some d =>
    have hd := hd d rfl
    simp only [Act.put, Array.getD_eq_getD_getElem?, Array.getElem?_setIfInBounds, Option.some.injEq]
    by_cases h : d = t
    · subst h; simp [hd]
    · have h' : ¬ t = d := fun e => h e.symm
      simp [h, h']
theorem put_defers (a : Act) (d : Option Tmp) (v : Value) : (a.put d v).defers = a.defers := by cases d <;> rfl
theorem put_size (a : Act) (d : Option Tmp) (v : Value) : (a.put d v).tmps.size = a.tmps.size := by cases d <;> simp [Act.put]

section put
variable {cx : Cx} {st : St} {sh : Sh} {a : Act} {W : World} {Fr : Nat → Prop}
/-- A value is put into a slot. -/
theorem InvS.put (h : InvS cx st sh a W Fr) {d : Option Tmp} (hd : ∀ d', d = some d' → d' < cx.n) {av : AV} {v : Value} (hv : AVRep st W sh av v) (hid : ∀ id, Fr id → id ∉ av.ids) :
    InvS cx (st.app d ⟨av, [], []⟩) sh (a.put d v) W Fr := by
  have k : Keeps st W sh (st.app d ⟨av, [], []⟩) W sh (fun _ => False) := Keeps.same rfl rfl
  refine ⟨by rw [put_defers]; exact h.defers, by rw [put_size]; exact h.size, h.ext, fun t => ?_, fun id fs hf => ?_, h.objs, fun id hF => ?_, h.low, h.stamps, h.pinO, h.pinV⟩
  · rw [tmps_put _ _ _ _ (by rw [h.size]; exact hd)]
    show AVRep _ W sh (if some t = d then av else st.slots t) _
    split
    · exact avRep_keeps k (fun _ _ h => h) hv
    · exact avRep_keeps k (fun _ _ h => h) (h.slots t)
  · obtain ⟨h1, c, t, h2, h3⟩ := h.vars id fs hf
    exact ⟨h1, c, t, h2, all2_mono (fun s u _ g => svRep_keeps k (fun _ _ h => h) g) h3⟩
  · obtain ⟨h1, h2, h3, h4⟩ := h.fresh id hF
    refine ⟨h1, h2, fun t => ?_, h4⟩
    show id ∉ (if some t = d then av else st.slots t).ids
    split
    · exact hid id hF
    · exact h3 t
/-- Fewer ids are fresh. -/
theorem InvS.less (h : InvS cx st sh a W Fr) {Fr' : Nat → Prop} (hF : ∀ id, Fr' id → Fr id) : InvS cx st sh a W Fr' :=
  ⟨h.defers, h.size, h.ext, h.slots, h.vars, h.objs, fun id hf => h.fresh id (hF id hf), fun id hf => h.low id (hF id hf), fun id w rows i j s xs ho hc hf => h.stamps id w rows i j s xs ho hc (hF s hf), h.pinO, h.pinV⟩

/-- The memory moves on. -/
theorem InvS.move (h : InvS cx st sh a W Fr) {vars' : Nat → Option (List SV)} {objs' : Nat → Option Obj'} {sh' : Sh} {W' : World} {Fr' new : Nat → Prop} {n' : Nat}
    (k : Keeps st W sh ⟨st.slots, vars', objs', n'⟩ W' sh' new) (hn : ∀ id, new id → Fr id) (hF : ∀ id, Fr' id → Fr id)
    (hext : Ext cx.W0 cx.lab0 W' sh'.lab)
    (hvars : ∀ id fs, vars' id = some fs → (sh'.lab (sh'.β id) = .var id ∧ ∃ (c : Array Value) (t : TypeId), W'.heap[sh'.β id]? = some (.cells c t (0, 0)) ∧
      All2 (SVRep ⟨st.slots, vars', objs', n'⟩ W' sh') fs c.toList) ∧ ∀ id', Fr' id' → ∀ s ∈ fs, id' ∉ s.ids)
    (hobjs : ∀ id w rows, objs' id = some (w, rows) → OwnRep W' sh'.lab id w rows (sh'.μ id))
    (hfresh : ∀ id, Fr' id → vars' id = none ∧ objs' id = none)
    (hst : ∀ id w rows i j s xs, objs' id = some (w, rows) → Rows.cell rows i j = .sl s xs → ¬ Fr' s)
    (hpO : ∀ id, id < 1000 → objs' id ≠ none → st.objs id ≠ none ∧ sh'.μ id = sh.μ id) (hpV : ∀ id, id < 1000 → vars' id ≠ none → st.vars id ≠ none ∧ sh'.β id = sh.β id)
    (hpins : ∀ q ∈ cx.pins, q.1 < 1000) :
    InvS cx ⟨st.slots, vars', objs', n'⟩ sh' a W' Fr' := by
  refine ⟨h.defers, h.size, hext, fun t => avRep_keeps k (fun id hi hq => (h.fresh id (hn id hq)).2.2.1 t hi) (h.slots t), fun id fs hf => (hvars id fs hf).1, hobjs, fun id hf => ?_, fun id hf => h.low id (hF id hf), hst, ?_, ?_⟩
  · exact ⟨(hfresh id hf).1, (hfresh id hf).2, (h.fresh id (hF id hf)).2.2.1, fun q fs hq => (hvars q fs hq).2 id hf⟩
  · intro q v hm hne
    obtain ⟨h1, h2⟩ := hpO q (hpins _ hm) hne
    rw [h2]; exact h.pinO q v hm h1
  · intro q v hm hne
    obtain ⟨h1, h2⟩ := hpV q (hpins _ hm) hne
    rw [h2]; exact h.pinV q v hm h1
end put

/-! #### a new block -/
def Sh.add (sh : Sh) (n : Nat) (L : Lab) : Nat → Lab := fun b => if b = n then L else sh.lab b
theorem alloc_get (W : World) (o : Obj) (b : Nat) : (W.alloc o).heap[b]? = if b = W.heap.size then some o else W.heap[b]? := by
  show (W.heap.push o)[b]? = _
  rw [Array.getElem?_push]
theorem alloc_size (W : World) (o : Obj) : (W.alloc o).heap.size = W.heap.size + 1 := by
  show (W.heap.push o).size = _
  simp
section alloc
variable {cx : Cx} {st : St} {sh : Sh} {a : Act} {W : World} {Fr : Nat → Prop}
theorem InvS.below (h : InvS cx st sh a W Fr) {b : Nat} (hb : sh.lab b ≠ .dead) : b < W.heap.size := by
  rcases Nat.lt_or_ge b W.heap.size with g | g
  · exact g
  · exact absurd (h.ext.dead b g) hb
theorem InvS.agree_alloc (h : InvS cx st sh a W Fr) (o : Obj) (L : Lab) : Agree W sh.lab (W.alloc o) (sh.add W.heap.size L) (· ≠ .dead) := by
  intro b hb
  have := h.below hb
  refine ⟨by simp [Sh.add]; omega, ?_⟩
  rw [alloc_get, if_neg (by omega)]
theorem agree_mono {W W' : World} {lab lab' : Nat → Lab} {S S' : Lab → Prop} (h : Agree W lab W' lab' S) (hs : ∀ L, S' L → S L) : Agree W lab W' lab' S' := fun b hb => h b (hs _ hb)
theorem ext_alloc (h : InvS cx st sh a W Fr) (o : Obj) (L : Lab) : Ext cx.W0 cx.lab0 (W.alloc o) (sh.add W.heap.size L) := by
  obtain ⟨h1, h2, h3, h4, h5, h6⟩ := h.ext
  refine ⟨h1, h2, h3, by rw [alloc_size]; omega, fun b hb hl => ?_, fun b hb => ?_⟩
  · obtain ⟨g1, g2⟩ := h5 b hb hl
    obtain ⟨k1, k2⟩ := h.agree_alloc o L b (by rcases hl with hl | hl <;> rw [g1, hl] <;> simp)
    exact ⟨by rw [k1, g1], by rw [k2, g2]⟩
  · rw [alloc_size] at hb
    simp only [Sh.add]
    rw [if_neg (by omega)]
    exact h6 b (by omega)
theorem headAt_agree {W W' : World} {h : Value} {w i j : Nat} (hb : ∀ b L c, h = .slice (some ⟨b, 0, none⟩) L c → W'.heap[b]? = W.heap[b]?) : headAt W' h w i j = headAt W h w i j := by
  unfold headAt
  split
  · rename_i b L c
    exact cell_of_block (hb b L c rfl)
  · rfl
/-- The block of an outer slice is its own. -/
theorem InvS.own_block (h : InvS cx st sh a W Fr) {id w : Nat} {rows : Rows} (ho : st.objs id = some (w, rows)) {b L c : Nat} (e : sh.μ id = .slice (some ⟨b, 0, none⟩) L c) (hne : rows ≠ []) :
    sh.lab b = .own id := by
  obtain ⟨_, _, hc⟩ := h.objs id w rows ho
  rcases hc with ⟨A, _, hn⟩ | ⟨b', cap, c', t, e1, _, e3, _⟩
  · exact absurd hn hne
  · rw [e] at e1; cases e1; exact e3
theorem cell_ne {rows : Rows} {i j s : Nat} {xs : List Value} (h : Rows.cell rows i j = .sl s xs) : i < rows.length ∧ j < (rows.getD i []).length := by
  unfold Rows.cell at h
  constructor
  · rcases Nat.lt_or_ge i rows.length with g | g
    · exact g
    · have e : rows.getD i [] = [] := by rw [List.getD_eq_getElem?_getD, List.getElem?_eq_none g]; rfl
      rw [e] at h; simp at h
  · rcases Nat.lt_or_ge j (rows.getD i []).length with g | g
    · exact g
    · rw [List.getD_eq_getElem?_getD, List.getElem?_eq_none g] at h; simp at h
theorem keeps_alloc (h : InvS cx st sh a W Fr) (o : Obj) (L : Lab) {st' : St} {sh' : Sh} {new : Nat → Prop} (hlab : sh'.lab = sh.add W.heap.size L)
    (hv : ∀ id, ¬ new id → st'.vars id ≠ none → st.vars id ≠ none ∧ sh'.β id = sh.β id) (ho : ∀ id, ¬ new id → st'.objs id ≠ none → st'.objs id = st.objs id ∧ sh'.μ id = sh.μ id) :
    Keeps st W sh st' (W.alloc o) sh' new := by
  have ag := h.agree_alloc o L
  refine ⟨by rw [hlab]; exact agree_mono ag (by rintro _ rfl; simp), hv, fun id w rows' hn hs => ?_⟩
  obtain ⟨h1, h2⟩ := ho id hn (by rw [hs]; simp)
  rw [h1] at hs
  refine ⟨h2, rows', hs, rfl, fun i j s xs' _ _ hc => ⟨xs', hc, rfl, ?_⟩⟩
  rw [h2]
  refine headAt_agree fun b l c e => ?_
  have hne : rows' ≠ [] := by
    intro e; rw [e] at hc; have := (cell_ne hc).1; simp at this
  exact (ag b (by rw [h.own_block hs e hne]; simp)).2

/-- A new variable. -/
theorem InvS.newVar (h : InvS cx st sh a W Fr) {nid : Nat} (hid : Fr nid) {fs : List SV} {c : Array Value} {t : TypeId} (hfs : All2 (SVRep st W sh) fs c.toList)
    (hmen : ∀ id, Fr id → ∀ s ∈ fs, id ∉ s.ids) {Fr' : Nat → Prop} (hF : ∀ id, Fr' id → Fr id ∧ id ≠ nid) (hpins : ∀ q ∈ cx.pins, q.1 < 1000) :
    InvS cx ⟨st.slots, upd st.vars [(nid, some fs)], st.objs, st.next⟩ ⟨sh.add W.heap.size (.var nid), sh.μ, fun id => if id = nid then W.heap.size else sh.β id⟩ a (W.alloc (.cells c t)) Fr' := by
  have hlo := h.low nid hid
  have k : Keeps st W sh ⟨st.slots, upd st.vars [(nid, some fs)], st.objs, st.next⟩ (W.alloc (.cells c t)) ⟨sh.add W.heap.size (.var nid), sh.μ, fun id => if id = nid then W.heap.size else sh.β id⟩ (· = nid) := by
    refine keeps_alloc h _ (.var nid) rfl (fun id hn hs => ?_) (fun id _ _ => ⟨rfl, rfl⟩)
    simp only [upd, if_neg hn] at hs ⊢
    exact ⟨hs, trivial⟩
  refine h.move k (by rintro _ rfl; exact hid) (fun id hf => (hF id hf).1) (ext_alloc h _ _) (fun id gs hg => ?_) (fun id w rows ho => ?_) (fun id hf => ?_) (fun id w rows i j s xs ho hc hf => h.stamps id w rows i j s xs ho hc (hF s hf).1) (fun id _ ho => ⟨ho, rfl⟩) (fun id hl hv => ?_) hpins
  · by_cases e : id = nid
    · subst e
      simp only [upd, if_true, Option.some.injEq] at hg
      subst hg
      refine ⟨⟨by simp [Sh.add], c, t, by simp only [if_true]; rw [alloc_get, if_pos rfl], all2_mono (fun s u m g => svRep_keeps k (fun id' hi e => hmen id hid s m (by rw [← e]; exact hi)) g) hfs⟩, fun id' hf s m => hmen id' (hF id' hf).1 s m⟩
    · simp only [upd, if_neg e] at hg
      obtain ⟨h1, c', t', h2, h3⟩ := h.vars id gs hg
      have ag := h.agree_alloc (.cells c t) (.var nid) (sh.β id) (by rw [h1]; simp)
      refine ⟨⟨by simp only [if_neg e]; rw [ag.1, h1], c', t', by simp only [if_neg e]; rw [ag.2, h2], all2_mono (fun s u m g => svRep_keeps k (fun id' hi e' => ?_) g) h3⟩, fun id' hf s m => (h.fresh id' (hF id' hf).1).2.2.2 id gs hg s m⟩
      subst e'
      exact (h.fresh id' hid).2.2.2 id gs hg s m hi
  · exact ownRep_agree (h.agree_alloc _ _) (by simp) (by simp) (by simp) (h.objs id w rows ho)
  · obtain ⟨h1, h2, _⟩ := h.fresh id (hF id hf).1
    exact ⟨by simp only [upd, if_neg (hF id hf).2]; exact h1, h2⟩
  · simp only [upd] at hv ⊢
    rw [if_neg (by omega)] at hv
    exact ⟨hv, by rw [if_neg (by omega)]⟩
end alloc

end Go.Proofs.Ytkcbnbbbijlhcai.A
