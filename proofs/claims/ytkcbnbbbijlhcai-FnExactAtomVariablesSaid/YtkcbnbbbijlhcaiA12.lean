/- THE ABSTRACT SEMANTICS IS SOUND, eighth part: blocks change hands; new slices of one's own. Conditions: none. -/
import Derived.Test.YtkcbnbbbijlhcaiA11
namespace Go.Proofs.Ytkcbnbbbijlhcai.A
open Go
set_option linter.unusedSimpArgs false
set_option linter.unusedVariables false

/-- The same, but that some cells are gone. -/
def Shrinks (rows rows' : Rows) : Prop :=
  rows'.length = rows.length ∧ ∀ (i : Nat) (r' : List Cell), rows'[i]? = some r' → ∃ r, rows[i]? = some r ∧ r.length = r'.length ∧ ∀ (j : Nat) (c : Cell), r'[j]? = some c → c = .gone ∨ r[j]? = some c
theorem shrinks_refl (rows : Rows) : Shrinks rows rows := ⟨rfl, fun i r h => ⟨r, h, rfl, fun j c hc => .inr hc⟩⟩
theorem shrinks_gone (rows : Rows) (i j : Nat) : Shrinks rows (Rows.setCell rows i j .gone) := by
  refine ⟨by simp [Rows.setCell], fun k r' hr' => ?_⟩
  simp only [Rows.setCell, List.getElem?_set] at hr'
  split at hr'
  · rename_i e
    subst e
    split at hr'
    · rename_i hl
      simp only [Option.some.injEq] at hr'
      subst hr'
      refine ⟨rows[i], List.getElem?_eq_getElem hl, ?_, fun q c hc => ?_⟩
      · simp [List.getD_eq_getElem?_getD, List.getElem?_eq_getElem hl]
      · have e : rows.getD i [] = rows[i] := by rw [List.getD_eq_getElem?_getD, List.getElem?_eq_getElem hl]; rfl
        rw [e, List.getElem?_set] at hc
        split at hc
        · split at hc
          · simp only [Option.some.injEq] at hc; exact .inl hc.symm
          · cases hc
        · exact .inr hc
    · cases hr'
  · exact ⟨r', hr', rfl, fun q c hc => .inr hc⟩
theorem shrinks_cell {rows rows' : Rows} (h : Shrinks rows rows') {i j s : Nat} {xs : List Value} (hc : Rows.cell rows' i j = .sl s xs) : Rows.cell rows i j = .sl s xs := by
  obtain ⟨r', hi, hj⟩ := cell_get hc (by simp)
  obtain ⟨r, h1, _, h2⟩ := h.2 i r' hi
  rcases h2 j _ hj with e | e
  · cases e
  · simp [Rows.cell, List.getD_eq_getElem?_getD, h1, e]
theorem shrinks_ne {rows rows' : Rows} (h : Shrinks rows rows') (hn : rows' ≠ []) : rows ≠ [] := by
  rintro rfl
  exact hn (List.length_eq_zero_iff.mp h.1)

def goodπ (π : Lab → Lab) : Prop := π .imm = .imm ∧ π .dead = .dead ∧ (∀ id, π (.var id) = .var id) ∧ π .far = .far

section relab
variable {P : Program} {cx : Cx} {st : St} {sh : Sh} {a : Act} {W : World} {Fr : Nat → Prop}
theorem agree_relab {W : World} {lab : Nat → Lab} (π : Lab → Lab) : Agree W lab W (fun b => π (lab b)) (fun L => π L = L) := fun b hb => ⟨hb, rfl⟩
theorem ownCell_relab {lab : Nat → Lab} {π : Lab → Lab} (hπ : goodπ π) {L : Lab} {c : Cell} {v : Value} (hL : ∀ s xs, c = .sl (s + 1) xs → π L = L) (h : OwnCell W lab L c v) : OwnCell W (fun b => π (lab b)) L c v := by
  cases c with
  | sc x => exact h
  | gone => exact h
  | sl s xs => cases s with
    | zero => exact imSl_agree (agree_relab π) hπ.1 h
    | succ s => exact ownSl_agree (agree_relab π) (hL s xs rfl) h
theorem ownCell_to {lab : Nat → Lab} {π : Lab → Lab} (hπ : goodπ π) {L L' : Lab} {c : Cell} {v : Value} (hL : ∀ s xs, c = .sl (s + 1) xs → π L = L') (h : OwnCell W lab L c v) : OwnCell W (fun b => π (lab b)) L' c v := by
  cases c with
  | sc x => exact h
  | gone => exact h
  | sl s xs => cases s with
    | zero => exact imSl_agree (agree_relab π) hπ.1 h
    | succ s =>
      rcases h with ⟨A, h1, h2⟩ | ⟨b, cap, c, t, h1, h2, h3, h4⟩
      · exact .inl ⟨A, h1, h2⟩
      · exact .inr ⟨b, cap, c, t, h1, h2, by simp only [h3]; exact hL s xs rfl, h4⟩
theorem ownRep_to {lab : Nat → Lab} {π : Lab → Lab} (hπ : goodπ π) {id id' w : Nat} {rows rows' : Rows} {hd : Value} (hsh : Shrinks rows rows') (h1 : π (.own id) = .own id') (h2 : ∀ i j s xs, Rows.cell rows' i j = .sl (s + 1) xs → π (.inn id i j) = .inn id' i j)
    (h : OwnRep W lab id w rows hd) : OwnRep W (fun b => π (lab b)) id' w rows' hd := by
  obtain ⟨hw, hr, hc⟩ := h
  refine ⟨hw, fun r' hm => ?_, ?_⟩
  · obtain ⟨i, hi⟩ := List.getElem?_of_mem hm
    obtain ⟨r, g1, g2, _⟩ := hsh.2 i r' hi
    rw [← g2]; exact hr r (List.mem_of_getElem? g1)
  rcases hc with ⟨A, e, hn⟩ | ⟨b, cap, c, t, e1, e2, e3, e4, e5, e6⟩
  · subst hn
    exact .inl ⟨A, e, List.length_eq_zero_iff.mp hsh.1⟩
  · refine .inr ⟨b, cap, c, t, by rw [hsh.1]; exact e1, by rw [hsh.1]; exact e2, by simp only [e3]; exact h1, e4, e5, fun i j r' x hi hj => ?_⟩
    obtain ⟨r, g1, g2, g3⟩ := hsh.2 i r' hi
    have hjl : j < r.length := by rw [g2]; exact (List.getElem?_eq_some_iff.mp hj).1
    rcases g3 j x hj with rfl | g3
    · obtain ⟨v, k1, k2⟩ := e6 i j r _ g1 (List.getElem?_eq_getElem hjl)
      exact ⟨v, k1, ownCell_one k2⟩
    · obtain ⟨v, k1, k2⟩ := e6 i j r x g1 g3
      refine ⟨v, k1, ownCell_to hπ (fun s xs e => h2 i j s xs ?_) k2⟩
      subst e
      simp [Rows.cell, List.getD_eq_getElem?_getD, hi, hj]

/-- Blocks change hands; slices of one's own fall away, whole or in part. -/
theorem InvS.relab (h : InvS cx st sh a W Fr) (hpins : ∀ q ∈ cx.pins, q.1 < 1000) {π : Lab → Lab} (hπ : goodπ π) {objs' : Nat → Option Obj'}
    (ho : ∀ id w rows', objs' id = some (w, rows') → ∃ rows, st.objs id = some (w, rows) ∧ Shrinks rows rows' ∧ π (.own id) = .own id ∧ ∀ i j s xs, Rows.cell rows' i j = .sl (s + 1) xs → π (.inn id i j) = .inn id i j) :
    InvS cx ⟨st.slots, st.vars, objs', st.next⟩ ⟨fun b => π (sh.lab b), sh.μ, sh.β⟩ a W Fr := by
  have k : Keeps st W sh ⟨st.slots, st.vars, objs', st.next⟩ W ⟨fun b => π (sh.lab b), sh.μ, sh.β⟩ (fun _ => False) := by
    refine ⟨fun b hb => ⟨by simp only [hb]; exact hπ.1, rfl⟩, fun id _ hv => ⟨hv, rfl⟩, fun id w rows' _ hs => ?_⟩
    obtain ⟨rows, h1, h2, _⟩ := ho id w rows' hs
    exact ⟨rfl, rows, h1, h2.1.symm, fun i j s xs' _ _ hc => ⟨xs', shrinks_cell h2 hc, rfl, rfl⟩⟩
  refine h.move k (fun _ h => h.elim) (fun _ h => h) ?_ (fun id fs hf => ?_) (fun id w rows' hs => ?_) (fun id hf => ?_) (fun id w rows' i j s xs hs hc => ?_) (fun id _ hs => ?_) (fun id _ hv => ⟨hv, rfl⟩) hpins
  · obtain ⟨h1, h2, h3, h4, h5, h6⟩ := h.ext
    refine ⟨h1, h2, h3, h4, fun b hb hl => ?_, fun b hb => by simp only [h6 b hb]; exact hπ.2.1⟩
    obtain ⟨g1, g2⟩ := h5 b hb hl
    exact ⟨by rcases hl with hl | hl <;> simp only [g1, hl] <;> first | exact hπ.1 | exact hπ.2.2.2, g2⟩
  · obtain ⟨g1, c, t, g2, g3⟩ := h.vars id fs hf
    exact ⟨⟨by simp only [g1]; exact hπ.2.2.1 id, c, t, g2, all2_mono (fun s u m g => svRep_keeps k (fun _ _ h => h) g) g3⟩, fun id' hf' s m => (h.fresh id' hf').2.2.2 id fs hf s m⟩
  · obtain ⟨rows, h1, h2, h3, h4⟩ := ho id w rows' hs
    exact ownRep_to hπ h2 h3 h4 (h.objs id w rows h1)
  · obtain ⟨g1, g2, _⟩ := h.fresh id hf
    refine ⟨g1, ?_⟩
    rcases hs : objs' id with _ | ⟨w, rows'⟩
    · rfl
    · obtain ⟨rows, h1, _⟩ := ho id w rows' hs
      rw [g2] at h1; cases h1
  · obtain ⟨rows, h1, h2, _⟩ := ho id w rows' hs
    exact h.stamps id w rows i j s xs h1 (shrinks_cell h2 hc)
  · rcases hs' : objs' id with _ | ⟨w, rows'⟩
    · exact absurd hs' hs
    · obtain ⟨rows, h1, _⟩ := ho id w rows' hs'
      exact ⟨by rw [h1]; simp, rfl⟩

/-- A new block, whose label nothing leans on. -/
theorem InvS.alloc (h : InvS cx st sh a W Fr) (hpins : ∀ q ∈ cx.pins, q.1 < 1000) (o : Obj) (L : Lab) : InvS cx st ⟨sh.add W.heap.size L, sh.μ, sh.β⟩ a (W.alloc o) Fr := by
  have k : Keeps st W sh ⟨st.slots, st.vars, st.objs, st.next⟩ (W.alloc o) ⟨sh.add W.heap.size L, sh.μ, sh.β⟩ (fun _ => False) :=
    keeps_alloc h o L rfl (fun id _ hv => ⟨hv, rfl⟩) (fun id _ _ => ⟨rfl, rfl⟩)
  refine h.move k (fun _ h => h.elim) (fun _ h => h) (ext_alloc h o L) (fun id fs hf => ?_) (fun id w rows hs => ?_) (fun id hf => ⟨(h.fresh id hf).1, (h.fresh id hf).2.1⟩) h.stamps (fun id _ hs => ⟨hs, rfl⟩) (fun id _ hv => ⟨hv, rfl⟩) hpins
  · obtain ⟨g1, c, t, g2, g3⟩ := h.vars id fs hf
    have ag := h.agree_alloc o L (sh.β id) (by rw [g1]; simp)
    exact ⟨⟨ag.1.trans g1, c, t, ag.2.trans g2, all2_mono (fun s u m g => svRep_keeps k (fun _ _ h => h) g) g3⟩, fun id' hf' s m => (h.fresh id' hf').2.2.2 id fs hf s m⟩
  · exact ownRep_agree (h.agree_alloc o L) (by simp) (by simp) (by simp) (h.objs id w rows hs)

/-- The tape is drawn from. -/
theorem InvS.sameHeap (h : InvS cx st sh a W Fr) (hpins : ∀ q ∈ cx.pins, q.1 < 1000) {W' : World} (h1 : W'.heap = W.heap) (h2 : W'.os = W.os) (h3 : W'.tape = W.tape) (h4 : W'.output = W.output) : InvS cx st sh a W' Fr := by
  have ag : Agree W sh.lab W' sh.lab (fun _ => True) := fun b _ => ⟨rfl, by rw [h1]⟩
  have k : Keeps st W sh ⟨st.slots, st.vars, st.objs, st.next⟩ W' sh (fun _ => False) := by
    refine ⟨agree_mono ag (fun _ _ => trivial), fun id _ hv => ⟨hv, rfl⟩, fun id w rows' _ hs => ⟨rfl, rows', hs, rfl, fun i j s xs' _ _ hc => ⟨xs', hc, rfl, headAt_agree fun b _ _ _ => (ag b trivial).2⟩⟩⟩
  refine h.move k (fun _ h => h.elim) (fun _ h => h) ?_ (fun id fs hf => ?_) (fun id w rows hs => ?_) (fun id hf => ⟨(h.fresh id hf).1, (h.fresh id hf).2.1⟩) h.stamps (fun id _ hs => ⟨hs, rfl⟩) (fun id _ hv => ⟨hv, rfl⟩) hpins
  · obtain ⟨g1, g2, g3, g4, g5, g6⟩ := h.ext
    exact ⟨by rw [h2, g1], by rw [h3, g2], by rw [h4, g3], by rw [h1]; exact g4, fun b hb hl => by rw [h1]; exact g5 b hb hl, fun b hb => g6 b (by rw [h1] at hb; exact hb)⟩
  · obtain ⟨g1, c, t, g2, g3⟩ := h.vars id fs hf
    exact ⟨⟨g1, c, t, by rw [h1]; exact g2, all2_mono (fun s u m g => svRep_keeps k (fun _ _ h => h) g) g3⟩, fun id' hf' s m => (h.fresh id' hf').2.2.2 id fs hf s m⟩
  · exact ownRep_agree ag trivial trivial (fun _ _ => trivial) (h.objs id w rows hs)

/-- A block is written on which nothing leans. -/
theorem InvS.write (h : InvS cx st sh a W Fr) (hpins : ∀ q ∈ cx.pins, q.1 < 1000) {id : Nat} (ho : st.objs id = none) {b : Nat} (hb : sh.lab b = .own id) (c' : Array Value) : InvS cx st sh a (W.setRow b c') Fr := by
  have ag : Agree W sh.lab (W.setRow b c') sh.lab (· ≠ .own id) := fun q hq => ⟨rfl, setRow_other _ _ _ _ (by rintro rfl; exact hq hb)⟩
  have k : Keeps st W sh ⟨st.slots, st.vars, st.objs, st.next⟩ (W.setRow b c') sh (fun _ => False) := by
    refine ⟨agree_mono ag (by rintro _ rfl; simp), fun id _ hv => ⟨hv, rfl⟩, fun q w rows' _ hs => ⟨rfl, rows', hs, rfl, fun i j s xs' _ _ hc => ⟨xs', hc, rfl, headAt_agree fun b' L n e => ?_⟩⟩⟩
    have hne : rows' ≠ [] := by
      intro e; rw [e] at hc; have := (cell_ne hc).1; simp at this
    refine (ag b' ?_).2
    rw [h.own_block hs e hne]
    rintro e'
    cases e'
    rw [ho] at hs; cases hs
  refine h.move k (fun _ h => h.elim) (fun _ h => h) ?_ (fun q fs hf => ?_) (fun q w rows hs => ?_) (fun id hf => ⟨(h.fresh id hf).1, (h.fresh id hf).2.1⟩) h.stamps (fun id _ hs => ⟨hs, rfl⟩) (fun id _ hv => ⟨hv, rfl⟩) hpins
  · obtain ⟨g1, g2, g3, g4, g5, g6⟩ := h.ext
    refine ⟨g1, g2, g3, by rw [setRow_size]; exact g4, fun q hq hl => ?_, fun q hq => g6 q (by rw [setRow_size] at hq; exact hq)⟩
    obtain ⟨k1, k2⟩ := g5 q hq hl
    exact ⟨k1, by rw [(ag q (by rcases hl with hl | hl <;> rw [k1, hl] <;> simp)).2, k2]⟩
  · obtain ⟨g1, c, t, g2, g3⟩ := h.vars q fs hf
    exact ⟨⟨g1, c, t, by rw [(ag _ (by rw [g1]; simp)).2]; exact g2, all2_mono (fun s u m g => svRep_keeps k (fun _ _ h => h) g) g3⟩, fun id' hf' s m => (h.fresh id' hf').2.2.2 q fs hf s m⟩
  · have hne : q ≠ id := by rintro rfl; rw [ho] at hs; cases hs
    exact ownRep_agree ag (by simp) (by simpa using hne) (by simp) (h.objs q w rows hs)

/-- A new slice of one's own. -/
theorem InvS.addObj (h : InvS cx st sh a W Fr) (hpins : ∀ q ∈ cx.pins, q.1 < 1000) {nid w : Nat} (hid : Fr nid) {rows : Rows} {hd : Value} (hr : OwnRep W sh.lab nid w rows hd)
    {Fr' : Nat → Prop} (hF : ∀ id, Fr' id → Fr id ∧ id ≠ nid) (hst : ∀ i j s xs, Rows.cell rows i j = .sl s xs → ¬ Fr' s) :
    InvS cx ⟨st.slots, st.vars, upd st.objs [(nid, some (w, rows))], st.next⟩ ⟨sh.lab, fun id => if id = nid then hd else sh.μ id, sh.β⟩ a W Fr' := by
  have hlo := h.low nid hid
  have k : Keeps st W sh ⟨st.slots, st.vars, upd st.objs [(nid, some (w, rows))], st.next⟩ W ⟨sh.lab, fun id => if id = nid then hd else sh.μ id, sh.β⟩ (· = nid) := by
    refine ⟨fun b _ => ⟨rfl, rfl⟩, fun id _ hv => ⟨hv, rfl⟩, fun id w' rows' hn hs => ?_⟩
    simp only [upd, if_neg hn] at hs ⊢
    exact ⟨trivial, rows', hs, rfl, fun i j s xs' _ _ hc => ⟨xs', hc, rfl, trivial⟩⟩
  refine h.move k (by rintro _ rfl; exact hid) (fun id hf => (hF id hf).1) h.ext (fun id fs hf => ?_) (fun id w' rows' hs => ?_) (fun id hf => ?_) (fun id w' rows' i j s xs hs hc => ?_) (fun id hl hs => ?_) (fun id _ hv => ⟨hv, rfl⟩) hpins
  · obtain ⟨g1, c, t, g2, g3⟩ := h.vars id fs hf
    refine ⟨⟨g1, c, t, g2, all2_mono (fun s u m g => svRep_keeps k (fun id' hi e' => ?_) g) g3⟩, fun id' hf' s m => (h.fresh id' (hF id' hf').1).2.2.2 id fs hf s m⟩
    subst e'
    exact (h.fresh id' hid).2.2.2 id fs hf s m hi
  · by_cases e : id = nid
    · subst e
      simp only [upd, if_true, Option.some.injEq, Prod.mk.injEq] at hs ⊢
      obtain ⟨rfl, rfl⟩ := hs
      exact hr
    · simp only [upd, if_neg e] at hs ⊢
      exact h.objs id w' rows' hs
  · obtain ⟨g1, g2, _⟩ := h.fresh id (hF id hf).1
    exact ⟨g1, by simp only [upd, if_neg (hF id hf).2]; exact g2⟩
  · by_cases e : id = nid
    · subst e
      simp only [upd, if_true, Option.some.injEq, Prod.mk.injEq] at hs
      obtain ⟨rfl, rfl⟩ := hs
      exact hst i j s xs hc
    · simp only [upd, if_neg e] at hs
      exact fun hf => h.stamps id w' rows' i j s xs hs hc (hF s hf).1
  · simp only [upd] at hs ⊢
    rw [if_neg (by omega)] at hs
    exact ⟨hs, by rw [if_neg (by omega)]⟩
end relab
end Go.Proofs.Ytkcbnbbbijlhcai.A
