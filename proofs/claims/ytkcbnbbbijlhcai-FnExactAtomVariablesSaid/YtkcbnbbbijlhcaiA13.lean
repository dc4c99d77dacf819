/- THE ABSTRACT SEMANTICS IS SOUND, ninth part: values put into cells of slices of one's own. Conditions: none. -/
import Derived.Test.YtkcbnbbbijlhcaiA12
namespace Go.Proofs.Ytkcbnbbbijlhcai.A
open Go
set_option linter.unusedSimpArgs false
set_option linter.unusedVariables false

theorem upd_append {α : Type} (f : Nat → Option α) : ∀ (l1 l2 : List (Nat × Option α)), upd f (l1 ++ l2) = upd (upd f l2) l1
  | [], _ => rfl
  | (i, x) :: r, l2 => by simp only [List.cons_append, upd]; rw [upd_append f r l2]
theorem goodπ_id : goodπ id := ⟨rfl, rfl, fun _ => rfl, rfl⟩
theorem goodπ_comp {π π' : Lab → Lab} (h : goodπ π) (h' : goodπ π') : goodπ (fun L => π' (π L)) := ⟨by simp only [h.1, h'.1], by simp only [h.2.1, h'.2.1], fun id => by simp only [h.2.2.1, h'.2.2.1], by simp only [h.2.2.2, h'.2.2.2]⟩
open Classical in
noncomputable def swapL (L0 L1 : Lab) : Lab → Lab := fun L => if L = L0 then L1 else L
theorem swapL_at (L0 L1 : Lab) : swapL L0 L1 L0 = L1 := by simp [swapL]
theorem swapL_ne {L0 L1 L : Lab} (h : L ≠ L0) : swapL L0 L1 L = L := by simp [swapL, h]

/-- Labels of a slice that is being made. -/
def mine (nid : Nat) (L : Lab) : Prop := L = .own nid ∨ ∃ i j, L = .inn nid i j

section graft
variable {P : Program} {cx : Cx} {st : St} {sh : Sh} {a : Act} {W : World} {Fr : Nat → Prop}

theorem imSl_of_lift {lab : Nat → Lab} {xs : List Value} {v : Value} (h : ImRep W lab 1 (lift xs) v) : ImSl W lab xs v := by
  obtain ⟨A, cap, e, hl, _, hc⟩ := h
  rw [lift_length] at e hl
  refine ⟨A, cap, e, hl, fun hne => ?_⟩
  obtain ⟨_, b, o, e1, e2, e3⟩ := hc (by intro e; apply hne; simpa [lift] using e)
  refine ⟨b, o, e1, e2, fun k x hk => ?_⟩
  obtain ⟨u, g1, g2⟩ := e3 k [.sc x] (by simp [lift, hk]) 0 (.sc x) (by simp)
  have e : u = x := g2.1
  exact ⟨g2.2, by rw [← e]; simpa using g1⟩
theorem ownSl_of_rep {lab : Nat → Lab} {π : Lab → Lab} {id : Nat} {L1 : Lab} {xs : List Value} {v : Value} (hπ : π (.own id) = L1) (h : OwnRep W lab id 1 (lift xs) v) : OwnSl W (fun b => π (lab b)) L1 xs v := by
  obtain ⟨_, _, hc⟩ := h
  rcases hc with ⟨A, e, hn⟩ | ⟨b, cap, c, t, e1, e2, e3, e4, e5, e6⟩
  · exact .inl ⟨A, e, by simpa [lift] using hn⟩
  · rw [lift_length] at e1 e2
    refine .inr ⟨b, cap, c, t, e1, e2, by simp only [e3]; exact hπ, e4, by rw [e5, Nat.mul_one], fun k x hk => ?_⟩
    obtain ⟨u, g1, g2⟩ := e6 k 0 [.sc x] (.sc x) (by simp [lift, hk]) (by simp)
    have e : u = x := g2.1
    exact ⟨g2.2, by rw [← e]; simpa using g1⟩
theorem ownSl_empty {lab : Nat → Lab} {L : Lab} {A : Option Addr} : OwnSl W lab L [] (.slice A 0 0) := .inl ⟨A, rfl, rfl⟩
theorem view_all {h : Value} {w n : Nat} {v : Value} (hv : ViewIs h w 0 n v) {A : Option Addr} {cap : Nat} (e : h = .slice A n cap) (hA : cap = 0 ∨ ∀ a, A = some a → a.spot = none) : v = h ∨ (n = 0 ∧ ∃ A, v = .slice A 0 0) := by
  rcases hv with hv | hv
  · left
    subst e
    rw [hv]
    rcases hA with rfl | hA
    · simp [viewOf]
    · exact viewOf_full hA
  · exact .inr hv

theorem relab_keeps (st : St) (W : World) (sh : Sh) {π : Lab → Lab} (hπ : goodπ π) {objs' : Nat → Option Obj'} {n : Nat}
    (ho : ∀ id w rows', objs' id = some (w, rows') → ∃ rows, st.objs id = some (w, rows) ∧ Shrinks rows rows') : Keeps st W sh ⟨st.slots, st.vars, objs', n⟩ W ⟨fun b => π (sh.lab b), sh.μ, sh.β⟩ (fun _ => False) := by
  refine ⟨fun b hb => ⟨by simp only [hb]; exact hπ.1, rfl⟩, fun id _ hv => ⟨hv, rfl⟩, fun id w rows' _ hs => ?_⟩
  obtain ⟨rows, h1, h2⟩ := ho id w rows' hs
  exact ⟨rfl, rows, h1, h2.1.symm, fun i j s xs' _ _ hc => ⟨xs', shrinks_cell h2 hc, rfl, rfl⟩⟩

/-- What a step of grafting leaves. -/
structure Grafted (cx : Cx) (st : St) (sh : Sh) (a : Act) (W : World) (Fr : Nat → Prop) (nid : Nat) (ws : List (Nat × Option Obj')) (π : Lab → Lab) : Prop where
  good : goodπ π
  inv : InvS cx ⟨st.slots, st.vars, upd st.objs ws, st.next⟩ ⟨fun b => π (sh.lab b), sh.μ, sh.β⟩ a W Fr
  keep : Keeps st W sh ⟨st.slots, st.vars, upd st.objs ws, st.next⟩ W ⟨fun b => π (sh.lab b), sh.μ, sh.β⟩ (fun _ => False)
  mine : ∀ L, mine nid L → π L = L
  none : ∀ id, st.objs id = none → upd st.objs ws id = none
theorem grafted_nil (h : InvS cx st sh a W Fr) (nid : Nat) : Grafted cx st sh a W Fr nid [] (fun L => L) := by
  refine ⟨goodπ_id, h, Keeps.same rfl rfl, fun _ _ => rfl, fun _ h => h⟩
theorem grafted_comp {nid : Nat} {ws ws' : List (Nat × Option Obj')} {π π' : Lab → Lab} (g : Grafted cx st sh a W Fr nid ws π)
    (g' : Grafted cx ⟨st.slots, st.vars, upd st.objs ws, st.next⟩ ⟨fun b => π (sh.lab b), sh.μ, sh.β⟩ a W Fr nid ws' π') : Grafted cx st sh a W Fr nid (ws' ++ ws) (fun L => π' (π L)) := by
  have e : upd st.objs (ws' ++ ws) = upd (upd st.objs ws) ws' := upd_append _ _ _
  refine ⟨goodπ_comp g.good g'.good, by rw [e]; exact g'.inv, ?_, fun L hL => by rw [g.mine L hL, g'.mine L hL], fun id hn => by rw [e]; exact g'.none id (g.none id hn)⟩
  rw [e]
  have k1 := g.keep
  have k2 := g'.keep
  refine ⟨fun b hb => ?_, fun id hn hv => ?_, fun id w rows' hn hs => ?_⟩
  · obtain ⟨a1, a2⟩ := k1.imm b hb
    obtain ⟨b1, b2⟩ := k2.imm b (a1.trans hb)
    exact ⟨b1.trans a1, b2.trans a2⟩
  · obtain ⟨a1, a2⟩ := k2.vars id hn hv
    obtain ⟨b1, b2⟩ := k1.vars id hn a1
    exact ⟨b1, a2.trans b2⟩
  · obtain ⟨a1, rows1, a2, a3, a4⟩ := k2.objs id w rows' hn hs
    obtain ⟨b1, rows0, b2, b3, b4⟩ := k1.objs id w rows1 hn a2
    refine ⟨a1.trans b1, rows0, b2, b3.trans a3, fun i j s xs' hns h0 hc => ?_⟩
    obtain ⟨xs1, c1, c2, c3⟩ := a4 i j s xs' hns h0 hc
    obtain ⟨xs0, d1, d2, d3⟩ := b4 i j s xs1 hns h0 c1
    exact ⟨xs0, d1, d2.trans c2, c3.trans d3⟩

/-- A value put into a cell (i, j) of the slice nid that is being made (s: the stamp). -/
theorem InvS.cell (h : InvS cx st sh a W Fr) (hpins : ∀ q ∈ cx.pins, q.1 < 1000) {nid s : Nat} (hnid : st.objs nid = none) (hs : 0 < s) (i j : Nat) {x : SV} {v : Value} (hv : SVRep st W sh x v) (hsol : ∀ u, x = .sc u → u.oneCell' = true) {K : Cell → List (Nat × Option Obj') → Prop} (hK : cellK st s x K) :
    ∃ c ws π, K c ws ∧ Grafted cx st sh a W Fr nid ws π ∧ OwnCell W (fun b => π (sh.lab b)) (.inn nid i j) c v ∧ v.oneCell' = true ∧ ∀ s' xs, c = .sl s' xs → s' = 0 ∨ s' = s := by
  obtain ⟨s, rfl⟩ : ∃ s', s = s' + 1 := ⟨s - 1, by omega⟩
  cases x with
  | sc u =>
    have e : v = u := hv
    subst e
    simp only [cellK] at hK
    split at hK
    · rename_i hn
      have := isNil_eq hn
      subst this
      exact ⟨_, _, _, hK, grafted_nil h nid, ownSl_empty, rfl, fun s' xs e => by cases e; exact .inr rfl⟩
    · exact ⟨_, _, _, hK, grafted_nil h nid, ⟨rfl, hsol v rfl⟩, hsol v rfl, fun s' xs e => by cases e⟩
  | im w rows =>
    obtain ⟨xs, rfl, rfl, hK⟩ := hK
    refine ⟨_, _, _, hK, grafted_nil h nid, imSl_of_lift hv, ?_, fun s' xs e => by cases e; exact .inl rfl⟩
    obtain ⟨A, cap, e, _⟩ := hv
    rw [e]; rfl
  | ref id w off len =>
    simp only [cellK] at hK
    rcases hob : st.objs id with _ | ⟨w', rows⟩
    · rw [hob] at hK; exact hK.elim
    · rw [hob] at hK
      obtain ⟨xs, rfl, rfl, hlen, rfl, hK⟩ := hK
      obtain ⟨rfl, _, hvi⟩ := hv w' _ hob
      have hrep := h.objs id _ _ hob
      obtain ⟨A, cap, e, _, hA⟩ := own_shape h hob
      subst hlen
      have hne : id ≠ nid := by rintro rfl; rw [hnid] at hob; cases hob
      have hπ : goodπ (swapL (.own id) (.inn nid i j)) := ⟨swapL_ne (by simp), swapL_ne (by simp), fun _ => swapL_ne (by simp), swapL_ne (by simp)⟩
      have hobj : ∀ id' w rows', upd st.objs [(id, none)] id' = some (w, rows') → ∃ rows, st.objs id' = some (w, rows) ∧ Shrinks rows rows' ∧ swapL (.own id) (.inn nid i j) (.own id') = .own id' ∧ ∀ i' j' s xs, Rows.cell rows' i' j' = .sl (s + 1) xs → swapL (.own id) (.inn nid i j) (.inn id' i' j') = .inn id' i' j' := by
        intro id' w2 rows' ho'
        simp only [upd] at ho'
        split at ho'
        · cases ho'
        · rename_i hne'
          exact ⟨rows', ho', shrinks_refl _, swapL_ne (by simpa using hne'), fun i' j' s xs _ => swapL_ne (by simp)⟩
      refine ⟨_, _, swapL (.own id) (.inn nid i j), hK, ⟨hπ, h.relab hpins hπ hobj, relab_keeps st W sh hπ (fun id' w2 rows' ho' => ?_), ?_, fun id' hn => ?_⟩, ?_, ?_, fun s' xs e => by cases e; exact .inr rfl⟩
      · obtain ⟨rows, k1, k2, _⟩ := hobj id' w2 rows' ho'
        exact ⟨rows, k1, k2⟩
      · rintro L (rfl | ⟨i', j', rfl⟩)
        · exact swapL_ne (by simpa using hne.symm)
        · exact swapL_ne (by simp)
      · simp only [upd]; split
        · rfl
        · exact hn
      · rcases view_all hvi e hA with hv' | ⟨hz, A', hv'⟩
        · rw [hv']; exact ownSl_of_rep (swapL_at _ _) hrep
        · have : xs = [] := by rw [lift_length] at hz; exact List.length_eq_zero_iff.mp hz
          subst this
          rw [hv']; exact ownSl_empty
      · rcases view_all hvi e hA with hv' | ⟨hz, A', hv'⟩
        · rw [hv', e]; rfl
        · rw [hv']; rfl
  | rin id i0 j0 s0 off len =>
    simp only [cellK] at hK
    rcases hob : st.objs id with _ | ⟨w', rows⟩
    · rw [hob] at hK; exact hK.elim
    · rw [hob] at hK
      simp only at hK
      rcases hc : Rows.cell rows i0 j0 with _ | ⟨s1, xs⟩ | _
      · rw [hc] at hK; exact hK.elim
      · rw [hc] at hK
        obtain ⟨rfl, rfl, rfl, hK⟩ := hK
        obtain ⟨g0, _, hd, g2, hvi⟩ := hv.2 w' rows xs hob hc
        obtain ⟨v', k1, k2⟩ := h.own_head hob hc g0
        rw [g2] at k1; cases k1
        obtain ⟨A, cap, e, _, hA⟩ := ownSl_shape k2
        have hne : id ≠ nid := by rintro rfl; rw [hnid] at hob; cases hob
        have hπ : goodπ (swapL (.inn id i0 j0) (.inn nid i j)) := ⟨swapL_ne (by simp), swapL_ne (by simp), fun _ => swapL_ne (by simp), swapL_ne (by simp)⟩
        have hobj : ∀ id' w rows', upd st.objs [(id, some (w', Rows.setCell rows i0 j0 .gone))] id' = some (w, rows') → ∃ rows, st.objs id' = some (w, rows) ∧ Shrinks rows rows' ∧ swapL (.inn id i0 j0) (.inn nid i j) (.own id') = .own id' ∧
            ∀ i' j' s xs, Rows.cell rows' i' j' = .sl (s + 1) xs → swapL (.inn id i0 j0) (.inn nid i j) (.inn id' i' j') = .inn id' i' j' := by
          intro id' w2 rows' ho'
          simp only [upd] at ho'
          split at ho'
          · rename_i e'
            subst e'
            simp only [Option.some.injEq, Prod.mk.injEq] at ho'
            obtain ⟨rfl, rfl⟩ := ho'
            refine ⟨rows, hob, shrinks_gone rows i0 j0, swapL_ne (by simp), fun i' j' s xs' hc' => swapL_ne ?_⟩
            intro e'
            simp only [Lab.inn.injEq, true_and] at e'
            obtain ⟨rfl, rfl⟩ := e'
            obtain ⟨r, m1, m2⟩ := cell_get hc' (by simp)
            obtain ⟨q1, q2⟩ := cell_ne hc
            simp only [Rows.setCell] at m1
            rw [List.getElem?_set_self (by omega)] at m1
            simp only [Option.some.injEq] at m1
            subst m1
            rw [List.getElem?_set_self (by omega)] at m2
            cases m2
          · rename_i hne'
            exact ⟨rows', ho', shrinks_refl _, swapL_ne (by simp), fun i' j' s xs _ => swapL_ne (by simp [hne'])⟩
        refine ⟨_, _, swapL (.inn id i0 j0) (.inn nid i j), hK, ⟨hπ, h.relab hpins hπ hobj, relab_keeps st W sh hπ (fun id' w2 rows' ho' => ?_), ?_, fun id' hn => ?_⟩, ?_, ?_, fun s' xs e => by cases e; exact .inr rfl⟩
        · obtain ⟨rows, k1, k2, _⟩ := hobj id' w2 rows' ho'
          exact ⟨rows, k1, k2⟩
        · rintro L (rfl | ⟨i', j', rfl⟩)
          · exact swapL_ne (by simp)
          · exact swapL_ne (by simp [hne.symm])
        · simp only [upd]; split
          · rename_i e'; subst e'; rw [hob] at hn; cases hn
          · exact hn
        · rcases view_all hvi e hA with hv' | ⟨hz, A', hv'⟩
          · rw [hv']
            have := k2
            rcases this with ⟨A2, m1, m2⟩ | ⟨b, cap2, c2, t2, m1, m2, m3, m4⟩
            · exact .inl ⟨A2, m1, m2⟩
            · exact .inr ⟨b, cap2, c2, t2, m1, m2, by simp only [m3]; exact swapL_at _ _, m4⟩
          · have : xs = [] := List.length_eq_zero_iff.mp hz
            subst this
            rw [hv']; exact ownSl_empty
        · rcases view_all hvi e hA with hv' | ⟨hz, A', hv'⟩
          · rw [hv', e]; rfl
          · rw [hv']; rfl
      · rw [hc] at hK; exact hK.elim
  | _ => exact hK.elim

/-- Several values, from left to right. -/
theorem InvS.cells (hpins : ∀ q ∈ cx.pins, q.1 < 1000) {nid s : Nat} (hs : 0 < s) (i : Nat) : ∀ {xs : List SV} {vs : List Value} {st : St} {sh : Sh} (j : Nat) {K : List Cell → List (Nat × Option Obj') → Prop}, InvS cx st sh a W Fr → st.objs nid = none →
    All2 (SVRep st W sh) xs vs → (∀ x ∈ xs, ∀ u, x = .sc u → u.oneCell' = true) → cellsK s st xs K →
    ∃ cs ws π, K cs ws ∧ Grafted cx st sh a W Fr nid ws π ∧ cs.length = xs.length ∧ (∀ (k : Nat) (c : Cell) (v : Value), cs[k]? = some c → vs[k]? = some v → OwnCell W (fun b => π (sh.lab b)) (.inn nid i (j + k)) c v) ∧ (∀ v ∈ vs, v.oneCell' = true) ∧
      ∀ s' xs, Cell.sl s' xs ∈ cs → s' = 0 ∨ s' = s
  | [], [], st, sh, j, K, h, hn, _, _, hK => ⟨[], [], _, hK, grafted_nil h nid, rfl, fun k c v hc => by simp at hc, by simp, by simp⟩
  | x :: r, v :: vs, st, sh, j, K, h, hn, ⟨h1, h2⟩, hsol, hK => by
    obtain ⟨c, ws, π, hK', g, hc, hv1, hst⟩ := h.cell hpins hn hs i j h1 (hsol x (by simp)) hK
    have h2' : All2 (SVRep ⟨st.slots, st.vars, upd st.objs ws, st.next⟩ W ⟨fun b => π (sh.lab b), sh.μ, sh.β⟩) r vs := all2_mono (fun s u m q => svRep_keeps g.keep (fun _ _ h => h) q) h2
    obtain ⟨cs, ws', π', hK2, g', hl, hcs, hv2, hst'⟩ := InvS.cells hpins hs i (j + 1) g.inv (g.none nid hn) h2' (fun y m => hsol y (by simp [m])) hK'
    refine ⟨c :: cs, ws' ++ ws, _, hK2, grafted_comp g g', by simp [hl], fun k c' v' hk hv' => ?_, ?_, ?_⟩
    · cases k with
      | zero =>
        simp at hk hv'; subst hk; subst hv'
        exact ownCell_relab g'.good (fun _ _ _ => g'.mine _ (.inr ⟨_, _, rfl⟩)) hc
      | succ k =>
        simp at hk hv'
        have := hcs k c' v' hk hv'
        rw [show j + (k + 1) = j + 1 + k by omega]
        exact this
    · intro u hu
      rcases List.mem_cons.mp hu with rfl | hu
      · exact hv1
      · exact hv2 u hu
    · intro s' xs' hm
      rcases List.mem_cons.mp hm with e | hm
      · exact hst s' xs' e.symm
      · exact hst' s' xs' hm
  | [], _ :: _, _, _, _, _, _, _, h, _, _ => h.elim
  | _ :: _, [], _, _, _, _, _, _, h, _, _ => h.elim
end graft
end Go.Proofs.Ytkcbnbbbijlhcai.A
