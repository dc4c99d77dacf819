/- THE ABSTRACT SEMANTICS IS SOUND, ninth part: values put into cells of slices of one's own. Conditions: none. -/
import Derived.Test.YtedciihjgbkjgacGreatDoorA12
import Derived.Test.YtedciihjgbkjgacGreatDoorA4
import Derived.Laws.MakeOwn
import Derived.Laws.Tables
import Derived.Laws.Append
import Derived.Laws.BytesString
import Derived.Laws.AppendOwn
namespace Go.Proofs.YtedciihjgbkjgacGreatDoor.A
open Go
set_option linter.unusedSimpArgs false
set_option linter.unusedVariables false

theorem upd_append {α : Type} (f : Nat → Option α) : ∀ (l1 l2 : List (Nat × Option α)), upd f (l1 ++ l2) = upd (upd f l2) l1
  | [], _ => rfl
  | (i, x) :: r, l2 => by simp only [List.cons_append, upd]; rw [upd_append f r l2]
theorem goodπ_id : goodπ id := ⟨rfl, rfl, fun _ => rfl, rfl⟩
theorem goodπ_comp {π π' : Lab → Lab} (h : goodπ π) (h' : goodπ π') : goodπ (fun L => π' (π L)) := ⟨by simp only [h.1, h'.1], by simp only [h.2.1, h'.2.1], fun id => by simp only [h.2.2.1, h'.2.2.1], by simp only [h.2.2.2, h'.2.2.2]⟩
open Classical in
noncomputable def swapL (L0 L1 : Lab) : Lab → Lab := fun L => if L = L0 then L1 else L
theorem swapL_at (L0 L1 : Lab) : swapL L0 L1 L0 = L1 := by simp [swapL]
theorem swapL_ne {L0 L1 L : Lab} (h : L ≠ L0) : swapL L0 L1 L = L := by simp [swapL, h]

/-- Labels of a slice that is being made. -/
def mine (nid : Nat) (L : Lab) : Prop := L = .own nid ∨ ∃ i j, L = .inn nid i j

section graft
variable {P : Program} {cx : Cx} {st : St} {sh : Sh} {a : Act} {W : World} {Fr : Nat → Prop}

theorem imSl_of_lift {lab : Nat → Lab} {xs : List Value} {v : Value} (h : ImRep W lab 1 (lift xs) v) : ImSl W lab xs v := by
  obtain ⟨A, cap, e, hl, _, hc⟩ := h
  rw [lift_length] at e hl
  refine ⟨A, cap, e, hl, fun hne => ?_⟩
  obtain ⟨_, b, o, e1, e2, e3⟩ := hc (by intro e; apply hne; simpa [lift] using e)
  refine ⟨b, o, e1, e2, fun k x hk => ?_⟩
  obtain ⟨u, g1, g2⟩ := e3 k [.sc x] (by simp [lift, hk]) 0 (.sc x) (by simp)
  have e : u = x := g2.1
  exact ⟨g2.2, by rw [← e]; simpa using g1⟩
theorem ownSl_of_rep {lab : Nat → Lab} {π : Lab → Lab} {id : Nat} {L1 : Lab} {xs : List Value} {v : Value} (hπ : π (.own id) = L1) (h : OwnRep W lab id 1 (lift xs) v) : OwnSl W (fun b => π (lab b)) L1 xs v := by
  obtain ⟨_, _, hc⟩ := h
  rcases hc with ⟨A, e, hn⟩ | ⟨b, cap, c, t, e1, e2, e3, e4, e5, e6⟩
  · exact .inl ⟨A, e, by simpa [lift] using hn⟩
  · rw [lift_length] at e1 e2
    refine .inr ⟨b, cap, c, t, e1, e2, by simp only [e3]; exact hπ, e4, by rw [e5, Nat.mul_one], fun k x hk => ?_⟩
    obtain ⟨u, g1, g2⟩ := e6 k 0 [.sc x] (.sc x) (by simp [lift, hk]) (by simp)
    have e : u = x := g2.1
    exact ⟨g2.2, by rw [← e]; simpa using g1⟩
theorem ownSl_empty {lab : Nat → Lab} {L : Lab} {A : Option Addr} : OwnSl W lab L [] (.slice A 0 0) := .inl ⟨A, rfl, rfl⟩
theorem view_all {h : Value} {w n : Nat} {v : Value} (hv : ViewIs h w 0 n v) {A : Option Addr} {cap : Nat} (e : h = .slice A n cap) (hA : cap = 0 ∨ ∀ a, A = some a → a.spot = none) : v = h ∨ (n = 0 ∧ ∃ A, v = .slice A 0 0) := by
  rcases hv with hv | hv
  · left
    subst e
    rw [hv]
    rcases hA with rfl | hA
    · simp [viewOf]
    · exact viewOf_full hA
  · exact .inr hv

theorem relab_keeps (st : St) (W : World) (sh : Sh) {π : Lab → Lab} (hπ : goodπ π) {objs' : Nat → Option Obj'} {n : Nat}
    (ho : ∀ id w rows', objs' id = some (w, rows') → ∃ rows, st.objs id = some (w, rows) ∧ Shrinks rows rows') : Keeps st W sh ⟨st.slots, st.vars, objs', n⟩ W ⟨fun b => π (sh.lab b), sh.μ, sh.β⟩ (fun _ => False) := by
  refine ⟨fun b hb => ⟨by simp only [hb]; exact hπ.1, rfl⟩, fun id _ hv => ⟨hv, rfl⟩, fun id w rows' _ hs => ?_⟩
  obtain ⟨rows, h1, h2⟩ := ho id w rows' hs
  exact ⟨rfl, rows, h1, h2.1.symm, fun i j s xs' _ _ hc => ⟨xs', shrinks_cell h2 hc, rfl, rfl⟩⟩

/-- What a step of grafting leaves. -/
structure Grafted (cx : Cx) (st : St) (sh : Sh) (a : Act) (W : World) (Fr : Nat → Prop) (nid : Nat) (ws : List (Nat × Option Obj')) (π : Lab → Lab) : Prop where
  good : goodπ π
  inv : InvS cx ⟨st.slots, st.vars, upd st.objs ws, st.next⟩ ⟨fun b => π (sh.lab b), sh.μ, sh.β⟩ a W Fr
  keep : Keeps st W sh ⟨st.slots, st.vars, upd st.objs ws, st.next⟩ W ⟨fun b => π (sh.lab b), sh.μ, sh.β⟩ (fun _ => False)
  mine : ∀ L, mine nid L → π L = L
  none : ∀ id, st.objs id = none → upd st.objs ws id = none
theorem grafted_nil (h : InvS cx st sh a W Fr) (nid : Nat) : Grafted cx st sh a W Fr nid [] (fun L => L) := by
  refine ⟨goodπ_id, h, Keeps.same rfl rfl, fun _ _ => rfl, fun _ h => h⟩
theorem grafted_comp {nid : Nat} {ws ws' : List (Nat × Option Obj')} {π π' : Lab → Lab} (g : Grafted cx st sh a W Fr nid ws π)
    (g' : Grafted cx ⟨st.slots, st.vars, upd st.objs ws, st.next⟩ ⟨fun b => π (sh.lab b), sh.μ, sh.β⟩ a W Fr nid ws' π') : Grafted cx st sh a W Fr nid (ws' ++ ws) (fun L => π' (π L)) := by
  have e : upd st.objs (ws' ++ ws) = upd (upd st.objs ws) ws' := upd_append _ _ _
  refine ⟨goodπ_comp g.good g'.good, by rw [e]; exact g'.inv, ?_, fun L hL => by rw [g.mine L hL, g'.mine L hL], fun id hn => by rw [e]; exact g'.none id (g.none id hn)⟩
  rw [e]
  have k1 := g.keep
  have k2 := g'.keep
  refine ⟨fun b hb => ?_, fun id hn hv => ?_, fun id w rows' hn hs => ?_⟩
  · obtain ⟨a1, a2⟩ := k1.imm b hb
    obtain ⟨b1, b2⟩ := k2.imm b (a1.trans hb)
    exact ⟨b1.trans a1, b2.trans a2⟩
  · obtain ⟨a1, a2⟩ := k2.vars id hn hv
    obtain ⟨b1, b2⟩ := k1.vars id hn a1
    exact ⟨b1, a2.trans b2⟩
  · obtain ⟨a1, rows1, a2, a3, a4⟩ := k2.objs id w rows' hn hs
    obtain ⟨b1, rows0, b2, b3, b4⟩ := k1.objs id w rows1 hn a2
    refine ⟨a1.trans b1, rows0, b2, b3.trans a3, fun i j s xs' hns h0 hc => ?_⟩
    obtain ⟨xs1, c1, c2, c3⟩ := a4 i j s xs' hns h0 hc
    obtain ⟨xs0, d1, d2, d3⟩ := b4 i j s xs1 hns h0 c1
    exact ⟨xs0, d1, d2.trans c2, c3.trans d3⟩

/-- A value put into a cell (i, j) of the slice nid that is being made (s: the stamp). -/
theorem InvS.cell (h : InvS cx st sh a W Fr) (hpins : ∀ q ∈ cx.pins, q.1 < 1000) {nid s : Nat} (hnid : st.objs nid = none) (hs : 0 < s) (i j : Nat) {x : SV} {v : Value} (hv : SVRep st W sh x v) (hsol : ∀ u, x = .sc u → u.oneCell' = true) {K : Cell → List (Nat × Option Obj') → Prop} (hK : cellK st s x K) :
    ∃ c ws π, K c ws ∧ Grafted cx st sh a W Fr nid ws π ∧ OwnCell W (fun b => π (sh.lab b)) (.inn nid i j) c v ∧ v.oneCell' = true ∧ ∀ s' xs, c = .sl s' xs → s' = 0 ∨ s' = s := by
  obtain ⟨s, rfl⟩ : ∃ s', s = s' + 1 := ⟨s - 1, by omega⟩
  cases x with
  | sc u =>
    have e : v = u := hv
    subst e
    simp only [cellK] at hK
    split at hK
    · rename_i hn
      have := isNil_eq hn
      subst this
      exact ⟨_, _, _, hK, grafted_nil h nid, ownSl_empty, rfl, fun s' xs e => by cases e; exact .inr rfl⟩
    · exact ⟨_, _, _, hK, grafted_nil h nid, ⟨rfl, hsol v rfl⟩, hsol v rfl, fun s' xs e => by cases e⟩
  | im w rows =>
    obtain ⟨xs, rfl, rfl, hK⟩ := hK
    refine ⟨_, _, _, hK, grafted_nil h nid, imSl_of_lift hv, ?_, fun s' xs e => by cases e; exact .inl rfl⟩
    obtain ⟨A, cap, e, _⟩ := hv
    rw [e]; rfl
  | ref id w off len =>
    simp only [cellK] at hK
    rcases hob : st.objs id with _ | ⟨w', rows⟩
    · rw [hob] at hK; exact hK.elim
    · rw [hob] at hK
      obtain ⟨xs, rfl, rfl, hlen, rfl, hK⟩ := hK
      obtain ⟨rfl, _, hvi⟩ := hv w' _ hob
      have hrep := h.objs id _ _ hob
      obtain ⟨A, cap, e, _, hA⟩ := own_shape h hob
      subst hlen
      have hne : id ≠ nid := by rintro rfl; rw [hnid] at hob; cases hob
      have hπ : goodπ (swapL (.own id) (.inn nid i j)) := ⟨swapL_ne (by simp), swapL_ne (by simp), fun _ => swapL_ne (by simp), swapL_ne (by simp)⟩
      have hobj : ∀ id' w rows', upd st.objs [(id, none)] id' = some (w, rows') → ∃ rows, st.objs id' = some (w, rows) ∧ Shrinks rows rows' ∧ swapL (.own id) (.inn nid i j) (.own id') = .own id' ∧ ∀ i' j' s xs, Rows.cell rows' i' j' = .sl (s + 1) xs → swapL (.own id) (.inn nid i j) (.inn id' i' j') = .inn id' i' j' := by
        intro id' w2 rows' ho'
        simp only [upd] at ho'
        split at ho'
        · cases ho'
        · rename_i hne'
          exact ⟨rows', ho', shrinks_refl _, swapL_ne (by simpa using hne'), fun i' j' s xs _ => swapL_ne (by simp)⟩
      refine ⟨_, _, swapL (.own id) (.inn nid i j), hK, ⟨hπ, h.relab hpins hπ hobj, relab_keeps st W sh hπ (fun id' w2 rows' ho' => ?_), ?_, fun id' hn => ?_⟩, ?_, ?_, fun s' xs e => by cases e; exact .inr rfl⟩
      · obtain ⟨rows, k1, k2, _⟩ := hobj id' w2 rows' ho'
        exact ⟨rows, k1, k2⟩
      · rintro L (rfl | ⟨i', j', rfl⟩)
        · exact swapL_ne (by simpa using hne.symm)
        · exact swapL_ne (by simp)
      · simp only [upd]; split
        · rfl
        · exact hn
      · rcases view_all hvi e hA with hv' | ⟨hz, A', hv'⟩
        · rw [hv']; exact ownSl_of_rep (swapL_at _ _) hrep
        · have : xs = [] := by rw [lift_length] at hz; exact List.length_eq_zero_iff.mp hz
          subst this
          rw [hv']; exact ownSl_empty
      · rcases view_all hvi e hA with hv' | ⟨hz, A', hv'⟩
        · rw [hv', e]; rfl
        · rw [hv']; rfl
  | rin id i0 j0 s0 off len =>
    simp only [cellK] at hK
    rcases hob : st.objs id with _ | ⟨w', rows⟩
    · rw [hob] at hK; exact hK.elim
    · rw [hob] at hK
      simp only at hK
      rcases hc : Rows.cell rows i0 j0 with _ | ⟨s1, xs⟩ | _
      · rw [hc] at hK; exact hK.elim
      · rw [hc] at hK
        obtain ⟨rfl, rfl, rfl, hK⟩ := hK
        obtain ⟨g0, _, hd, g2, hvi⟩ := hv.2 w' rows xs hob hc
        obtain ⟨v', k1, k2⟩ := h.own_head hob hc g0
        rw [g2] at k1; cases k1
        obtain ⟨A, cap, e, _, hA⟩ := ownSl_shape k2
        have hne : id ≠ nid := by rintro rfl; rw [hnid] at hob; cases hob
        have hπ : goodπ (swapL (.inn id i0 j0) (.inn nid i j)) := ⟨swapL_ne (by simp), swapL_ne (by simp), fun _ => swapL_ne (by simp), swapL_ne (by simp)⟩
        have hobj : ∀ id' w rows', upd st.objs [(id, some (w', Rows.setCell rows i0 j0 .gone))] id' = some (w, rows') → ∃ rows, st.objs id' = some (w, rows) ∧ Shrinks rows rows' ∧ swapL (.inn id i0 j0) (.inn nid i j) (.own id') = .own id' ∧
            ∀ i' j' s xs, Rows.cell rows' i' j' = .sl (s + 1) xs → swapL (.inn id i0 j0) (.inn nid i j) (.inn id' i' j') = .inn id' i' j' := by
          intro id' w2 rows' ho'
          simp only [upd] at ho'
          split at ho'
          · rename_i e'
            subst e'
            simp only [Option.some.injEq, Prod.mk.injEq] at ho'
            obtain ⟨rfl, rfl⟩ := ho'
            refine ⟨rows, hob, shrinks_gone rows i0 j0, swapL_ne (by simp), fun i' j' s xs' hc' => swapL_ne ?_⟩
            intro e'
            simp only [Lab.inn.injEq, true_and] at e'
            obtain ⟨rfl, rfl⟩ := e'
            obtain ⟨r, m1, m2⟩ := cell_get hc' (by simp)
            obtain ⟨q1, q2⟩ := cell_ne hc
            simp only [Rows.setCell] at m1
            rw [List.getElem?_set_self (by omega)] at m1
            simp only [Option.some.injEq] at m1
            subst m1
            rw [List.getElem?_set_self (by omega)] at m2
            cases m2
          · rename_i hne'
            exact ⟨rows', ho', shrinks_refl _, swapL_ne (by simp), fun i' j' s xs _ => swapL_ne (by simp [hne'])⟩
        refine ⟨_, _, swapL (.inn id i0 j0) (.inn nid i j), hK, ⟨hπ, h.relab hpins hπ hobj, relab_keeps st W sh hπ (fun id' w2 rows' ho' => ?_), ?_, fun id' hn => ?_⟩, ?_, ?_, fun s' xs e => by cases e; exact .inr rfl⟩
        · obtain ⟨rows, k1, k2, _⟩ := hobj id' w2 rows' ho'
          exact ⟨rows, k1, k2⟩
        · rintro L (rfl | ⟨i', j', rfl⟩)
          · exact swapL_ne (by simp)
          · exact swapL_ne (by simp [hne.symm])
        · simp only [upd]; split
          · rename_i e'; subst e'; rw [hob] at hn; cases hn
          · exact hn
        · rcases view_all hvi e hA with hv' | ⟨hz, A', hv'⟩
          · rw [hv']
            have := k2
            rcases this with ⟨A2, m1, m2⟩ | ⟨b, cap2, c2, t2, m1, m2, m3, m4⟩
            · exact .inl ⟨A2, m1, m2⟩
            · exact .inr ⟨b, cap2, c2, t2, m1, m2, by simp only [m3]; exact swapL_at _ _, m4⟩
          · have : xs = [] := List.length_eq_zero_iff.mp hz
            subst this
            rw [hv']; exact ownSl_empty
        · rcases view_all hvi e hA with hv' | ⟨hz, A', hv'⟩
          · rw [hv', e]; rfl
          · rw [hv']; rfl
      · rw [hc] at hK; exact hK.elim
  | _ => exact hK.elim

/-- Several values, from left to right. -/
theorem InvS.cells (hpins : ∀ q ∈ cx.pins, q.1 < 1000) {nid s : Nat} (hs : 0 < s) (i : Nat) : ∀ {xs : List SV} {vs : List Value} {st : St} {sh : Sh} (j : Nat) {K : List Cell → List (Nat × Option Obj') → Prop}, InvS cx st sh a W Fr → st.objs nid = none →
    All2 (SVRep st W sh) xs vs → (∀ x ∈ xs, ∀ u, x = .sc u → u.oneCell' = true) → cellsK s st xs K →
    ∃ cs ws π, K cs ws ∧ Grafted cx st sh a W Fr nid ws π ∧ cs.length = xs.length ∧ (∀ (k : Nat) (c : Cell) (v : Value), cs[k]? = some c → vs[k]? = some v → OwnCell W (fun b => π (sh.lab b)) (.inn nid i (j + k)) c v) ∧ (∀ v ∈ vs, v.oneCell' = true) ∧
      ∀ s' xs, Cell.sl s' xs ∈ cs → s' = 0 ∨ s' = s
  | [], [], st, sh, j, K, h, hn, _, _, hK => ⟨[], [], _, hK, grafted_nil h nid, rfl, fun k c v hc => by simp at hc, by simp, by simp⟩
  | x :: r, v :: vs, st, sh, j, K, h, hn, ⟨h1, h2⟩, hsol, hK => by
    obtain ⟨c, ws, π, hK', g, hc, hv1, hst⟩ := h.cell hpins hn hs i j h1 (hsol x (by simp)) hK
    have h2' : All2 (SVRep ⟨st.slots, st.vars, upd st.objs ws, st.next⟩ W ⟨fun b => π (sh.lab b), sh.μ, sh.β⟩) r vs := all2_mono (fun s u m q => svRep_keeps g.keep (fun _ _ h => h) q) h2
    obtain ⟨cs, ws', π', hK2, g', hl, hcs, hv2, hst'⟩ := InvS.cells hpins hs i (j + 1) g.inv (g.none nid hn) h2' (fun y m => hsol y (by simp [m])) hK'
    refine ⟨c :: cs, ws' ++ ws, _, hK2, grafted_comp g g', by simp [hl], fun k c' v' hk hv' => ?_, ?_, ?_⟩
    · cases k with
      | zero =>
        simp at hk hv'; subst hk; subst hv'
        exact ownCell_relab g'.good (fun _ _ _ => g'.mine _ (.inr ⟨_, _, rfl⟩)) hc
      | succ k =>
        simp at hk hv'
        have := hcs k c' v' hk hv'
        rw [show j + (k + 1) = j + 1 + k by omega]
        exact this
    · intro u hu
      rcases List.mem_cons.mp hu with rfl | hu
      · exact hv1
      · exact hv2 u hu
    · intro s' xs' hm
      rcases List.mem_cons.mp hm with e | hm
      · exact hst s' xs' e.symm
      · exact hst' s' xs' hm
  | [], _ :: _, _, _, _, _, _, _, h, _, _ => h.elim
  | _ :: _, [], _, _, _, _, _, _, h, _, _ => h.elim
end graft
end Go.Proofs.YtedciihjgbkjgacGreatDoor.A

/-! THE ABSTRACT SEMANTICS IS SOUND, tenth part: slices of one's own are made. Conditions: none. -/
namespace Go.Proofs.YtedciihjgbkjgacGreatDoor.A
open Go
set_option linter.unusedSimpArgs false
set_option linter.unusedVariables false

theorem setRange_length {α : Type} {l xs : List α} {j : Nat} (h : j + xs.length ≤ l.length) : (setRange l j xs).length = l.length := by
  simp [setRange]; omega
theorem setRange_get {α : Type} {l xs : List α} {j : Nat} (h : j + xs.length ≤ l.length) (k : Nat) : (setRange l j xs)[k]? = if k < j then l[k]? else if k < j + xs.length then xs[k - j]? else l[k]? := by
  have hl : (l.take j).length = j := by simp; omega
  unfold setRange
  by_cases h1 : k < j
  · rw [if_pos h1, List.append_assoc, List.getElem?_append_left (by omega), List.getElem?_take, if_pos h1]
  · rw [if_neg h1, List.append_assoc, List.getElem?_append_right (by omega), hl]
    by_cases h2 : k < j + xs.length
    · rw [if_pos h2, List.getElem?_append_left (by omega)]
    · rw [if_neg h2, List.getElem?_append_right (by omega), List.getElem?_drop]
      congr 1; omega
theorem foldl_put (off : Nat) : ∀ (vs : List Value) (k : Nat) (cs : Array Value), off + k + vs.length ≤ cs.size →
    ((vs.zipIdx k).foldl (fun cs (p : Value × Nat) => cs.setIfInBounds (off + p.2) p.1) cs).toList = setRange cs.toList (off + k) vs
  | [], k, cs, _ => by simp [setRange]
  | v :: vs, k, cs, h => by
    simp only [List.length_cons] at h
    have ih := foldl_put off vs (k + 1) (cs.setIfInBounds (off + k) v) (by rw [Array.size_setIfInBounds]; omega)
    simp only [List.zipIdx_cons, List.foldl_cons]
    rw [ih]
    have hcs : cs.toList.length = cs.size := Array.length_toList
    apply List.ext_getElem?
    intro q
    rw [setRange_get (by simp; omega), setRange_get (by simp; omega)]
    simp only [Array.toList_setIfInBounds, List.getElem?_set, List.length_cons]
    by_cases h1 : q < off + k
    · rw [if_pos (by omega), if_neg (by omega), if_pos h1]
    · by_cases h2 : q = off + k
      · subst h2
        rw [if_pos (by omega), if_pos rfl, if_pos (by omega), if_neg h1, if_pos (by omega)]
        simp
      · rw [if_neg (by omega), if_neg h1]
        by_cases h3 : q < off + k + (vs.length + 1)
        · rw [if_pos (by omega), if_pos h3]
          rw [show q - (off + k) = (q - (off + (k + 1))) + 1 by omega, List.getElem?_cons_succ]
        · rw [if_neg (by omega), if_neg (by omega), if_neg h3]
theorem fill_cons {place : Nat → Option (Nat × Nat)} {cells : Array Value} {i : Nat} {v : Value} {rest : List (Nat × Value)} {off n : Nat} (hp : place i = some (off, n)) (h1 : v.cells.size = n) (h2 : off + n ≤ cells.size) :
    ∃ cells' : Array Value, cells'.toList = setRange cells.toList off v.cells.toList ∧ Instr.fill place cells ((i, v) :: rest) = Instr.fill place cells' rest := by
  refine ⟨v.cells.zipIdx.foldl (fun cs (c, j) => cs.setIfInBounds (off + j) c) cells, ?_, ?_⟩
  · have := foldl_put off v.cells.toList 0 cells (by rw [Array.length_toList]; omega)
    rw [Nat.add_zero] at this
    rw [← this, ← Array.foldl_toList, Array.toList_zipIdx]
  · conv => lhs; unfold Instr.fill
    have h3 : ¬ off + v.cells.size > cells.size := by omega
    simp [hp, h1, h3]
    omega

section make
variable {P : Program} {cx : Cx} {st : St} {sh : Sh} {a : Act} {W : World} {Fr : Nat → Prop} {nid : Nat} {o : Oper} {K : Eff → Prop} {Q : Exit → Act → World → Prop}

/-- The cells of a slice that is being made. -/
def RowsRep (W : World) (lab : Nat → Lab) (nid w : Nat) (rows : Rows) (cells : List Value) : Prop :=
  (∀ r ∈ rows, r.length = w) ∧ ∀ (i j : Nat) (r : List Cell) (x : Cell), rows[i]? = some r → r[j]? = some x → ∃ v, cells[i * w + j]? = some v ∧ OwnCell W lab (.inn nid i j) x v

theorem ownCell_agree' {W W' : World} {lab lab' : Nat → Lab} {S : Lab → Prop} (h : Agree W lab W' lab' S) (hS : S .imm) {L : Lab} (hL : S L) {c : Cell} {v : Value} : OwnCell W lab L c v → OwnCell W' lab' L c v := ownCell_agree h hS hL
theorem rowsRep_relab {lab : Nat → Lab} {π : Lab → Lab} (hπ : goodπ π) (hm : ∀ L, mine nid L → π L = L) {w : Nat} {rows : Rows} {cells : List Value} (h : RowsRep W lab nid w rows cells) : RowsRep W (fun b => π (lab b)) nid w rows cells := by
  refine ⟨h.1, fun i j r x hi hj => ?_⟩
  obtain ⟨v, h1, h2⟩ := h.2 i j r x hi hj
  exact ⟨v, h1, ownCell_relab hπ (fun _ _ _ => hm _ (.inr ⟨_, _, rfl⟩)) h2⟩

/-- A new block for a slice of one's own. -/
theorem good_newObj (h : InvS cx st sh a W Fr) (hd : ∀ d', o.dst = some d' → d' < cx.n) (hnid : ∀ k, k < 64 → Fr (nid + k)) (hpins : ∀ q ∈ cx.pins, q.1 < 1000) {ws : List (Nat × Option Obj')} {π : Lab → Lab} (g : Grafted cx st sh a W Fr nid ws π)
    {w n cap : Nat} {rows : Rows} {c : Array Value} {t : TypeId} {W1 : World} (hw1 : W1.heap = W.heap ∧ W1.os = W.os ∧ W1.tape = W.tape ∧ W1.output = W.output) (hr : (execOp a.eval o).run P W = .ok (.value (.slice (some ⟨W.heap.size, 0, none⟩) n cap)) (W1.alloc (.cells c t)))
    (hw : 0 < w) (hn : rows.length = n) (hcap : n ≤ cap) (hsz : c.size = cap * w) (hrep : RowsRep W (fun b => π (sh.lab b)) nid w rows c.toList) (hst : ∀ r ∈ rows, ∀ s xs, Cell.sl s xs ∈ r → ¬ (Fr s ∧ ¬ (nid ≤ s ∧ s < nid + 64)))
    (hK : K ⟨.one (.ref nid w 0 n), (nid, some (w, rows)) :: ws, []⟩) : Good P cx st Fr nid o a W K Q := by
  unfold Good Oper.wp
  rw [hr]
  have hF0 : Fr nid := by simpa using hnid 0 (by omega)
  have h1 := g.inv
  have h2 := h1.sameHeap hpins hw1.1 hw1.2.1 hw1.2.2.1 hw1.2.2.2
  have h3 := h2.alloc hpins (.cells c t) (.own nid)
  have hsize : W1.heap.size = W.heap.size := by rw [hw1.1]
  have ag := h2.agree_alloc (.cells c t) (.own nid)
  have hrep' : OwnRep (W1.alloc (.cells c t)) ((⟨fun b => π (sh.lab b), sh.μ, sh.β⟩ : Sh).add W1.heap.size (.own nid)) nid w rows (.slice (some ⟨W.heap.size, 0, none⟩) n cap) := by
    refine ⟨hw, hrep.1, .inr ⟨W.heap.size, cap, c, t, by rw [hn], by rw [hn]; exact hcap, by simp [Sh.add, hsize], by rw [alloc_get, if_pos hsize.symm], hsz, fun i j r x hi hj => ?_⟩⟩
    obtain ⟨v, k1, k2⟩ := hrep.2 i j r x hi hj
    refine ⟨v, by simpa using k1, ownCell_agree ag (by simp) (by simp) ?_⟩
    exact ownCell_agree (S := fun _ => True) (fun b _ => ⟨rfl, by rw [hw1.1]⟩) trivial trivial k2
  have h4 := h3.addObj hpins hF0 hrep' (Fr' := fun id => Fr id ∧ ¬ (nid ≤ id ∧ id < nid + 64)) (fun id hf => ⟨hf.1, by rintro rfl; exact hf.2 ⟨by omega, by omega⟩⟩)
    (fun i j s xs hc => by
      obtain ⟨r, m1, m2⟩ := cell_get hc (by simp)
      exact hst r (List.mem_of_getElem? m1) s xs (List.mem_of_getElem? m2))
  have e : upd (upd st.objs ws) [(nid, some (w, rows))] = upd st.objs ((nid, some (w, rows)) :: ws) := rfl
  refine ⟨⟨.one (.ref nid w 0 n), (nid, some (w, rows)) :: ws, []⟩, _, hK, InvS.put h4 hd (av := .one (.ref nid w 0 n)) (v := .slice (some ⟨W.heap.size, 0, none⟩) n cap) ?_ ?_⟩
  · intro w' rows' ho
    simp only [upd, if_true, Option.some.injEq, Prod.mk.injEq] at ho
    obtain ⟨rfl, rfl⟩ := ho
    refine ⟨rfl, by omega, .inl ?_⟩
    simp only [if_true]
    rw [viewOf_full]
    intro ad ha; cases ha; rfl
  · intro id hf hm
    rw [one_ids] at hm
    simp only [SV.ids, List.mem_singleton] at hm
    subst hm
    exact hf.2 ⟨by omega, by omega⟩

theorem madeCells_get (z : Array Value) {n w i j m : Nat} (hz : z.size = w) (hj : j < w) (hi : i < m) (hn : n = m * w) : (madeCells z n)[i * w + j]? = some (z.toList.getD j default) := by
  have hlt : i * w + j < n := by
    subst hn
    calc i * w + j < i * w + w := by omega
      _ = (i + 1) * w := by rw [Nat.add_mul]; omega
      _ ≤ m * w := Nat.mul_le_mul_right w hi
  have hmod : (i * w + j) % w = j := by rw [Nat.mul_comm, Nat.mul_add_mod, Nat.mod_eq_of_lt hj]
  simp only [madeCells, Array.getElem?_map, Array.getElem?_range, hlt, if_true, Option.map_some, hz, hmod]
  congr 1
  have hj' : j < z.size := by omega
  rw [getElem!_pos z j hj', List.getD_eq_getElem?_getD, List.getElem?_eq_getElem (by simpa using hj')]
  simp
theorem zero_rows {lab : Nat → Lab} {z : Array Value} {n w m : Nat} (hone : ∀ v ∈ z.toList, v.oneCell' = true) (hn0 : 0 < nid) (hz : z.size = w) (hm : n ≤ m) : RowsRep W lab nid w (List.replicate n (z.toList.map (zeroCell nid))) (madeCells z (m * w)).toList := by
  refine ⟨fun r hr => by rw [List.eq_of_mem_replicate hr]; simpa using hz, fun i j r x hi hj => ?_⟩
  rw [List.getElem?_replicate] at hi
  split at hi
  · rename_i hlt
    simp only [Option.some.injEq] at hi
    subst hi
    simp only [List.getElem?_map, Option.map_eq_some_iff] at hj
    obtain ⟨v, hv, rfl⟩ := hj
    have hjl : j < z.toList.length := (List.getElem?_eq_some_iff.mp hv).1
    refine ⟨v, ?_, ?_⟩
    · rw [Array.getElem?_toList, madeCells_get z hz (by simpa [← hz] using hjl) (show i < m by omega) rfl, List.getD_eq_getElem?_getD, hv]; rfl
    · unfold zeroCell
      split
      · rename_i hnil
        rw [isNil_eq hnil]
        obtain ⟨q, rfl⟩ : ∃ q, nid = q + 1 := ⟨nid - 1, by omega⟩
        exact ownSl_empty
      · exact ⟨rfl, hone v (List.mem_of_getElem? hv)⟩
  · cases hi
theorem zero_stamps {z : List Value} {n : Nat} {r : List Cell} (hr : r ∈ List.replicate n (z.map (zeroCell nid))) {s : Nat} {xs : List Value} (hs : Cell.sl s xs ∈ r) : s = nid := by
  rw [List.eq_of_mem_replicate hr] at hs
  obtain ⟨v, _, e⟩ := List.mem_map.mp hs
  unfold zeroCell at e
  split at e
  · cases e; rfl
  · cases e

theorem good_makeSlice (h : InvS cx st sh a W Fr) (hd : ∀ d', o.dst = some d' → d' < cx.n) (hnid : ∀ k, k < 64 → Fr (nid + k)) (hpins : ∀ q ∈ cx.pins, q.1 < 1000) {t : TypeId} {l c : Operand} (ho : o.op = .makeSlice t l c) {w bytes : Nat} {z : List Value} (ht : elemOf' P t = some (w, bytes, z))
    (hK : asNat (st.ev l) fun n => asNat (st.ev c) fun m => n ≤ m ∧ m * bytes ≤ 140737488355328 ∧ K ⟨.one (.ref nid w 0 n), [(nid, some (w, List.replicate n (z.map (zeroCell nid))))], []⟩) : Good P cx st Fr nid o a W K Q := by
  obtain ⟨el, info, hu, hin, hsz, hby, hz, hzl, hw0, hb0, hb1⟩ := elemOf_some ht
  obtain ⟨il, nl, el1, l0, hK⟩ := asNat_eq hK
  obtain ⟨ic, nc, ec1, c0, hle, hbound, hK1⟩ := asNat_eq hK
  have ev := h.ev l
  rw [el1] at ev
  have ev : a.eval l = .int il nl := ev
  have ev' := h.ev c
  rw [ec1] at ev'
  have ev' : a.eval c = .int ic nc := ev'
  unfold zeroOf at hz
  rw [hin] at hz
  simp only [Option.map_eq_some_iff] at hz
  obtain ⟨zv, hzv, rfl⟩ := hz
  have hzs : zv.cells.size = w := by simpa using hzl
  have hF0 : Fr nid := by simpa using hnid 0 (by omega)
  have hlo := h.low nid hF0
  subst hby
  have hmul : nc.toNat * 1 ≤ nc.toNat * info.bytes := Nat.mul_le_mul_left _ hb0
  have hr := run_make (P := P) W t el info zv hu hin hzv il ic nl nc l0 (by omega) (by
    have : ((nc.toNat * info.bytes : Nat) : Int) ≤ 140737488355328 := by omega
    rw [Int.natCast_mul, Int.toNat_of_nonneg c0, Int.mul_comm] at this
    omega) (by omega)
  rw [hsz] at hr
  refine good_newObj h hd hnid hpins (grafted_nil h nid) (W1 := W) ⟨rfl, rfl, rfl, rfl⟩ (c := madeCells zv.cells (nc.toNat * w)) (t := el) (n := nl.toNat) (cap := nc.toNat) ?_ hw0 (by simp) hle (by simp [size_madeCells]) (zero_rows (elemOf_zero ht) (by omega) hzs hle) ?_ hK1
  · simp [execOp, ho, Sem.run_bind, ev, ev', hr, Result.andThen, Sem.run_pure]
  · intro r hm s xs hs
    have := zero_stamps hm hs
    subst this
    rintro ⟨_, hq⟩
    exact hq ⟨by omega, by omega⟩
end make
end Go.Proofs.YtedciihjgbkjgacGreatDoor.A

/-! THE ABSTRACT SEMANTICS IS SOUND, eleventh part: structs, arrays and slices that are built; bytes as a string. Conditions: none. -/
namespace Go.Proofs.YtedciihjgbkjgacGreatDoor.A
open Go
set_option linter.unusedSimpArgs false
set_option linter.unusedVariables false

section build
variable {P : Program} {cx : Cx} {st : St} {sh : Sh} {a : Act} {W : World} {Fr : Nat → Prop} {nid : Nat} {o : Oper} {K : Eff → Prop} {Q : Exit → Act → World → Prop}

theorem all2_setRange {α β : Type} {R : α → β → Prop} {xs ys : List α} {vs us : List β} {j : Nat} (h : All2 R xs vs) (h' : All2 R ys us) : All2 R (setRange xs j ys) (setRange vs j us) := by
  simp only [setRange, all2_length h']
  exact all2_append (all2_append (all2_take j h) h') (all2_drop _ h)
theorem mem_setRange {α : Type} {xs ys : List α} {j : Nat} {x : α} (h : x ∈ setRange xs j ys) : x ∈ xs ∨ x ∈ ys := by
  simp only [setRange, List.mem_append] at h
  rcases h with (h | h) | h
  · exact .inl (List.mem_of_mem_take h)
  · exact .inr h
  · exact .inl (List.mem_of_mem_drop h)
theorem InvS.okay_cells (h : InvS cx st sh a W Fr) {p : Pk} {v : Value} (hv : PkRep st W sh p v) (hs : p.okay st) : All2 (SVRep st W sh) p.svs v.cells.toList :=
  h.pk_cells hv (by rintro s rfl; exact hs)

theorem fill_rep (h : InvS cx st sh a W Fr) {place : Nat → Option (Nat × Nat)} {places : List (Nat × Nat)} (hp : ∀ i q, nth places i = some q → place i = some q) :
    ∀ (parts : List (Nat × Operand)) {cs : List SV} {cells : Array Value} {K : List SV → Prop}, All2 (SVRep st W sh) cs cells.toList → (∀ id, Fr id → ∀ s ∈ cs, id ∉ s.ids) → fillK st places cs parts K →
      ∃ cs' cells', K cs' ∧ Instr.fill place cells (parts.map fun (i, x) => (i, a.eval x)) = some cells' ∧ All2 (SVRep st W sh) cs' cells'.toList ∧ ∀ id, Fr id → ∀ s ∈ cs', id ∉ s.ids
  | [], cs, cells, K, hc, hi, hK => ⟨cs, cells, hK, rfl, hc, hi⟩
  | (i, x) :: r, cs, cells, K, hc, hi, hK => by
    unfold fillK at hK
    split at hK
    · rename_i off n p hn hx
      obtain ⟨hok, hl, hle, hK⟩ := hK
      have ex := h.ev x
      rw [hx] at ex
      have ec := h.okay_cells ex hok
      have hsz : (a.eval x).cells.size = n := by rw [← hl, all2_length ec]; simp
      have hcl := all2_length hc
      have h2 : off + n ≤ cells.size := by rw [hcl] at hle; simpa using hle
      obtain ⟨cells', e1, e2⟩ := fill_cons (rest := r.map fun (i, x) => (i, a.eval x)) (hp i _ hn) hsz h2
      have hc' : All2 (SVRep st W sh) (setRange cs off p.svs) cells'.toList := by rw [e1]; exact all2_setRange hc ec
      obtain ⟨cs', cells2, k1, k2, k3, k4⟩ := fill_rep h hp r hc' (fun id hf s hs hm => by
        rcases mem_setRange hs with hs | hs
        · exact hi id hf s hs hm
        · have := h.ev_ids x hf
          rw [hx] at this
          exact this (by simp only [AV.ids, AV.svs, List.mem_flatMap]; exact ⟨s, hs, hm⟩)) hK
      exact ⟨cs', cells2, k1, by simp only [List.map_cons]; rw [e2]; exact k2, k3, k4⟩
    · exact hK.elim

theorem good_build (h : InvS cx st sh a W Fr) (hd : ∀ d', o.dst = some d' → d' < cx.n) {t : TypeId} {parts : Array (Nat × Operand)} (ho : o.op = .build t parts) {places : List (Nat × Nat)} (hp : placesOf P t = some places) {z : List Value} (hz : zeroOf P t = some z)
    (hK : fillK st places (z.map .sc) parts.toList fun cs => K ⟨.agg cs, [], []⟩) : Good P cx st Fr nid o a W K Q := by
  unfold zeroOf at hz
  split at hz
  · rename_i it hit
    simp only [Option.map_eq_some_iff] at hz
    obtain ⟨zv, hzv, rfl⟩ := hz
    have h0 : All2 (SVRep st W sh) (zv.cells.toList.map .sc) zv.cells.toList := by
      refine all2_of_get (by simp) fun k s u hk hu => ?_
      simp only [List.getElem?_map, Option.map_eq_some_iff] at hk
      obtain ⟨x, hx, rfl⟩ := hk
      rw [hx] at hu; cases hu
      rfl
    have h1 : ∀ id, Fr id → ∀ s ∈ (zv.cells.toList.map SV.sc), id ∉ s.ids := by
      intro id _ s hs
      obtain ⟨x, _, rfl⟩ := List.mem_map.mp hs
      simp [SV.ids]
    have key : ∃ cs' cells', K ⟨.agg cs', [], []⟩ ∧ P.built t (parts.map fun (i, x) => (i, a.eval x)).toList = some cells' ∧ All2 (SVRep st W sh) cs' cells'.toList ∧ ∀ id, Fr id → ∀ s ∈ cs', id ∉ s.ids := by
      unfold placesOf at hp
      split at hp
      · rename_i fields hu
        obtain ⟨cs', cells', k1, k2, k3, k4⟩ := fill_rep h (place := (places.toArray[·]?)) (places := places) (fun i q hq => by rw [nth_eq] at hq; simpa using hq) parts.toList h0 h1 hK
        refine ⟨cs', cells', k1, ?_, k3, k4⟩
        simp only [Program.built, hit, hu, hzv, hp, Array.toList_map]
        exact k2
      · rename_i n e hu
        simp only [Option.map_eq_some_iff] at hp
        obtain ⟨ie, hie, rfl⟩ := hp
        obtain ⟨cs', cells', k1, k2, k3, k4⟩ := fill_rep h (place := fun i => some (i * ie.size, ie.size)) (fun i q hq => by
          rw [nth_eq, List.getElem?_map, Option.map_eq_some_iff] at hq
          obtain ⟨k, hk, rfl⟩ := hq
          obtain ⟨hlt, e⟩ := List.getElem?_eq_some_iff.mp hk
          rw [List.getElem_range] at e
          subst e
          rfl) parts.toList h0 h1 hK
        refine ⟨cs', cells', k1, ?_, k3, k4⟩
        simp only [Program.built, hit, hu, hzv, hie, Array.toList_map]
        exact k2
      · cases hp
    obtain ⟨cs', cells', k1, k2, k3, k4⟩ := key
    refine good_v h hd (s := Instr.build t (parts.map fun (i, x) => (i, a.eval x))) (by simp [execOp, ho]) (v := .agg cells') (run_build W t _ cells' k2) (av := .agg cs') ⟨cells', rfl, k3⟩ (fun id hf hm => ?_) k1
    obtain ⟨s', m1, m2⟩ := agg_ids hm
    exact k4 id hf s' m1 m2
  · cases hz

/-- A slice, as it lies. -/
theorem InvS.rows_read (h : InvS cx st sh a W Fr) {s : SV} {v : Value} (hv : SVRep st W sh s v) {w : Nat} {rows : Rows} (hr : st.rows s = some (w, rows)) :
    ∃ A cap, v = .slice A rows.length cap ∧ rows.length ≤ cap ∧ (∀ r ∈ rows, r.length = w) ∧ (rows ≠ [] → ∃ b o, A = some ⟨b, o, none⟩ ∧ sh.lab b ≠ .dead ∧
      ∀ (i j : Nat) (r : List Cell) (c : Cell), rows[i]? = some r → r[j]? = some c → ∃ u, W.cell? ⟨b, o + i * w + j, none⟩ = some u ∧ (c.flat → ∀ L, OwnCell W sh.lab L c u)) := by
  unfold St.rows at hr
  split at hr
  · simp only [Option.some.injEq, Prod.mk.injEq] at hr
    obtain ⟨rfl, rfl⟩ := hr
    obtain ⟨A, cap, e, hl, hrl, hc⟩ := hv
    refine ⟨A, cap, e, hl, hrl, fun hne => ?_⟩
    obtain ⟨_, b, off, e1, e2, e3⟩ := hc hne
    refine ⟨b, off, e1, by rw [e2]; simp, fun i j r c hi hj => ?_⟩
    obtain ⟨u, g1, g2⟩ := e3 i r hi j c hj
    refine ⟨u, g1, fun hf L => ?_⟩
    cases c with
    | sc x => exact g2
    | gone => exact g2
    | sl q xs => have : q = 0 := hf
                 subst this; exact g2
  · rename_i id w' off len
    split at hr
    · rename_i w2 rows2 hob
      simp only [Option.some.injEq, Prod.mk.injEq] at hr
      obtain ⟨rfl, rfl⟩ := hr
      obtain ⟨rfl, g2, g3⟩ := hv w2 rows2 hob
      have hlen : ((rows2.drop off).take len).length = len := by simp; omega
      obtain ⟨A0, cap0, e0, hcap0⟩ := h.rows_len hv (w := w2) (rows := (rows2.drop off).take len) (by simp only [St.rows, hob])
      obtain ⟨hw0, hrl, hc⟩ := h.objs id w2 rows2 hob
      refine ⟨A0, cap0, e0, hcap0, fun r hm => hrl r (List.mem_of_mem_drop (List.mem_of_mem_take hm)), fun hne => ?_⟩
      have hlt : 0 < len := by
        rcases Nat.eq_zero_or_pos len with e | e
        · exact absurd (List.length_eq_zero_iff.mp (by rw [hlen]; exact e)) hne
        · exact e
      rcases hc with ⟨A, _, hn⟩ | ⟨b, cap, c', t', e1, e2, e3, e4, e5, e6⟩
      · subst hn; simp at g2; omega
      · rcases g3 with g3 | ⟨g3, _⟩
        case inr => omega
        simp only [e1, viewOf, if_neg (show ¬ cap = off by omega), Option.map_some, add_mk] at g3
        rw [e0] at g3
        simp only [Value.slice.injEq] at g3
        refine ⟨b, 0 + off * w2, g3.1, by rw [e3]; simp, fun i j r c hi hj => ?_⟩
        have hi' : rows2[off + i]? = some r := by
          rw [List.getElem?_take] at hi
          split at hi
          · rwa [List.getElem?_drop] at hi
          · cases hi
        obtain ⟨u, k1, k2⟩ := e6 (off + i) j r c hi' hj
        refine ⟨u, ?_, fun hf L => ?_⟩
        · rw [cell_cells e4, show 0 + off * w2 + i * w2 + j = (off + i) * w2 + j by rw [Nat.add_mul]; omega]; exact k1
        · cases c with
          | sc x => exact k2
          | gone => exact k2
          | sl q xs => have : q = 0 := hf
                       subst this; exact k2
    · cases hr
  · rename_i id i0 j0 s0 off len
    split at hr
    · rename_i w2 rows2 hob
      split at hr
      · rename_i s' xs hcell
        split at hr
        · rename_i es
          subst es
          simp only [Option.some.injEq, Prod.mk.injEq] at hr
          obtain ⟨rfl, rfl⟩ := hr
          obtain ⟨g0, g1, hd, g2, g3⟩ := hv.2 w2 rows2 xs hob hcell
          have hlen : (lift ((xs.drop off).take len)).length = len := by rw [lift_length]; simp; omega
          obtain ⟨A0, cap0, e0, hcap0⟩ := h.rows_len hv (w := 1) (rows := lift ((xs.drop off).take len)) (by simp only [St.rows, hob, hcell, if_true])
          refine ⟨A0, cap0, e0, hcap0, fun r hm => ?_, fun hne => ?_⟩
          · simp only [lift, List.mem_map] at hm
            obtain ⟨x, _, rfl⟩ := hm; rfl
          have hlt : 0 < len := by
            rcases Nat.eq_zero_or_pos len with e | e
            · exact absurd (List.length_eq_zero_iff.mp (by rw [hlen]; exact e)) hne
            · exact e
          obtain ⟨v', k1, k2⟩ := h.own_head hob hcell g0
          rw [g2] at k1; cases k1
          rcases k2 with ⟨A, _, hn⟩ | ⟨b, cap, c', t', e1, e2, e3, e4, e5, e6⟩
          · subst hn; simp at g1; omega
          · rcases g3 with g3 | ⟨g3, _⟩
            case inr => omega
            simp only [e1, viewOf, if_neg (show ¬ cap = off by omega), Option.map_some, add_mk] at g3
            rw [e0] at g3
            simp only [Value.slice.injEq] at g3
            refine ⟨b, 0 + off * 1, g3.1, by rw [e3]; simp, fun i j r c hi hj => ?_⟩
            simp only [lift, List.getElem?_map, Option.map_eq_some_iff] at hi
            obtain ⟨x, hx, rfl⟩ := hi
            have hx' : xs[off + i]? = some x := by
              rw [List.getElem?_take] at hx
              split at hx
              · rwa [List.getElem?_drop] at hx
              · cases hx
            cases j with
            | zero =>
              simp at hj; subst hj
              refine ⟨x, ?_, fun _ L => ⟨rfl, (e6 _ x hx').1⟩⟩
              rw [cell_cells e4, show 0 + off * 1 + i * 1 + 0 = off + i by omega]; exact (e6 _ x hx').2
            | succ j => simp at hj
        · cases hr
      · cases hr
    · cases hr
  · cases hr

theorem foldl_bytes : ∀ (bs : List UInt8) (s : ByteArray), ((bs.map fun b => (b.toNat : Int)).foldl (fun r n => r.push (UInt8.ofNat n.toNat)) s).data.toList = s.data.toList ++ bs
  | [], s => by simp
  | b :: bs, s => by
    simp only [List.map_cons, List.foldl_cons]
    rw [foldl_bytes bs]
    simp [ByteArray.push]
theorem good_convert_bytes (h : InvS cx st sh a W Fr) (hd : ∀ d', o.dst = some d' → d' < cx.n) {s d e : TypeId} {x : Operand} (ho : o.op = .convert s d x) (hs : P.underlying s = some (.slice e)) (he : P.underlying e = some (.int .u8)) (hdd : P.underlying d = some .string) {sv : SV}
    (hx : st.ev x = .one sv) {bs : List UInt8} (hr : st.rows sv = some (1, lift (bs.map fun b => .int .u8 b.toNat))) (hK : K ⟨.sc (.string ⟨bs.toArray⟩), [], []⟩) : Good P cx st Fr nid o a W K Q := by
  have ex := h.ev x
  rw [hx] at ex
  obtain ⟨A, cap, ev, hcap, _, hc⟩ := h.rows_read ex hr
  rw [lift_length, List.length_map] at ev
  refine good_v h hd (s := convert s d (a.eval x)) (by simp [execOp, ho]) (v := .string ⟨bs.toArray⟩) ?_ (av := .sc (.string ⟨bs.toArray⟩)) rfl (fun id _ => sc_ids _ id) hK
  rw [ev, run_convert_bytes_string W s d e A _ _ hs he hdd]
  rcases hbs : bs with _ | ⟨b0, bs'⟩
  · cases A with
    | none => simp [Conv.bytesToString, Sem.run_pure]; rfl
    | some ad =>
      have hl0 : (loadCells ad 0).run P W = .ok (([] : List Int).map (Value.int .u8)).toArray W := by
        have := run_loadCells_list (P := P) W ad [] (by simp)
        simpa using this
      exact run_bytesToString W ad 0 cap [] hl0
  · rw [← hbs]
    have hne : lift (bs.map fun b => Value.int .u8 b.toNat) ≠ [] := by rw [hbs]; simp [lift]
    obtain ⟨b, off, eA, _, hcell⟩ := hc hne
    subst eA
    have hload : (loadCells ⟨b, off, none⟩ bs.length).run P W = .ok ((bs.map fun b => (b.toNat : Int)).map (Value.int .u8)).toArray W := by
      have := run_loadCells_list (P := P) W ⟨b, off, none⟩ ((bs.map fun b => (b.toNat : Int)).map (Value.int .u8)) (by
        intro j v hj
        rw [add_mk]
        simp only [List.getElem?_map, Option.map_eq_some_iff] at hj
        obtain ⟨n, ⟨y, hy, rfl⟩, rfl⟩ := hj
        obtain ⟨u, g1, g2⟩ := hcell j 0 [.sc (.int .u8 y.toNat)] (.sc (.int .u8 y.toNat)) (by simp [lift, hy]) (by simp)
        have e : u = .int .u8 y.toNat := (g2 trivial .imm).1
        rw [← e]; simpa using g1)
      simpa using this
    rw [run_bytesToString W _ _ cap _ hload]
    congr 2
    have := foldl_bytes bs ByteArray.empty
    have e2 : ∀ s : ByteArray, s.data.toList = bs → s = ⟨bs.toArray⟩ := by
      rintro ⟨⟨l⟩⟩ rfl; rfl
    exact e2 _ (by rw [this]; rfl)

theorem setCells_rep {lab : Nat → Lab} {w : Nat} {rows : Rows} {cells : List Value} (h : RowsRep W lab nid w rows cells) {i : Nat} (hi : i < rows.length) {cs : List Cell} {vs : List Value} (hcs : cs.length = w) (hl : cs.length = vs.length)
    (hrep : ∀ (k : Nat) (c : Cell) (v : Value), cs[k]? = some c → vs[k]? = some v → OwnCell W lab (.inn nid i k) c v) (hsz : cells.length = rows.length * w) : RowsRep W lab nid w (rows.set i cs) (setRange cells (i * w) vs) := by
  have hfit : i * w + vs.length ≤ cells.length := by
    rw [hsz, ← hl, hcs, ← Nat.succ_mul]
    exact Nat.mul_le_mul_right w hi
  refine ⟨fun r hr => ?_, fun i' j r x hi' hj => ?_⟩
  · rcases List.mem_or_eq_of_mem_set hr with hr | rfl
    · exact h.1 r hr
    · exact hcs
  rw [List.getElem?_set] at hi'
  rw [setRange_get hfit]
  have hvl : vs.length = w := by omega
  split at hi'
  · rename_i e
    subst e
    simp only [hi, if_true, Option.some.injEq] at hi'
    subst hi'
    have hj' : j < cs.length := (List.getElem?_eq_some_iff.mp hj).1
    have hjv : j < vs.length := by omega
    refine ⟨vs[j], ?_, hrep j x _ hj (List.getElem?_eq_getElem hjv)⟩
    rw [if_neg (by omega), if_pos (by omega), show i * w + j - i * w = j by omega, List.getElem?_eq_getElem hjv]
  · rename_i hne
    obtain ⟨v, g1, g2⟩ := h.2 i' j r x hi' hj
    refine ⟨v, ?_, g2⟩
    have hjw : j < w := by
      have := (List.getElem?_eq_some_iff.mp hj).1
      rw [h.1 r (List.mem_of_getElem? hi')] at this
      exact this
    have h1 : i' < i → i' * w + j < i * w := fun hlt => by
      have := Nat.mul_le_mul_right w (show i' + 1 ≤ i from hlt)
      rw [Nat.succ_mul] at this; omega
    have h2 : i < i' → i * w + vs.length ≤ i' * w + j := fun hlt => by
      have := Nat.mul_le_mul_right w (show i + 1 ≤ i' from hlt)
      rw [Nat.succ_mul] at this; omega
    rcases Nat.lt_or_gt_of_ne (fun e : i' = i => hne e.symm) with hlt | hlt
    · rw [if_pos (h1 hlt)]; exact g1
    · have := h2 hlt
      rw [if_neg (by omega), if_neg (by omega)]; exact g1

theorem fillRows_rep (hpins : ∀ q ∈ cx.pins, q.1 < 1000) {nid w : Nat} (hn0 : 0 < nid) (hw : 0 < w) : ∀ (parts : List (Nat × Operand)) {st : St} {sh : Sh} {rows : Rows} {cells : Array Value} {K : Rows → List (Nat × Option Obj') → Prop}, InvS cx st sh a W Fr → st.objs nid = none →
    RowsRep W sh.lab nid w rows cells.toList → cells.size = rows.length * w → (∀ r ∈ rows, ∀ s xs, Cell.sl s xs ∈ r → s = 0 ∨ s = nid) → fillRowsK nid w st rows parts K →
    ∃ rows' ws π cells', K rows' ws ∧ Grafted cx st sh a W Fr nid ws π ∧ rows'.length = rows.length ∧ Instr.fill (fun i => some (i * w, w)) cells (parts.map fun (i, x) => (i, a.eval x)) = some cells' ∧ cells'.size = rows.length * w ∧
      RowsRep W (fun b => π (sh.lab b)) nid w rows' cells'.toList ∧ ∀ r ∈ rows', ∀ s xs, Cell.sl s xs ∈ r → s = 0 ∨ s = nid
  | [], st, sh, rows, cells, K, h, hn, hr, hsz, hst, hK => ⟨rows, [], _, cells, hK, grafted_nil h nid, rfl, rfl, hsz, hr, hst⟩
  | (i, x) :: r, st, sh, rows, cells, K, h, hn, hr, hsz, hst, hK => by
    unfold fillRowsK at hK
    split at hK
    · rename_i p hx
      obtain ⟨hsol, hl, hi, hK⟩ := hK
      have ex := h.ev x
      rw [hx] at ex
      have hone : ∀ s, p = .one s → s.solid st := by rintro s rfl; exact hsol.1
      have ec := h.pk_cells ex hone
      have hu : ∀ y ∈ p.svs, ∀ u, y = .sc u → u.oneCell' = true := by
        have : ∀ (l : List SV), solids st l → ∀ y ∈ l, y.solid st := by
          intro l
          induction l with
          | nil => intro _ y hy; cases hy
          | cons z l ih => rintro ⟨h1, h2⟩ y hy; rcases List.mem_cons.mp hy with rfl | hy
                           · exact h1
                           · exact ih h2 y hy
        rintro y hy u rfl
        exact this _ hsol _ hy
      obtain ⟨cs, ws, π, hK1, g, hcl, hrep, _, hst1⟩ := InvS.cells (a := a) (W := W) (Fr := Fr) hpins hn0 i 0 h hn ec hu hK
      have hsz1 : (a.eval x).cells.size = w := by rw [← hl, all2_length ec]; simp
      have hfit : i * w + w ≤ cells.size := by
        rw [hsz, ← Nat.succ_mul]; exact Nat.mul_le_mul_right w hi
      obtain ⟨cells1, e1, e2⟩ := fill_cons (place := fun i => some (i * w, w)) (rest := r.map fun (i, x) => (i, a.eval x)) (i := i) rfl hsz1 hfit
      have hr1 := rowsRep_relab (nid := nid) g.good g.mine hr
      have hr2 : RowsRep W (fun b => π (sh.lab b)) nid w (rows.set i cs) cells1.toList := by
        rw [e1]
        exact setCells_rep hr1 hi (by rw [hcl, hl]) (by rw [hcl, all2_length ec]) (fun k c v hk hv => by have := hrep k c v hk hv; rwa [Nat.zero_add] at this) (by simpa using hsz)
      have hsz2 : cells1.size = (rows.set i cs).length * w := by
        rw [List.length_set, ← hsz, ← Array.length_toList, e1, setRange_length (by rw [Array.length_toList, Array.length_toList, hsz1]; exact hfit), Array.length_toList]
      obtain ⟨rows', ws', π', cells', k1, k2, k3, k4, k5, k6, k7⟩ := fillRows_rep hpins hn0 hw r g.inv (g.none nid hn) hr2 hsz2 (fun r' hr' s xs hs => by
        rcases List.mem_or_eq_of_mem_set hr' with hr' | rfl
        · exact hst r' hr' s xs hs
        · exact hst1 s xs hs) hK1
      refine ⟨rows', ws' ++ ws, _, cells', k1, grafted_comp g k2, by rw [k3, List.length_set], by simp only [List.map_cons]; rw [e2]; exact k4, by rw [k5, List.length_set], k6, k7⟩
    · exact hK.elim

theorem good_buildSlice (h : InvS cx st sh a W Fr) (hd : ∀ d', o.dst = some d' → d' < cx.n) (hnid : ∀ k, k < 64 → Fr (nid + k)) (hpins : ∀ q ∈ cx.pins, q.1 < 1000) {t : TypeId} {len : Nat} {parts : Array (Nat × Operand)} (ho : o.op = .buildSlice t len parts) {w bytes : Nat} {z : List Value} (ht : elemOf' P t = some (w, bytes, z))
    (hlen : len * w ≤ 16777216) (hK : fillRowsK nid w st (List.replicate len (z.map (zeroCell nid))) parts.toList fun rows ws => K ⟨.one (.ref nid w 0 len), (nid, some (w, rows)) :: ws, []⟩) : Good P cx st Fr nid o a W K Q := by
  obtain ⟨el, info, hu, hin, hsz, hby, hz, hzl, hw0, hb0, hb1⟩ := elemOf_some ht
  unfold zeroOf at hz
  rw [hin] at hz
  simp only [Option.map_eq_some_iff] at hz
  obtain ⟨zv, hzv, rfl⟩ := hz
  have hzs : zv.cells.size = w := by simpa using hzl
  have hF0 : Fr nid := by simpa using hnid 0 (by omega)
  have hlo := h.low nid hF0
  obtain ⟨rows', ws, π, cells', k1, k2, k3, k4, k5, k6, k7⟩ := fillRows_rep (nid := nid) hpins (by omega) hw0 parts.toList h ((h.fresh nid hF0).2.1) (zero_rows (nid := nid) (elemOf_zero ht) (by omega) hzs (Nat.le_refl len)) (by simp [size_madeCells]) (fun r hr s xs hs => .inr (zero_stamps hr hs)) hK
  rw [List.length_replicate] at k3 k5
  refine good_newObj h hd hnid hpins k2 (W1 := W) ⟨rfl, rfl, rfl, rfl⟩ (c := cells') (t := el) (n := len) (cap := len) ?_ hw0 k3 (Nat.le_refl _) k5 k6 ?_ k1
  · have hbig : ¬ len * w > 2 ^ 24 := by
      have : (2 : Nat) ^ 24 = 16777216 := by decide
      omega
    have hfill : Instr.fill (fun i => some (i * info.size, info.size)) (madeCells zv.cells (len * info.size)) (parts.map fun (i, x) => (i, a.eval x)).toList = some cells' := by
      rw [hsz, Array.toList_map]; exact k4
    rw [← hsz] at hbig
    by_cases h0 : len * info.size = 0
    · have e0 : (Array.range (len * info.size)).map (fun i => (#[] : Array Value)[i % (#[] : Array Value).size]!) = madeCells zv.cells (len * info.size) := by
        rw [h0]; simp [madeCells]
      rw [h0] at hfill e0
      have h16 : ¬ (0 > 2 ^ 24) := by omega
      simp only [execOp, ho, Instr.buildSlice, Sem.run_bind, run_under hu, Result.andThen, run_size hin, h0, h16, if_false, if_true, Sem.run_pure]
      simp only [e0, hfill, alloc_val, Sem.run_bind, Result.andThen, Sem.run_pure]
    · simp only [execOp, ho, Instr.buildSlice, Sem.run_bind, run_under hu, Result.andThen, run_size hin, hbig, if_false, h0, zeroValue, run_info hin, hzv, Sem.run_pure]
      have e0 : (Array.range (len * info.size)).map (fun i => zv.cells[i % zv.cells.size]!) = madeCells zv.cells (len * info.size) := rfl
      simp only [e0, hfill, alloc_val, Sem.run_bind, Result.andThen, Sem.run_pure]
  · intro r hm s xs hs
    rcases k7 r hm s xs hs with rfl | rfl
    · rintro ⟨hq, _⟩
      have := h.low 0 hq
      omega
    · rintro ⟨_, hq⟩
      exact hq ⟨by omega, by omega⟩
end build
end Go.Proofs.YtedciihjgbkjgacGreatDoor.A

/-! THE ABSTRACT SEMANTICS IS SOUND, twelfth part: append. Conditions: none. -/
namespace Go.Proofs.YtedciihjgbkjgacGreatDoor.A
open Go
set_option linter.unusedSimpArgs false
set_option linter.unusedVariables false

/-- What is appended, as append reads it. -/
structure Src (P : Program) (W : World) (w n : Nat) (v : Value) (cells : List Value) : Prop where
  len : ∀ W', (Builtin.lenOf v).run P W' = .ok n W'
  get : ∀ W', W'.heap = W.heap → (Builtin.firstCells w n v).run P W' = .ok cells.toArray W'

/-- Rows that lie in cells, from row L on. -/
def AtRep (W : World) (lab : Nat → Lab) (nid w L : Nat) (rows : Rows) (cells : List Value) : Prop :=
  (∀ r ∈ rows, r.length = w) ∧ ∀ (i j : Nat) (r : List Cell) (x : Cell), rows[i]? = some r → r[j]? = some x → ∃ v, cells[i * w + j]? = some v ∧ OwnCell W lab (.inn nid (L + i) j) x v

def shiftL (id nid L : Nat) : Lab → Lab
  | .inn q i j => if q = id then .inn nid (L + i) j else .inn q i j
  | l => l

/-- What changes hands where some rows' inner slices move to the end of a new slice. -/
def shiftR (id nid off len L : Nat) : Lab → Lab
  | .inn q i j => if q = id ∧ off ≤ i ∧ i < off + len then .inn nid (L + (i - off)) j else .inn q i j
  | l => l
theorem goneR_get {rows : Rows} {off len i : Nat} (h : off + len ≤ rows.length) : (goneR rows off len)[i]? = if off ≤ i ∧ i < off + len then (rows[i]?).map fun r => r.map Cell.goneC else rows[i]? := by
  unfold goneR
  rw [List.append_assoc]
  by_cases h1 : i < off
  · rw [if_neg (by omega), List.getElem?_append_left (by rw [List.length_take]; omega), List.getElem?_take_of_lt h1]
  · rw [List.getElem?_append_right (by rw [List.length_take]; omega), List.length_take, Nat.min_eq_left (by omega)]
    by_cases h2 : i < off + len
    · rw [if_pos ⟨by omega, h2⟩, List.getElem?_append_left (by rw [List.length_map, List.length_take, List.length_drop]; omega), List.getElem?_map, List.getElem?_take_of_lt (by omega), List.getElem?_drop, show off + (i - off) = i by omega]
    · rw [if_neg (by omega), List.getElem?_append_right (by rw [List.length_map, List.length_take, List.length_drop]; omega), List.length_map, List.length_take, List.length_drop, Nat.min_eq_left (by omega), List.getElem?_drop, List.getElem?_drop,
        show off + (len + (i - off - len)) = i by omega]
theorem goneR_length {rows : Rows} {off len : Nat} (h : off + len ≤ rows.length) : (goneR rows off len).length = rows.length := by
  unfold goneR
  simp only [List.length_append, List.length_map, List.length_take, List.length_drop]; omega
theorem shrinks_goneR {rows : Rows} {off len : Nat} (h : off + len ≤ rows.length) : Shrinks rows (goneR rows off len) := by
  refine ⟨goneR_length h, fun i r' hr' => ?_⟩
  rw [goneR_get h] at hr'
  split at hr'
  · rw [Option.map_eq_some_iff] at hr'
    obtain ⟨r, h1, rfl⟩ := hr'
    refine ⟨r, h1, by rw [List.length_map], fun j c hc => ?_⟩
    rw [List.getElem?_map, Option.map_eq_some_iff] at hc
    obtain ⟨c0, h2, rfl⟩ := hc
    cases c0 with
    | sl s xs => exact .inl rfl
    | sc v => exact .inr h2
    | gone => exact .inl rfl
  · exact ⟨r', hr', rfl, fun j c hc => .inr hc⟩
theorem goneR_stay {rows : Rows} {off len i j s : Nat} {xs : List Value} (h : off + len ≤ rows.length) (hc : Rows.cell (goneR rows off len) i j = .sl s xs) : ¬ (off ≤ i ∧ i < off + len) := by
  intro hi
  obtain ⟨r', h1, h2⟩ := cell_get hc (by simp)
  rw [goneR_get h, if_pos hi, Option.map_eq_some_iff] at h1
  obtain ⟨r, _, rfl⟩ := h1
  rw [List.getElem?_map, Option.map_eq_some_iff] at h2
  obtain ⟨c, _, e⟩ := h2
  cases c <;> cases e

section app
variable {P : Program} {cx : Cx} {st : St} {sh : Sh} {a : Act} {W : World} {Fr : Nat → Prop} {nid : Nat} {o : Oper} {K : Eff → Prop} {Q : Exit → Act → World → Prop}

theorem atRep_relab {lab : Nat → Lab} {π : Lab → Lab} (hπ : goodπ π) (hm : ∀ L, mine nid L → π L = L) {w L : Nat} {rows : Rows} {cells : List Value} (h : AtRep W lab nid w L rows cells) : AtRep W (fun b => π (lab b)) nid w L rows cells := by
  refine ⟨h.1, fun i j r x hi hj => ?_⟩
  obtain ⟨v, h1, h2⟩ := h.2 i j r x hi hj
  exact ⟨v, h1, ownCell_relab hπ (fun _ _ _ => hm _ (.inr ⟨_, _, rfl⟩)) h2⟩
theorem cell_heap {W W' : World} (h : W'.heap = W.heap) (ad : Addr) : W'.cell? ad = W.cell? ad := by
  simp only [World.cell?, h]
/-- The cells of a slice. -/
theorem src_slice {A : Option Addr} {n cap w : Nat} (hc : n * w ≠ 0 → ∃ b o, A = some ⟨b, o, none⟩ ∧ ∀ k, k < n * w → ∃ u, W.cell? ⟨b, o + k, none⟩ = some u) :
    ∃ cells : List Value, cells.length = n * w ∧ Src P W w n (.slice A n cap) cells ∧ ∀ b o, A = some ⟨b, o, none⟩ → ∀ k, k < n * w → cells[k]? = W.cell? ⟨b, o + k, none⟩ := by
  by_cases h0 : n * w = 0
  · refine ⟨[], by simp [h0], ⟨fun W' => by simp [Builtin.lenOf, Sem.run_pure], fun W' hW => ?_⟩, fun b off _ k hk => by omega⟩
    cases A with
    | none => simp [Builtin.firstCells, Sem.run_pure]
    | some ad => exact run_firstCells_some W' w n ad n cap [] (by simp [h0]) (by simp)
  · obtain ⟨b, off, rfl, hcell⟩ := hc h0
    have hg : ∀ k, k < n * w → ((List.range (n * w)).map fun k => (W.cell? ⟨b, off + k, none⟩).getD undef)[k]? = W.cell? ⟨b, off + k, none⟩ := fun k hk => by
      obtain ⟨u, hu⟩ := hcell k hk
      simp [List.getElem?_range hk, hu]
    refine ⟨(List.range (n * w)).map fun k => (W.cell? ⟨b, off + k, none⟩).getD undef, by simp, ⟨fun W' => by simp [Builtin.lenOf, Sem.run_pure], fun W' hW => ?_⟩, fun b' off' e k hk => ?_⟩
    · refine run_firstCells_some W' w n _ n cap _ (by simp) fun j v hj => ?_
      have hjl : j < n * w := by simpa using (List.getElem?_eq_some_iff.mp hj).1
      rw [hg j hjl] at hj
      rw [add_mk, cell_heap hW]; exact hj
    · cases e; exact hg k hk
theorem rows_index {rows : Rows} {w : Nat} (hr : ∀ r ∈ rows, r.length = w) {k : Nat} (hk : k < rows.length * w) : ∃ i j r c, rows[i]? = some r ∧ r[j]? = some c ∧ k = i * w + j := by
  have hw : 0 < w := by
    rcases Nat.eq_zero_or_pos w with e | e
    · subst e; simp at hk
    · exact e
  have hi : k / w < rows.length := (Nat.div_lt_iff_lt_mul hw).mpr hk
  have hj : k % w < rows[k / w].length := by rw [hr _ (List.getElem_mem hi)]; exact Nat.mod_lt _ hw
  exact ⟨k / w, k % w, rows[k / w], rows[k / w][k % w], List.getElem?_eq_getElem hi, List.getElem?_eq_getElem hj, by rw [Nat.mul_comm]; exact (Nat.div_add_mod k w).symm⟩
theorem index_lt {rows : Rows} {w i j : Nat} {r : List Cell} {c : Cell} (hr : ∀ r ∈ rows, r.length = w) (hi : rows[i]? = some r) (hj : r[j]? = some c) : i * w + j < rows.length * w := by
  have h1 := (List.getElem?_eq_some_iff.mp hi).1
  have h2 := (List.getElem?_eq_some_iff.mp hj).1
  rw [hr r (List.mem_of_getElem? hi)] at h2
  have := Nat.mul_le_mul_right w (show i + 1 ≤ rows.length from h1)
  rw [Nat.succ_mul] at this; omega

/-- A slice that only reads, as what is appended. -/
theorem src_flat (h : InvS cx st sh a W Fr) {s : SV} {v : Value} (hv : SVRep st W sh s v) {w : Nat} {rows : Rows} (hr : st.rows s = some (w, rows)) (hf : flatB rows = true) (L : Nat) :
    ∃ cells : List Value, cells.length = rows.length * w ∧ Src P W w rows.length v cells ∧ AtRep W sh.lab nid w L rows cells := by
  obtain ⟨A, cap, e, hcap, hrl, hc⟩ := h.rows_read hv hr
  have hne : rows.length * w ≠ 0 → rows ≠ [] := by rintro hn rfl; simp at hn
  obtain ⟨cells, h1, h2, h3⟩ := src_slice (P := P) (W := W) (A := A) (n := rows.length) (cap := cap) (w := w) (fun hn => by
    obtain ⟨b, off, eA, _, hcell⟩ := hc (hne hn)
    refine ⟨b, off, eA, fun k hk => ?_⟩
    obtain ⟨i, j, r, c, hi, hj, rfl⟩ := rows_index hrl hk
    obtain ⟨u, g1, _⟩ := hcell i j r c hi hj
    exact ⟨u, by rw [← Nat.add_assoc]; exact g1⟩)
  subst e
  refine ⟨cells, h1, h2, hrl, fun i j r x hi hj => ?_⟩
  have hlt := index_lt hrl hi hj
  obtain ⟨b, off, eA, _, hcell⟩ := hc (hne (by omega))
  obtain ⟨u, g1, g2⟩ := hcell i j r x hi hj
  refine ⟨u, by rw [h3 b off eA _ hlt, ← Nat.add_assoc]; exact g1, g2 ?_ _⟩
  have := List.all_eq_true.mp (List.all_eq_true.mp hf r (List.mem_of_getElem? hi)) x (List.mem_of_getElem? hj)
  cases x with
  | sc _ => trivial
  | gone => trivial
  | sl q xs => exact (show q = 0 by simpa [Cell.flatB] using this)
theorem flat_stamps {rows : Rows} (hf : flatB rows = true) {r : List Cell} (hr : r ∈ rows) {s : Nat} {xs : List Value} (hs : Cell.sl s xs ∈ r) : s = 0 := by
  have := List.all_eq_true.mp (List.all_eq_true.mp hf r hr) _ hs
  simpa [Cell.flatB] using this
theorem lift_flatB (xs : List Value) : flatB (lift xs) = true := by
  simp [flatB, lift, Cell.flatB]

/-- What is appended. -/
theorem src_rep (h : InvS cx st sh a W Fr) (hpins : ∀ q ∈ cx.pins, q.1 < 1000) (hnid : st.objs nid = none) {x : AV} {v : Value} (hv : AVRep st W sh x v) {w : Nat} (hw : 0 < w) (L : Nat) {K : Rows → List (Nat × Option Obj') → Prop} (hK : srcK st w x K) :
    ∃ more ws π cells, K more ws ∧ Grafted cx st sh a W Fr nid ws π ∧ cells.length = more.length * w ∧ Src P W w more.length v cells ∧ AtRep W (fun b => π (sh.lab b)) nid w L more cells ∧ ∀ r ∈ more, ∀ s xs, Cell.sl s xs ∈ r → s = 0 ∨ ¬ Fr s := by
  unfold srcK at hK
  split at hK
  · rename_i s
    obtain ⟨rfl, hK⟩ := hK
    have e : v = .string s := hv
    subst e
    refine ⟨_, _, _, s.data.toList.map fun b => .int .u8 b.toNat, hK, grafted_nil h nid, by simp [lift], ⟨fun W' => ?_, fun W' _ => ?_⟩, ⟨?_, fun i j r x hi hj => ?_⟩, ?_⟩
    · simp [Builtin.lenOf, Sem.run_pure, lift]
    · have hs : (lift (s.data.toList.map fun b => Value.int .u8 b.toNat)).length = s.size := by rw [lift_length, List.length_map, Array.length_toList]; rfl
      rw [hs]
      simp only [Builtin.firstCells, Sem.run_pure]
      congr 1
      apply Array.ext'
      simp only [Array.toList_map]
      congr 1
      have : (s.extract 0 s.size) = s := by
        apply ByteArray.ext
        simp
      rw [this]
    · intro r hr
      simp only [lift, List.mem_map] at hr
      obtain ⟨y, _, rfl⟩ := hr; rfl
    · simp only [lift, List.getElem?_map, Option.map_eq_some_iff] at hi
      obtain ⟨y, ⟨b, hb, rfl⟩, rfl⟩ := hi
      cases j with
      | zero => simp at hj; subst hj; exact ⟨.int .u8 b.toNat, by simp [hb], rfl, rfl⟩
      | succ j => simp at hj
    · intro r hr s' xs hs
      exact .inl (flat_stamps (lift_flatB _) hr hs)
  · rename_i u hu
    obtain ⟨hn, hK⟩ := hK
    have e : v = u := hv
    rw [isNil_eq hn] at e
    subst e
    refine ⟨_, _, _, [], hK, grafted_nil h nid, by simp, ⟨fun W' => by simp [Builtin.lenOf, Sem.run_pure], fun W' _ => by simp [Builtin.firstCells, Sem.run_pure]⟩, ⟨by simp, by simp⟩, by simp⟩
  · rename_i w' rows
    obtain ⟨rfl, hf, hK⟩ := hK
    obtain ⟨cells, h1, h2, h3⟩ := src_flat (P := P) (nid := nid) h (s := .im w' rows) hv rfl hf L
    exact ⟨_, _, _, cells, hK, grafted_nil h nid, h1, h2, h3, fun r hr s xs hs => .inl (flat_stamps hf hr hs)⟩
  · rename_i id w' off len
    split at hK
    · rename_i w2 rows hob
      obtain ⟨rfl, hK⟩ := hK
      obtain ⟨rfl, hle, hvi⟩ := hv w2 rows hob
      split at hK
      · rename_i hf
        obtain ⟨cells, h1, h2, h3⟩ := src_flat (P := P) (nid := nid) h (s := .ref id w2 off len) hv (w := w2) (by simp only [St.rows, hob]) hf L
        exact ⟨_, _, _, cells, hK, grafted_nil h nid, h1, h2, h3, fun r hr s xs hs => .inl (flat_stamps hf hr hs)⟩
      have hK : K ((rows.drop off).take len) [(id, some (w2, goneR rows off len))] := by
        split at hK
        · rename_i hall
          obtain ⟨rfl, rfl⟩ := hall
          rw [List.drop_zero, List.take_length]
          exact hK
        · exact hK
      · have hne : id ≠ nid := by rintro rfl; rw [hnid] at hob; cases hob
        have hπ : goodπ (shiftR id nid off len L) := ⟨rfl, rfl, fun _ => rfl, rfl⟩
        have hobj : ∀ id' w rows', upd st.objs [(id, some (w2, goneR rows off len))] id' = some (w, rows') → ∃ rows, st.objs id' = some (w, rows) ∧ Shrinks rows rows' ∧ (shiftR id nid off len L) (.own id') = .own id' ∧ ∀ i' j' s xs, Rows.cell rows' i' j' = .sl (s + 1) xs → (shiftR id nid off len L) (.inn id' i' j') = .inn id' i' j' := by
          intro id' w3 rows' ho'
          simp only [upd] at ho'
          split at ho'
          · rename_i e'
            subst e'
            simp only [Option.some.injEq, Prod.mk.injEq] at ho'
            obtain ⟨rfl, rfl⟩ := ho'
            exact ⟨rows, hob, shrinks_goneR hle, rfl, fun i' j' s xs hc => by simp only [shiftR]; rw [if_neg (fun hh => goneR_stay hle hc hh.2)]⟩
          · rename_i hne'
            exact ⟨rows', ho', shrinks_refl _, rfl, fun i' j' s xs _ => by simp only [shiftR]; rw [if_neg (fun hh => hne' hh.1)]⟩
        have g : Grafted cx st sh a W Fr nid [(id, some (w2, goneR rows off len))] (shiftR id nid off len L) := by
          refine ⟨hπ, h.relab hpins hπ hobj, relab_keeps st W sh hπ (fun id' w2 rows' ho' => ?_), ?_, fun id' hn => ?_⟩
          · obtain ⟨rows, k1, k2, _⟩ := hobj id' w2 rows' ho'
            exact ⟨rows, k1, k2⟩
          · rintro L' (rfl | ⟨i', j', rfl⟩)
            · rfl
            · simp only [shiftR]; rw [if_neg (fun hh => hne hh.1.symm)]
          · simp only [upd]; split
            · rename_i e'; subst e'; rw [hob] at hn; cases hn
            · exact hn
        obtain ⟨hw0, hrl, hc⟩ := h.objs id w2 rows hob
        obtain ⟨A0, cap0, e0, hcap0⟩ := h.rows_len (s := .ref id w2 off len) hv (w := w2) (rows := (rows.drop off).take len) (by simp only [St.rows, hob])
        have hml : ((rows.drop off).take len).length = len := by rw [List.length_take, List.length_drop]; omega
        have hmr : ∀ r ∈ (rows.drop off).take len, r.length = w2 := fun r hr => hrl r (List.mem_of_mem_drop (List.mem_of_mem_take hr))
        have hmg : ∀ {i : Nat} {r : List Cell}, ((rows.drop off).take len)[i]? = some r → rows[off + i]? = some r := by
          intro i r hi
          rw [List.getElem?_take] at hi
          split at hi
          · rw [List.getElem?_drop] at hi; exact hi
          · cases hi
        by_cases hl0 : len = 0
        · have em : (rows.drop off).take len = [] := List.length_eq_zero_iff.mp (by omega)
          rw [em] at hK e0
          obtain ⟨cells, h1, h2, h3⟩ := src_slice (P := P) (W := W) (A := A0) (n := 0) (cap := cap0) (w := w2) (fun hn => by simp at hn)
          exact ⟨_, _, shiftR id nid off len L, cells, hK, g, h1, by rw [e0]; exact h2, ⟨by simp, by simp⟩, by simp⟩
        rcases hc with ⟨A, _, hn⟩ | ⟨b, cap, c', t', e1, e2, e3, e4, e5, e6⟩
        · subst hn; simp at hle; omega
        · rcases hvi with hvi | ⟨hz, _⟩
          case inr => omega
          have hA : A0 = some ⟨b, off * w2, none⟩ := by
            rw [e1] at hvi
            simp only [viewOf, if_neg (show ¬ cap = off by omega), Option.map_some, add_mk, Nat.zero_add] at hvi
            rw [e0] at hvi
            simp only [Value.slice.injEq] at hvi
            exact hvi.1
          subst hA
          have hin : ∀ k, k < len * w2 → ∃ u, c'[off * w2 + k]? = some u := fun k hk => by
            have h5 : (off + len) * w2 ≤ cap * w2 := Nat.mul_le_mul_right w2 (by omega)
            rw [Nat.add_mul] at h5
            have : off * w2 + k < c'.size := by rw [e5]; omega
            exact ⟨_, Array.getElem?_eq_getElem this⟩
          obtain ⟨cells, h1, h2, h3⟩ := src_slice (P := P) (W := W) (A := some ⟨b, off * w2, none⟩) (n := len) (cap := cap0) (w := w2) (fun _ => ⟨b, off * w2, rfl, fun k hk => by
            rw [cell_cells e4]; exact hin k hk⟩)
          rw [hml] at e0
          refine ⟨_, _, shiftR id nid off len L, cells, hK, g, by rw [hml]; exact h1, by rw [hml, e0]; exact h2, ⟨hmr, fun i j r x hi hj => ?_⟩, fun r hr s xs hs => ?_⟩
          · have hlt := index_lt hmr hi hj
            rw [hml] at hlt
            have hil : i < len := by
              have := (List.getElem?_eq_some_iff.mp hi).1
              omega
            obtain ⟨u, k1, k2⟩ := e6 (off + i) j r x (hmg hi) hj
            refine ⟨u, ?_, ownCell_to hπ (fun s xs _ => by show (if id = id ∧ off ≤ off + i ∧ off + i < off + len then Lab.inn nid (L + (off + i - off)) j else Lab.inn id (off + i) j) = Lab.inn nid (L + i) j; rw [if_pos ⟨rfl, by omega, by omega⟩, show off + i - off = i by omega]) k2⟩
            rw [h3 b (off * w2) rfl _ hlt, cell_cells e4, ← Nat.add_assoc, ← Nat.add_mul]; exact k1
          · obtain ⟨i, hi⟩ := List.getElem?_of_mem hr
            obtain ⟨j, hj⟩ := List.getElem?_of_mem hs
            exact .inr (h.stamps id w2 rows (off + i) j s xs hob (by simp [Rows.cell, List.getD_eq_getElem?_getD, hmg hi, hj]))
    · exact hK.elim
  · rename_i id i j s off len
    split at hK
    · rename_i w' rows hr
      obtain ⟨rfl, hK⟩ := hK
      have hf : flatB rows = true := by
        simp only [St.rows] at hr
        split at hr
        · split at hr
          · split at hr
            · simp only [Option.some.injEq, Prod.mk.injEq] at hr
              rw [← hr.2]; exact lift_flatB _
            · cases hr
          · cases hr
        · cases hr
      obtain ⟨cells, h1, h2, h3⟩ := src_flat (P := P) (nid := nid) h (s := .rin id i j s off len) hv hr hf L
      exact ⟨_, _, _, cells, hK, grafted_nil h nid, h1, h2, h3, fun r hr s xs hs => .inl (flat_stamps hf hr hs)⟩
    · exact hK.elim
  · exact hK.elim
end app
end Go.Proofs.YtedciihjgbkjgacGreatDoor.A

/-! THE ABSTRACT SEMANTICS IS SOUND, thirteenth part: append, and stores into slices of one's own. Conditions: none. -/
namespace Go.Proofs.YtedciihjgbkjgacGreatDoor.A
open Go
set_option linter.unusedSimpArgs false
set_option linter.unusedVariables false

def renameL (id nid : Nat) : Lab → Lab
  | .own q => if q = id then .own nid else .own q
  | .inn q i j => if q = id then .inn nid i j else .inn q i j
  | l => l

section app
variable {P : Program} {cx : Cx} {st : St} {sh : Sh} {a : Act} {W : World} {Fr : Nat → Prop} {nid : Nat} {o : Oper} {K : Eff → Prop} {Q : Exit → Act → World → Prop}

/-- What is appended to. -/
structure Dst (W : World) (lab : Nat → Lab) (nid w : Nat) (old : Rows) (v : Value) (A : Option Addr) (cap : Nat) : Prop where
  val : v = .slice A old.length cap
  fit : old.length ≤ cap
  wide : ∀ r ∈ old, r.length = w
  lies : (cap = 0 ∧ old = []) ∨ ∃ (b : Nat) (c : Array Value) (t : TypeId), A = some ⟨b, 0, none⟩ ∧ lab b = .own nid ∧ W.heap[b]? = some (.cells c t (0, 0)) ∧ c.size = cap * w ∧ RowsRep W lab nid w old c.toList

theorem dst_ref (h : InvS cx st sh a W Fr) (hpins : ∀ q ∈ cx.pins, q.1 < 1000) (hnid : st.objs nid = none) {id w len : Nat} {v : Value} (hv : SVRep st W sh (.ref id w 0 len) v) {w2 : Nat} {rows : Rows} (hob : st.objs id = some (w2, rows)) (hlen : len = rows.length) :
    w2 = w ∧ ∃ π A cap, Grafted cx st sh a W Fr nid [(id, none)] π ∧ Dst W (fun b => π (sh.lab b)) nid w rows v A cap := by
  obtain ⟨rfl, _, hvi⟩ := hv w2 rows hob
  subst hlen
  refine ⟨rfl, ?_⟩
  have hne : id ≠ nid := by rintro rfl; rw [hnid] at hob; cases hob
  have hπ : goodπ (renameL id nid) := ⟨rfl, rfl, fun _ => rfl, rfl⟩
  have hobj : ∀ id' w rows', upd st.objs [(id, none)] id' = some (w, rows') → ∃ rows, st.objs id' = some (w, rows) ∧ Shrinks rows rows' ∧ renameL id nid (.own id') = .own id' ∧ ∀ i' j' s xs, Rows.cell rows' i' j' = .sl (s + 1) xs → renameL id nid (.inn id' i' j') = .inn id' i' j' := by
    intro id' w3 rows' ho'
    simp only [upd] at ho'
    split at ho'
    · cases ho'
    · rename_i hne'
      exact ⟨rows', ho', shrinks_refl _, by simp only [renameL, if_neg hne'], fun i' j' s xs _ => by simp only [renameL, if_neg hne']⟩
  have g : Grafted cx st sh a W Fr nid [(id, none)] (renameL id nid) := by
    refine ⟨hπ, h.relab hpins hπ hobj, relab_keeps st W sh hπ (fun id' w2 rows' ho' => ?_), ?_, fun id' hn => ?_⟩
    · obtain ⟨rows, k1, k2, _⟩ := hobj id' w2 rows' ho'
      exact ⟨rows, k1, k2⟩
    · rintro L' (rfl | ⟨i', j', rfl⟩) <;> simp only [renameL, if_neg hne.symm]
    · simp only [upd]; split
      · rfl
      · exact hn
  obtain ⟨hw0, hrl, hc⟩ := h.objs id w2 rows hob
  obtain ⟨A, cap, e, hcap, hA⟩ := own_shape h hob
  rcases view_all hvi e hA with hv' | ⟨hz, A', hv'⟩
  · refine ⟨_, A, cap, g, by rw [hv', e], hcap, hrl, ?_⟩
    rcases hc with ⟨A2, e2, hn⟩ | ⟨b, cap', c', t', e1, e2, e3, e4, e5, e6⟩
    · rw [e2] at e
      simp only [Value.slice.injEq] at e
      exact .inl ⟨e.2.2.symm, hn⟩
    · rw [e1] at e; cases e
      refine .inr ⟨b, c', t', rfl, by simp [e3, renameL], e4, e5, hrl, fun i j r x hi hj => ?_⟩
      obtain ⟨u, k1, k2⟩ := e6 i j r x hi hj
      exact ⟨u, by simpa using k1, ownCell_to hπ (fun s xs _ => by simp [renameL]) k2⟩
  · have : rows = [] := List.length_eq_zero_iff.mp hz
    subst this
    exact ⟨_, A', 0, g, by rw [hv']; rfl, by simp, by simp, .inl ⟨rfl, rfl⟩⟩

theorem dst_rin (h : InvS cx st sh a W Fr) (hpins : ∀ q ∈ cx.pins, q.1 < 1000) (hnid : st.objs nid = none) {id i0 j0 s len : Nat} {v : Value} (hv : SVRep st W sh (.rin id i0 j0 s 0 len) v) {wo : Nat} {rows : Rows} {xs : List Value} (hob : st.objs id = some (wo, rows)) (hc : Rows.cell rows i0 j0 = .sl s xs) (hlen : len = xs.length) :
    ∃ π A cap, Grafted cx st sh a W Fr nid [(id, some (wo, Rows.setCell rows i0 j0 .gone))] π ∧ Dst W (fun b => π (sh.lab b)) nid 1 (lift xs) v A cap := by
  subst hlen
  obtain ⟨g0, _, hd, g2, hvi⟩ := hv.2 wo rows xs hob hc
  obtain ⟨v', k1, k2⟩ := h.own_head hob hc g0
  rw [g2] at k1; cases k1
  obtain ⟨A, cap, e, hcap, hA⟩ := ownSl_shape k2
  have hne : id ≠ nid := by rintro rfl; rw [hnid] at hob; cases hob
  have hπ : goodπ (swapL (.inn id i0 j0) (.own nid)) := ⟨swapL_ne (by simp), swapL_ne (by simp), fun _ => swapL_ne (by simp), swapL_ne (by simp)⟩
  have hobj : ∀ id' w rows', upd st.objs [(id, some (wo, Rows.setCell rows i0 j0 .gone))] id' = some (w, rows') → ∃ rows, st.objs id' = some (w, rows) ∧ Shrinks rows rows' ∧ swapL (.inn id i0 j0) (.own nid) (.own id') = .own id' ∧
      ∀ i' j' s xs, Rows.cell rows' i' j' = .sl (s + 1) xs → swapL (.inn id i0 j0) (.own nid) (.inn id' i' j') = .inn id' i' j' := by
    intro id' w2 rows' ho'
    simp only [upd] at ho'
    split at ho'
    · rename_i e'
      subst e'
      simp only [Option.some.injEq, Prod.mk.injEq] at ho'
      obtain ⟨rfl, rfl⟩ := ho'
      refine ⟨rows, hob, shrinks_gone rows i0 j0, swapL_ne (by simp), fun i' j' s xs' hc' => swapL_ne ?_⟩
      intro e'
      simp only [Lab.inn.injEq, true_and] at e'
      obtain ⟨rfl, rfl⟩ := e'
      obtain ⟨r, m1, m2⟩ := cell_get hc' (by simp)
      obtain ⟨q1, q2⟩ := cell_ne hc
      simp only [Rows.setCell] at m1
      rw [List.getElem?_set_self (by omega)] at m1
      simp only [Option.some.injEq] at m1
      subst m1
      rw [List.getElem?_set_self (by omega)] at m2
      cases m2
    · rename_i hne'
      exact ⟨rows', ho', shrinks_refl _, swapL_ne (by simp), fun i' j' s xs _ => swapL_ne (by simp [hne'])⟩
  have g : Grafted cx st sh a W Fr nid [(id, some (wo, Rows.setCell rows i0 j0 .gone))] (swapL (.inn id i0 j0) (.own nid)) := by
    refine ⟨hπ, h.relab hpins hπ hobj, relab_keeps st W sh hπ (fun id' w2 rows' ho' => ?_), ?_, fun id' hn => ?_⟩
    · obtain ⟨rows, k1, k2, _⟩ := hobj id' w2 rows' ho'
      exact ⟨rows, k1, k2⟩
    · rintro L (rfl | ⟨i', j', rfl⟩)
      · exact swapL_ne (by simp)
      · exact swapL_ne (by simp [hne.symm])
    · simp only [upd]; split
      · rename_i e'; subst e'; rw [hob] at hn; cases hn
      · exact hn
  rcases view_all hvi e hA with hv' | ⟨hz, A', hv'⟩
  · refine ⟨_, A, cap, g, by rw [hv', e, lift_length], by rw [lift_length]; exact hcap, ?_, ?_⟩
    · intro r hr
      simp only [lift, List.mem_map] at hr
      obtain ⟨y, _, rfl⟩ := hr; rfl
    · rcases k2 with ⟨A2, e2, hn⟩ | ⟨b, cap', c', t', e1, e2, e3, e4, e5, e6⟩
      · rw [e2] at e
        simp only [Value.slice.injEq] at e
        exact .inl ⟨e.2.2.symm, by rw [hn]; rfl⟩
      · rw [e1] at e; cases e
        refine .inr ⟨b, c', t', rfl, by simp only [e3]; exact swapL_at _ _, e4, by rw [e5, Nat.mul_one], ?_, fun i j r x hi hj => ?_⟩
        · intro r hr
          simp only [lift, List.mem_map] at hr
          obtain ⟨y, _, rfl⟩ := hr; rfl
        · simp only [lift, List.getElem?_map, Option.map_eq_some_iff] at hi
          obtain ⟨y, hy, rfl⟩ := hi
          cases j with
          | zero =>
            simp at hj; subst hj
            obtain ⟨m1, m2⟩ := e6 i y hy
            exact ⟨y, by simpa using m2, rfl, m1⟩
          | succ j => simp at hj
  · have : xs = [] := List.length_eq_zero_iff.mp hz
    subst this
    exact ⟨_, A', 0, g, by rw [hv']; rfl, by simp [lift], by simp [lift], .inl ⟨rfl, rfl⟩⟩

/-- The frame ends with a slice of its own more. -/
theorem good_addObj (hd : ∀ d', o.dst = some d' → d' < cx.n) (hnid : ∀ k, k < 64 → Fr (nid + k)) (hpins : ∀ q ∈ cx.pins, q.1 < 1000) {ws : List (Nat × Option Obj')} {sh1 : Sh} {W1 : World} (h : InvS cx ⟨st.slots, st.vars, upd st.objs ws, st.next⟩ sh1 a W1 Fr)
    {w n cap : Nat} {A : Option Addr} {rows : Rows} (hr : (execOp a.eval o).run P W = .ok (.value (.slice A n cap)) W1)
    (hn : rows.length = n) (hA : n = 0 ∧ cap = 0 ∨ ∀ a, A = some a → a.spot = none) (hrep : OwnRep W1 sh1.lab nid w rows (.slice A n cap)) (hst : ∀ r ∈ rows, ∀ s xs, Cell.sl s xs ∈ r → ¬ (Fr s ∧ ¬ (nid ≤ s ∧ s < nid + 64)))
    (hK : K ⟨.one (.ref nid w 0 n), (nid, some (w, rows)) :: ws, []⟩) : Good P cx st Fr nid o a W K Q := by
  unfold Good Oper.wp
  rw [hr]
  have hF0 : Fr nid := by simpa using hnid 0 (by omega)
  have h4 := h.addObj hpins hF0 hrep (Fr' := fun id => Fr id ∧ ¬ (nid ≤ id ∧ id < nid + 64)) (fun id hf => ⟨hf.1, by rintro rfl; exact hf.2 ⟨by omega, by omega⟩⟩)
    (fun i j s xs hc => by
      obtain ⟨r, m1, m2⟩ := cell_get hc (by simp)
      exact hst r (List.mem_of_getElem? m1) s xs (List.mem_of_getElem? m2))
  refine ⟨⟨.one (.ref nid w 0 n), (nid, some (w, rows)) :: ws, []⟩, _, hK, InvS.put h4 hd (av := .one (.ref nid w 0 n)) (v := .slice A n cap) ?_ ?_⟩
  · intro w' rows' ho
    simp only [upd, if_true, Option.some.injEq, Prod.mk.injEq] at ho
    obtain ⟨rfl, rfl⟩ := ho
    refine ⟨rfl, by omega, ?_⟩
    simp only [if_true]
    rcases hA with ⟨rfl, rfl⟩ | hA
    · exact .inr ⟨rfl, A, rfl⟩
    · left
      rw [viewOf_full]
      exact hA
  · intro id hf hm
    rw [one_ids] at hm
    simp only [SV.ids, List.mem_singleton] at hm
    subst hm
    exact hf.2 ⟨by omega, by omega⟩

theorem rowsRep_join {lab : Nat → Lab} {w : Nat} {old more : Rows} {c1 cells call : List Value} (h1 : RowsRep W lab nid w old c1) (h2 : AtRep W lab nid w old.length more cells) (e1 : ∀ k, k < old.length * w → call[k]? = c1[k]?) (e2 : ∀ k, k < more.length * w → call[old.length * w + k]? = cells[k]?) :
    RowsRep W lab nid w (old ++ more) call := by
  refine ⟨fun r hr => ?_, fun i j r x hi hj => ?_⟩
  · rcases List.mem_append.mp hr with hr | hr
    · exact h1.1 r hr
    · exact h2.1 r hr
  · by_cases hlt : i < old.length
    · rw [List.getElem?_append_left hlt] at hi
      obtain ⟨v, g1, g2⟩ := h1.2 i j r x hi hj
      exact ⟨v, by rw [e1 _ (index_lt h1.1 hi hj)]; exact g1, g2⟩
    · rw [List.getElem?_append_right (by omega)] at hi
      obtain ⟨v, g1, g2⟩ := h2.2 _ j r x hi hj
      refine ⟨v, ?_, by rw [show i = old.length + (i - old.length) by omega]; exact g2⟩
      rw [show i * w + j = old.length * w + ((i - old.length) * w + j) by
        rw [← Nat.add_assoc, ← Nat.add_mul]; congr 2; omega]
      rw [e2 _ (index_lt h2.1 hi hj)]; exact g1
theorem rowsRep_agree {W W' : World} {lab lab' : Nat → Lab} {S : Lab → Prop} (h : Agree W lab W' lab' S) (hS : S .imm) (hm : ∀ i j, S (.inn nid i j)) {w : Nat} {rows : Rows} {cells : List Value} (hr : RowsRep W lab nid w rows cells) : RowsRep W' lab' nid w rows cells := by
  refine ⟨hr.1, fun i j r x hi hj => ?_⟩
  obtain ⟨v, h1, h2⟩ := hr.2 i j r x hi hj
  exact ⟨v, h1, ownCell_agree h hS (hm i j) h2⟩
theorem atRep_agree {W W' : World} {lab lab' : Nat → Lab} {S : Lab → Prop} (h : Agree W lab W' lab' S) (hS : S .imm) (hm : ∀ i j, S (.inn nid i j)) {w L : Nat} {rows : Rows} {cells : List Value} (hr : AtRep W lab nid w L rows cells) : AtRep W' lab' nid w L rows cells := by
  refine ⟨hr.1, fun i j r x hi hj => ?_⟩
  obtain ⟨v, h1, h2⟩ := hr.2 i j r x hi hj
  exact ⟨v, h1, ownCell_agree h hS (hm _ j) h2⟩
theorem atRep_one {lab : Nat → Lab} {w L : Nat} {rows : Rows} {cells : List Value} (hr : AtRep W lab nid w L rows cells) (hl : cells.length = rows.length * w) : ∀ v ∈ cells, v.oneCell' = true := by
  intro v hv
  obtain ⟨k, hk⟩ := List.getElem?_of_mem hv
  have hlt := (List.getElem?_eq_some_iff.mp hk).1
  obtain ⟨i, j, r, c, hi, hj, rfl⟩ := rows_index hr.1 (by rw [← hl]; exact hlt)
  obtain ⟨u, g1, g2⟩ := hr.2 i j r c hi hj
  rw [hk] at g1; cases g1
  exact ownCell_one g2

theorem appT_ne {t2 : TypeId} (h : appT P t2 = true) : ∃ d, P.underlying t2 = some d ∧ ∀ k, d ≠ .int k := by
  unfold appT at h
  split at h
  · cases h
  · rename_i d hd hn
    exact ⟨d, hn, fun k e => hd k e⟩
  · cases h

theorem notInt {d : TypeDesc} (h : ∀ k, d ≠ .int k) : (match d with | .int _ => true | _ => false) = false := by
  cases d <;> first | rfl | exact absurd rfl (h _)

/-- The built-in append, once what it appends to and what it appends are known. -/
theorem good_appJoin (h : InvS cx st sh a W Fr) (hd : ∀ d', o.dst = some d' → d' < cx.n) (hnid : ∀ k, k < 64 → Fr (nid + k)) (hpins : ∀ q ∈ cx.pins, q.1 < 1000) {s x : Operand} {t t2 : TypeId} (ho : o.op = .call ⟨.builtin .append, #[s, x], #[t, t2]⟩)
    {w bytes : Nat} {z : List Value} (ht : elemOf' P t = some (w, bytes, z)) (ht2 : appT P t2 = true) {ws : List (Nat × Option Obj')} {π : Lab → Lab} (g : Grafted cx st sh a W Fr nid ws π) {old more : Rows} {A : Option Addr} {cap : Nat} {cells : List Value}
    (hdst : Dst W (fun b => π (sh.lab b)) nid w old (a.eval s) A cap) (hl : cells.length = more.length * w) (hsrc : Src P W w more.length (a.eval x) cells) (hat : AtRep W (fun b => π (sh.lab b)) nid w old.length more cells)
    (hbig : (old.length + more.length + 1) * bytes ≤ 70368744177664) (hst : ∀ r ∈ old ++ more, ∀ s xs, Cell.sl s xs ∈ r → s = 0 ∨ ¬ Fr s) (hK : K ⟨.one (.ref nid w 0 (old.length + more.length)), (nid, some (w, old ++ more)) :: ws, []⟩) : Good P cx st Fr nid o a W K Q := by
  obtain ⟨el, info, hu, hin, hsz, hby, hz, hzl, hw0, hb0, hb1⟩ := elemOf_some ht
  unfold zeroOf at hz
  rw [hin] at hz
  simp only [Option.map_eq_some_iff] at hz
  obtain ⟨zv, hzv, rfl⟩ := hz
  have hzs : zv.cells.size = w := by simpa using hzl
  obtain ⟨d2, hu2, hd2⟩ := appT_ne ht2
  have hF0 : Fr nid := by simpa using hnid 0 (by omega)
  have hlo := h.low nid hF0
  obtain ⟨hval, hfit, hwide, hlies⟩ := hdst
  have hst' : ∀ r ∈ old ++ more, ∀ s xs, Cell.sl s xs ∈ r → ¬ (Fr s ∧ ¬ (nid ≤ s ∧ s < nid + 64)) := by
    intro r hr s xs hs
    rcases hst r hr s xs hs with rfl | hs'
    · rintro ⟨hq, _⟩
      have := h.low 0 hq; omega
    · exact fun hq => hs' hq.1
  have hlen : (old ++ more).length = old.length + more.length := by simp
  have hzer := notInt hd2
  have hrunv : ∀ (v : Value) (W1 : World), (Builtin.append_ #[t, t2] o.type #[.slice A old.length cap, a.eval x]).run P W = .ok v W1 → (execOp a.eval o).run P W = .ok (.value v) W1 := by
    intro v W1 hv
    simp only [execOp, ho, resolve, invoke, Sem.run_bind, builtin]
    simp [hval, hv, Sem.run_bind, Result.andThen, Sem.run_pure]
  subst hby
  have hmul : (old.length + more.length) * 1 ≤ (old.length + more.length) * info.bytes := Nat.mul_le_mul_left _ hb0
  have hmul2 : (old.length + more.length) * info.bytes ≤ (old.length + more.length + 1) * info.bytes := Nat.mul_le_mul_right _ (by omega)
  by_cases hneed : old.length + more.length ≤ cap
  · rcases hlies with ⟨hc0, hold⟩ | ⟨b, c, t', hA, hlab, hblk, hcs, hrows⟩
    · subst hold
      have hm0 : more = [] := List.length_eq_zero_iff.mp (by simp at hneed; omega)
      subst hm0
      subst hc0
      have hc : cells = [] := List.length_eq_zero_iff.mp (by rw [hl]; simp)
      subst hc
      refine good_addObj (W1 := W) hd hnid hpins g.inv (rows := [] ++ []) (n := 0) (cap := 0) (A := A) (hrunv _ _ ?_) rfl (.inl ⟨rfl, rfl⟩) ⟨hw0, by simp, .inl ⟨A, rfl, rfl⟩⟩ hst' hK
      have hg := hsrc.get W rfl
      have hln := hsrc.len W
      simp only [List.length_nil] at hg hln
      cases A with
      | none => simp [Builtin.append_, Sem.run_bind, run_under hu, run_under hu2, Result.andThen, run_size hin, hzer, hln, hg, hsz, Sem.run_pure]
      | some ad => simp [Builtin.append_, Sem.run_bind, run_under hu, run_under hu2, Result.andThen, run_size hin, hzer, hln, hg, hsz, storeCells, Sem.run_pure]
    · subst hA
      have hone := atRep_one hat hl
      have hfitc : old.length * w + cells.length ≤ c.size := by
        rw [hcs, hl, ← Nat.add_mul]; exact Nat.mul_le_mul_right w hneed
      have hstore := run_storeCells_at (P := P) b (old.length * w) t' cells 0 c W hblk (by omega) hone
      have hc2 : c.toList.take (old.length * w + 0) ++ cells ++ c.toList.drop (old.length * w + 0 + cells.length) = setRange c.toList (old.length * w) cells := by simp [setRange]
      have hfitl : old.length * w + cells.length ≤ c.toList.length := by simpa using hfitc
      have h2 := g.inv.write hpins (id := nid) (g.none nid ((h.fresh nid hF0).2.1)) hlab (setRange c.toList (old.length * w) cells).toArray
      have ag : Agree W (fun b => π (sh.lab b)) (W.setRow b (setRange c.toList (old.length * w) cells).toArray) (fun b => π (sh.lab b)) (· ≠ .own nid) := fun q hq => ⟨rfl, setRow_other _ _ _ _ (by rintro rfl; exact hq hlab)⟩
      refine good_addObj (W1 := W.setRow b (setRange c.toList (old.length * w) cells).toArray) hd hnid hpins h2 (rows := old ++ more) (n := old.length + more.length) (cap := cap) (A := some ⟨b, 0, none⟩) (hrunv _ _ ?_) hlen (.inr (by intro ad ha; cases ha; rfl)) ?_ hst' hK
      · have hg := hsrc.get W rfl
        have hln := hsrc.len W
        rw [hc2] at hstore
        subst hsz
        simp [Builtin.append_, run_underlying hu, run_underlying hu2, sizeOf, typeInfo, hin, hzer, hln, hneed, hg, add_mk]
        simp [hstore]
      · refine ⟨hw0, ?_, .inr ⟨b, cap, (setRange c.toList (old.length * w) cells).toArray, t', by rw [hlen], by rw [hlen]; exact hneed, hlab, setRow_heap _ _ _ _ _ _ hblk, ?_, ?_⟩⟩
        · intro r hr
          rcases List.mem_append.mp hr with hr | hr
          · exact hwide r hr
          · exact hat.1 r hr
        · rw [List.size_toArray, setRange_length hfitl, ← hcs]; simp
        · have hj := rowsRep_join hrows hat (call := setRange c.toList (old.length * w) cells) (fun k hk => by rw [setRange_get hfitl, if_pos hk]) (fun k hk => by
            rw [setRange_get hfitl, if_neg (by omega), if_pos (by omega)]; congr 1; omega)
          have hj2 := rowsRep_agree ag (by simp) (by simp) hj
          intro i j r y hi hj'
          obtain ⟨u, k1, k2⟩ := hj2.2 i j r y hi hj'
          exact ⟨u, by simpa using k1, k2⟩
  · have hcl : cap < old.length + more.length := by omega
    have holds : ∃ olds : List Value, olds.length = old.length * w ∧ (∀ W', W'.heap = W.heap → (Builtin.firstCells w old.length (.slice A old.length cap)).run P W' = .ok olds.toArray W') ∧ RowsRep W (fun b => π (sh.lab b)) nid w old olds := by
      rcases hlies with ⟨hc0, hold⟩ | ⟨b, c, t', hA, hlab, hblk, hcs, hrows⟩
      · subst hold
        obtain ⟨cl, h1, h2, _⟩ := src_slice (P := P) (W := W) (A := A) (n := 0) (cap := cap) (w := w) (fun hn => by simp at hn)
        exact ⟨cl, h1, h2.get, by simp, by simp⟩
      · have hin : ∀ k, k < old.length * w → ∃ u, c[k]? = some u := fun k hk => by
          have : k < c.size := by rw [hcs]; exact Nat.lt_of_lt_of_le hk (Nat.mul_le_mul_right w hfit)
          exact ⟨_, Array.getElem?_eq_getElem this⟩
        obtain ⟨cl, h1, h2, h3⟩ := src_slice (P := P) (W := W) (A := A) (n := old.length) (cap := cap) (w := w) (fun _ => ⟨b, 0, hA, fun k hk => by
              rw [cell_cells hblk, Nat.zero_add]; exact hin k hk⟩)
        refine ⟨cl, h1, h2.get, hrows.1, fun i j r x hi hj => ?_⟩
        obtain ⟨u, k1, k2⟩ := hrows.2 i j r x hi hj
        refine ⟨u, ?_, k2⟩
        rw [h3 b 0 hA _ (index_lt hrows.1 hi hj), cell_cells hblk, Nat.zero_add]; simpa using k1
    obtain ⟨olds, hol, hog, hrows⟩ := holds
    have hge := grownCap_ge W (old.length + more.length) cap el
    have hfits := growslice_fits hcl (bytes := info.bytes) (by omega)
    have h1 := g.inv.sameHeap hpins (W' := W.drew) rfl rfl rfl rfl
    have h2 := h1.alloc hpins (.cells (olds.toArray ++ cells.toArray ++ Builtin.zeroCells zv.cells (grownCap W (old.length + more.length) cap el - (old.length + more.length))) el) (.own nid)
    have ag := h1.agree_alloc (.cells (olds.toArray ++ cells.toArray ++ Builtin.zeroCells zv.cells (grownCap W (old.length + more.length) cap el - (old.length + more.length))) el) (.own nid)
    have ag0 : Agree W (fun b => π (sh.lab b)) W.drew (fun b => π (sh.lab b)) (fun _ => True) := fun b _ => ⟨rfl, rfl⟩
    refine good_addObj (W1 := W.drew.alloc (.cells (olds.toArray ++ cells.toArray ++ Builtin.zeroCells zv.cells (grownCap W (old.length + more.length) cap el - (old.length + more.length))) el)) hd hnid hpins h2 (rows := old ++ more) (n := old.length + more.length)
      (cap := grownCap W (old.length + more.length) cap el) (A := some ⟨W.heap.size, 0, none⟩) (hrunv _ _ ?_) hlen (.inr (by intro ad ha; cases ha; rfl)) ?_ hst' hK
    · have hg := hsrc.get W.drew rfl
      have hln := hsrc.len W
      have ho' := hog W.drew rfl
      have h63 : ¬ (9223372036854775807 < ((old.length : Int) + (more.length : Int))) := by omega
      have h48 : ¬ (281474976710656 < Builtin.nextslicecap (old.length + more.length) cap * info.bytes) := by omega
      subst hsz
      simp [Builtin.append_, run_underlying hu, run_underlying hu2, sizeOf, typeInfo, zeroValue, hin, hzv, hzer, hln, hneed, h63, h48, Question.forced, ho', hg, newRow, grownCap]
      congr 2
      apply Array.ext'
      simp [List.append_assoc]
    · refine ⟨hw0, ?_, .inr ⟨W.heap.size, grownCap W (old.length + more.length) cap el, _, el, by rw [hlen], by rw [hlen]; exact hge, if_pos rfl, by rw [alloc_get]; exact if_pos rfl, ?_, ?_⟩⟩
      · intro r hr
        rcases List.mem_append.mp hr with hr | hr
        · exact hwide r hr
        · exact hat.1 r hr
      · rw [Array.size_append, Array.size_append, size_zeroCells, hzs, List.size_toArray, List.size_toArray, hol, hl, ← Nat.add_mul, ← Nat.add_mul]
        congr 1; omega
      · have hj := rowsRep_join hrows hat (call := olds ++ (cells ++ (Builtin.zeroCells zv.cells (grownCap W (old.length + more.length) cap el - (old.length + more.length))).toList)) (fun k hk => by rw [List.getElem?_append_left (by omega)]) (fun k hk => by
          rw [List.getElem?_append_right (by omega), List.getElem?_append_left (by omega)]; congr 1; omega)
        have hj2 := rowsRep_agree ag (by simp) (by simp) (rowsRep_agree ag0 trivial (fun _ _ => trivial) hj)
        intro i j r y hi hj'
        obtain ⟨u, k1, k2⟩ := hj2.2 i j r y hi hj'
        refine ⟨u, ?_, k2⟩
        rw [← k1, ← Array.getElem?_toList]; simp
end app
end Go.Proofs.YtedciihjgbkjgacGreatDoor.A

/-! THE ABSTRACT SEMANTICS IS SOUND, fourteenth part: append as it is stated; stores into slices of one's own. Conditions: none. -/
namespace Go.Proofs.YtedciihjgbkjgacGreatDoor.A
open Go
set_option linter.unusedSimpArgs false
set_option linter.unusedVariables false

section app
variable {P : Program} {cx : Cx} {st : St} {sh : Sh} {a : Act} {W : World} {Fr : Nat → Prop} {nid : Nat} {o : Oper} {K : Eff → Prop} {Q : Exit → Act → World → Prop}

theorem good_append (h : InvS cx st sh a W Fr) (hd : ∀ d', o.dst = some d' → d' < cx.n) (hnid : ∀ k, k < 64 → Fr (nid + k)) (hpins : ∀ q ∈ cx.pins, q.1 < 1000) {s x : Operand} {t t2 : TypeId} (ho : o.op = .call ⟨.builtin .append, #[s, x], #[t, t2]⟩)
    {w bytes : Nat} {z : List Value} (ht : elemOf' P t = some (w, bytes, z)) (ht2 : appT P t2 = true) (hK : appK st nid w bytes (st.ev s) (st.ev x) K) : Good P cx st Fr nid o a W K Q := by
  have hF0 : Fr nid := by simpa using hnid 0 (by omega)
  have hn0 := (h.fresh nid hF0).2.1
  obtain ⟨_, _, _, _, _, _, _, _, hw0, _, _⟩ := elemOf_some ht
  have es := h.ev s
  have ex := h.ev x
  unfold appK at hK
  rcases hs : st.ev s with (sv | _) | _
  · rw [hs] at es hK
    have es : SVRep st W sh sv (a.eval s) := es
    cases sv with
    | sc v =>
      obtain ⟨more, ws, π, cells, hK, g, hl, hsrc, hat, hst⟩ := src_rep (P := P) h hpins hn0 ex hw0 0 hK
      obtain ⟨hn, hbig, hK⟩ := hK
      have es : a.eval s = v := es
      rw [isNil_eq hn] at es
      refine good_appJoin h hd hnid hpins ho ht ht2 g (old := []) (A := none) (cap := 0) ⟨by rw [es]; rfl, by simp, by simp, .inl ⟨rfl, rfl⟩⟩ hl hsrc hat (by simpa using hbig) (by simpa using hst) (by simpa using hK)
    | ref id w' off len =>
      rcases hob0 : st.objs id with _ | ⟨w0, rows0⟩
      · obtain ⟨more, ws, π, cells, hK, g, _⟩ := src_rep (P := P) h hpins hn0 ex hw0 0 hK
        simp only [g.none id hob0] at hK
      obtain ⟨more, ws, π, cells, hK, g, hl, hsrc, hat, hst⟩ := src_rep (P := P) h hpins hn0 ex hw0 rows0.length hK
      rcases hob : upd st.objs ws id with _ | ⟨w2, rows⟩
      · simp only [hob] at hK
      · simp only [hob] at hK
        obtain ⟨rfl, rfl, hlen, hbig, hK⟩ := hK
        obtain ⟨_, rows00, k1, k2, _⟩ := g.keep.objs id w2 rows (fun h => h) hob
        rw [hob0] at k1; cases k1
        have es' := svRep_keeps g.keep (fun _ _ h => h) es
        obtain ⟨hw2, π', A, cap, g', hdst⟩ := dst_ref g.inv hpins (g.none nid hn0) es' hob hlen
        have hat' := atRep_relab g'.good g'.mine hat
        rw [k2] at hat'
        refine good_appJoin h hd hnid hpins ho ht ht2 (grafted_comp g g') hdst hl hsrc hat' hbig (fun r hr q xs hq => ?_) hK
        rcases List.mem_append.mp hr with hr | hr
        · obtain ⟨i, hi⟩ := List.getElem?_of_mem hr
          obtain ⟨j, hj⟩ := List.getElem?_of_mem hq
          exact .inr (g.inv.stamps id _ rows i j q xs hob (by simp [Rows.cell, List.getD_eq_getElem?_getD, hi, hj]))
        · exact hst r hr q xs hq
    | rin id i j s0 off len =>
      rcases hob0 : st.objs id with _ | ⟨w0, rows0⟩
      · obtain ⟨more, ws, π, cells, hK, g, _⟩ := src_rep (P := P) h hpins hn0 ex hw0 0 hK
        simp only [g.none id hob0] at hK
      have hL : ∃ L, ∀ xs, Rows.cell rows0 i j = .sl s0 xs → xs.length = L := by
        rcases hc : Rows.cell rows0 i j with _ | ⟨s', xs⟩ | _
        · exact ⟨0, fun xs e => by cases e⟩
        · exact ⟨xs.length, fun xs' e => by cases e; rfl⟩
        · exact ⟨0, fun xs e => by cases e⟩
      obtain ⟨L, hL⟩ := hL
      obtain ⟨more, ws, π, cells, hK, g, hl, hsrc, hat, hst⟩ := src_rep (P := P) h hpins hn0 ex hw0 L hK
      rcases hob : upd st.objs ws id with _ | ⟨wo, rows⟩
      · simp only [hob] at hK
      · simp only [hob] at hK
        rcases hc : Rows.cell rows i j with _ | ⟨s', xs⟩ | _
        · rw [hc] at hK; exact hK.elim
        · rw [hc] at hK
          obtain ⟨rfl, rfl, rfl, hlen, hbig, hK⟩ := hK
          obtain ⟨_, rows00, k1, k2, k3⟩ := g.keep.objs id wo rows (fun h => h) hob
          rw [hob0] at k1; cases k1
          obtain ⟨xs0, c1, c2, _⟩ := k3 i j _ xs (fun h => h) es.1 hc
          have hxl : xs.length = L := by rw [← c2]; exact hL xs0 c1
          have es' := svRep_keeps g.keep (fun _ _ h => h) es
          obtain ⟨π', A, cap, g', hdst⟩ := dst_rin g.inv hpins (g.none nid hn0) es' hob hc hlen
          have hat' := atRep_relab g'.good g'.mine hat
          rw [← hxl] at hat'
          refine good_appJoin h hd hnid hpins ho ht ht2 (grafted_comp g g') hdst hl hsrc (by rw [lift_length]; exact hat') (by rw [lift_length]; exact hbig) (fun r hr q xs' hq => ?_) (by rw [lift_length]; exact hK)
          rcases List.mem_append.mp hr with hr | hr
          · exact .inl (flat_stamps (lift_flatB xs) hr hq)
          · exact hst r hr q xs' hq
        · rw [hc] at hK; exact hK.elim
    | _ =>
      obtain ⟨more, ws, π, cells, hK, g, _⟩ := src_rep (P := P) h hpins hn0 ex hw0 0 hK
      exact hK.elim
  · rw [hs] at hK
    obtain ⟨more, ws, π, cells, hK, g, _⟩ := src_rep (P := P) h hpins hn0 ex hw0 0 hK
    exact hK.elim
  · rw [hs] at hK
    obtain ⟨more, ws, π, cells, hK, g, _⟩ := src_rep (P := P) h hpins hn0 ex hw0 0 hK
    exact hK.elim
end app
end Go.Proofs.YtedciihjgbkjgacGreatDoor.A
