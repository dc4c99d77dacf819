/- THE ABSTRACT SEMANTICS IS SOUND, twenty-seventh part: a frame's entry. Conditions: none. -/
import Derived.Test.YtkcbnbbbijlhcaiA30
namespace Go.Proofs.Ytkcbnbbbijlhcai.A
open Go
set_option linter.unusedSimpArgs false
set_option linter.unusedVariables false

structure ARow where
  k : Nat
  l : Leaf
  v : Value
def aLs : Nat → List Leaf → List Value → List ARow
  | k, l :: ls, v :: vs => ⟨k, l, v⟩ :: aLs (k + 1) ls vs
  | _, _, _ => []
def aPk (k : Nat) : LV → Value → List ARow
  | .one l, v => [⟨k, l, v⟩]
  | .agg ls, .agg cs => aLs k ls cs.toList
  | _, _ => []
def aAll : Nat → List LV → List Value → List ARow
  | k, l :: ls, v :: vs => aPk k l v ++ aAll (k + 16) ls vs
  | _, _, _ => []

section entry
variable {W : World} {lab : Nat → Lab}
theorem aLs_rep : ∀ {k : Nat} {ls : List Leaf} {vs : List Value}, LeavesRep W lab k ls vs → ∀ r ∈ aLs k ls vs, LeafRep W lab r.k r.l r.v
  | _, [], [], _ => by simp [aLs]
  | k, l :: ls, v :: vs, ⟨h1, h2⟩ => by
    intro r hr
    simp only [aLs, List.mem_cons] at hr
    rcases hr with rfl | hr
    · exact h1
    · exact aLs_rep h2 r hr
  | _, [], _ :: _, h => h.elim
  | _, _ :: _, [], h => h.elim
theorem aAll_rep : ∀ {k : Nat} {ls : List LV} {vs : List Value}, LVsRep W lab k ls vs → ∀ r ∈ aAll k ls vs, LeafRep W lab r.k r.l r.v
  | _, [], [], _ => by simp [aAll]
  | k, l :: ls, v :: vs, ⟨h1, h2⟩ => by
    intro r hr
    simp only [aAll, List.mem_append] at hr
    rcases hr with hr | hr
    · cases l with
      | one l => simp only [aPk, List.mem_singleton] at hr; subst hr; exact h1
      | agg ls =>
        obtain ⟨cs, rfl, h3⟩ := h1
        exact aLs_rep h3 r hr
    · exact aAll_rep h2 r hr
  | _, [], _ :: _, h => h.elim
  | _, _ :: _, [], h => h.elim
theorem aLs_keys : ∀ {k : Nat} {ls : List Leaf} {vs : List Value}, (∀ r ∈ aLs k ls vs, k ≤ r.k ∧ r.k < k + ls.length) ∧ ((aLs k ls vs).map (·.k)).Nodup
  | k, l :: ls, v :: vs => by
    obtain ⟨h1, h2⟩ := aLs_keys (k := k + 1) (ls := ls) (vs := vs)
    constructor
    · intro r hr
      simp only [aLs, List.mem_cons] at hr
      simp only [List.length_cons]
      rcases hr with rfl | hr
      · simp
      · have := h1 r hr; omega
    · simp only [aLs, List.map_cons, List.nodup_cons]
      refine ⟨fun hm => ?_, h2⟩
      obtain ⟨r, hr, e⟩ := List.mem_map.mp hm
      have := h1 r hr
      omega
  | _, [], _ => by simp [aLs]
  | _, _ :: _, [] => by simp [aLs]
theorem aPk_keys {k : Nat} {l : LV} {v : Value} (hl : l.leaves.length ≤ 16) : (∀ r ∈ aPk k l v, k ≤ r.k ∧ r.k < k + 16) ∧ ((aPk k l v).map (·.k)).Nodup := by
  unfold aPk
  split
  · simp
  · rename_i ls cs
    obtain ⟨h1, h2⟩ := aLs_keys (k := k) (ls := ls) (vs := cs.toList)
    refine ⟨fun r hr => ?_, h2⟩
    have := h1 r hr
    simp only [LV.leaves] at hl
    omega
  · simp
theorem aAll_keys : ∀ {k : Nat} {ls : List LV} {vs : List Value}, (∀ l ∈ ls, l.leaves.length ≤ 16) → (∀ r ∈ aAll k ls vs, k ≤ r.k ∧ r.k < k + 16 * ls.length) ∧ ((aAll k ls vs).map (·.k)).Nodup
  | k, l :: ls, v :: vs, hl => by
    obtain ⟨h1, h2⟩ := aAll_keys (k := k + 16) (ls := ls) (vs := vs) (fun l m => hl l (by simp [m]))
    obtain ⟨g1, g2⟩ := aPk_keys (k := k) (v := v) (hl l (by simp))
    constructor
    · intro r hr
      simp only [aAll, List.mem_append] at hr
      simp only [List.length_cons]
      rcases hr with hr | hr
      · have := g1 r hr; omega
      · have := h1 r hr; omega
    · simp only [aAll, List.map_append]
      rw [List.nodup_append]
      refine ⟨g2, h2, fun x hx y hy => ?_⟩
      obtain ⟨r, hr, rfl⟩ := List.mem_map.mp hx
      obtain ⟨r', hr', rfl⟩ := List.mem_map.mp hy
      have a1 := g1 r hr
      have a2 := h1 r' hr'
      omega
  | _, [], _, _ => by simp [aAll]
  | _, _ :: _, [], _ => by simp [aAll]
theorem aLs_eff {δ : Type} (f : Nat → Leaf → List δ) : ∀ {k : Nat} {ls : List Leaf} {vs : List Value}, LeavesRep W lab k ls vs → (aLs k ls vs).flatMap (fun r => f r.k r.l) = leavesEff f k ls
  | _, [], [], _ => rfl
  | k, l :: ls, v :: vs, ⟨_, h2⟩ => by simp only [aLs, List.flatMap_cons, leavesEff, aLs_eff f h2]
  | _, [], _ :: _, h => h.elim
  | _, _ :: _, [], h => h.elim
theorem aAll_eff {δ : Type} (f : Nat → Leaf → List δ) : ∀ {k : Nat} {ls : List LV} {vs : List Value}, LVsRep W lab k ls vs → (aAll k ls vs).flatMap (fun r => f r.k r.l) = resEff f k ls
  | _, [], [], _ => rfl
  | k, l :: ls, v :: vs, ⟨h1, h2⟩ => by
    have e : (aPk k l v).flatMap (fun r => f r.k r.l) = leavesEff f k l.leaves := by
      cases l with
      | one l => simp [aPk, LV.leaves, leavesEff]
      | agg ls =>
        obtain ⟨cs, rfl, h3⟩ := h1
        exact aLs_eff f h3
    simp only [aAll, List.flatMap_append, resEff, aAll_eff f h2, e]
  | _, [], _ :: _, h => h.elim
  | _, _ :: _, [], h => h.elim

def headerOf (R : List ARow) (id : Nat) : Value := ((R.find? (·.k == id)).map (·.v)).getD default
def blockOf (R : List ARow) (id : Nat) : Nat := match headerOf R id with
  | .pointer (some ⟨b, _, _⟩) => b
  | _ => 0
theorem header_row : ∀ {R : List ARow} {r : ARow}, (R.map (·.k)).Nodup → r ∈ R → headerOf R r.k = r.v
  | x :: R, r, hn, hr => by
    rw [List.map_cons, List.nodup_cons] at hn
    unfold headerOf
    rw [List.find?_cons]
    rcases List.mem_cons.mp hr with rfl | hr
    · simp
    · have hne : ¬ x.k = r.k := fun e => hn.1 (List.mem_map.mpr ⟨r, hr, e.symm⟩)
      have : (x.k == r.k) = false := by simpa using hne
      rw [this]
      exact header_row hn.2 hr

theorem start_mem {δ : Type} {f : Nat → Leaf → List (Nat × Option δ)} {args : List LV} {vs : List Value} (hrep : LVsRep W lab 0 args vs) {id : Nat} {x : δ} (h : upd (fun _ => none) (resEff f 0 args) id = some x) : ∃ r ∈ aAll 0 args vs, (id, some x) ∈ f r.k r.l := by
  rw [← aAll_eff f hrep] at h
  rcases upd_get (fun _ => none) id ((aAll 0 args vs).flatMap fun r => f r.k r.l) with ⟨_, e⟩ | ⟨y, hm, e⟩
  · rw [e] at h; cases h
  · rw [e] at h
    subst h
    exact List.mem_flatMap.mp hm
theorem start_obj {args : List LV} {vs : List Value} (hrep : LVsRep W lab 0 args vs) {id w : Nat} {rows : Rows} (h : (startOf args).objs id = some (w, rows)) : ∃ r ∈ aAll 0 args vs, r.k = id ∧ r.l = .ow w rows := by
  obtain ⟨r, hr, hm⟩ := start_mem (f := resLeafO) hrep h
  refine ⟨r, hr, ?_⟩
  rcases hl : r.l with _ | _ | ⟨w', rows'⟩ | _ | _ | _ | _ <;> rw [hl] at hm <;> simp [resLeafO] at hm
  exact ⟨hm.1.symm, by rw [hm.2.1, hm.2.2]⟩
theorem start_var {args : List LV} {vs : List Value} (hrep : LVsRep W lab 0 args vs) {id : Nat} {fs : List SV} (h : (startOf args).vars id = some fs) : ∃ r ∈ aAll 0 args vs, r.k = id ∧ ∃ gs, r.l = .op gs ∧ fs = gs.map Fld.sv := by
  obtain ⟨r, hr, hm⟩ := start_mem (f := resLeafV) hrep h
  refine ⟨r, hr, ?_⟩
  rcases hl : r.l with _ | _ | _ | _ | _ | gs | _ <;> rw [hl] at hm <;> simp [resLeafV] at hm
  exact ⟨hm.1.symm, gs, rfl, hm.2⟩
variable {args : List LV} {vs : List Value}
def sh0 (lab : Nat → Lab) (args : List LV) (vs : List Value) : Sh := ⟨lab, headerOf (aAll 0 args vs), blockOf (aAll 0 args vs)⟩
theorem block_row {r : ARow} (hn : ((aAll 0 args vs).map (·.k)).Nodup) (hr : r ∈ aAll 0 args vs) {b : Nat} (e : r.v = .pointer (some ⟨b, 0, none⟩)) : blockOf (aAll 0 args vs) r.k = b := by
  unfold blockOf
  rw [header_row hn hr, e]
theorem argSV_rep (hn : ((aAll 0 args vs).map (·.k)).Nodup) (hrep : LVsRep W lab 0 args vs) {r : ARow} (hr : r ∈ aAll 0 args vs) : SVRep (startOf args) W (sh0 lab args vs) (argSV r.k r.l) r.v := by
  have hl := aAll_rep hrep r hr
  have same : ∀ r' ∈ aAll 0 args vs, r'.k = r.k → r' = r := fun r' hr' e => nodup_map hn r' hr' r hr e
  have hh := header_row hn hr
  obtain ⟨k, l, v⟩ := r
  simp only at hl hh same
  cases l with
  | sc x => exact hl
  | im w rows => exact hl
  | gone => trivial
  | ip fs => exact hl
  | fn f caps => exact hl
  | ow w rows =>
    intro w' rows' ho
    obtain ⟨r', hr', e1, e2⟩ := start_obj hrep ho
    have := same r' hr' e1
    subst this
    simp only [Leaf.ow.injEq] at e2
    obtain ⟨rfl, rfl⟩ := e2
    refine ⟨rfl, by omega, ?_⟩
    show ViewIs (headerOf (aAll 0 args vs) k) w 0 rows.length v
    rw [hh]
    obtain ⟨_, _, ⟨A, e, hn⟩ | ⟨b, cap, c, t, e, _⟩⟩ := hl.1
    · subst hn; exact .inr ⟨rfl, A, e⟩
    · left
      rw [e, viewOf_full]
      intro ad ha; cases ha; rfl
  | op fs =>
    intro fs' hf
    obtain ⟨b, c, t, e, _⟩ := hl
    show v = .pointer (some ⟨blockOf (aAll 0 args vs) k, 0, none⟩)
    rw [block_row hn hr e]; exact e
theorem argLeaves_rep (hn : ((aAll 0 args vs).map (·.k)).Nodup) (hrep : LVsRep W lab 0 args vs) : ∀ {k : Nat} {ls : List Leaf} {us : List Value}, LeavesRep W lab k ls us → (∀ r ∈ aLs k ls us, r ∈ aAll 0 args vs) → All2 (SVRep (startOf args) W (sh0 lab args vs)) (argLeaves k ls) us
  | _, [], [], _, _ => trivial
  | k, l :: ls, v :: us, ⟨_, h2⟩, hm => ⟨argSV_rep hn hrep (r := ⟨k, l, v⟩) (hm _ (by simp [aLs])), argLeaves_rep hn hrep h2 fun r hr => hm r (by simp [aLs, hr])⟩
  | _, [], _ :: _, h, _ => h.elim
  | _, _ :: _, [], h, _ => h.elim
theorem argPk_rep (hn : ((aAll 0 args vs).map (·.k)).Nodup) (hrep : LVsRep W lab 0 args vs) {k : Nat} {l : LV} {v : Value} (h : LVRep W lab k l v) (hm : ∀ r ∈ aPk k l v, r ∈ aAll 0 args vs) : PkRep (startOf args) W (sh0 lab args vs) (argPk k l) v := by
  cases l with
  | one l => exact argSV_rep hn hrep (r := ⟨k, l, v⟩) (hm _ (by simp [aPk]))
  | agg ls =>
    obtain ⟨cs, rfl, h3⟩ := h
    exact ⟨cs, rfl, argLeaves_rep hn hrep h3 hm⟩
theorem argSlots_rep (hn : ((aAll 0 args vs).map (·.k)).Nodup) (hrep : LVsRep W lab 0 args vs) : ∀ {t0 k : Nat} {ls : List LV} {us : List Value}, LVsRep W lab k ls us → (∀ r ∈ aAll k ls us, r ∈ aAll 0 args vs) → ∀ (t : Nat) (v : Value), (t0 ≤ t → us[t - t0]? = some v ∨ us[t - t0]? = none) → AVRep (startOf args) W (sh0 lab args vs) (argSlots t0 k ls t) v
  | t0, k, [], [], _, _, t, v, _ => trivial
  | t0, k, l :: ls, u :: us, ⟨h1, h2⟩, hm, t, v, hv => by
    unfold argSlots
    split
    · rename_i e
      subst e
      have := hv (Nat.le_refl _)
      simp at this
      subst this
      exact argPk_rep hn hrep h1 fun r hr => hm r (by simp [aAll, hr])
    · rename_i e
      refine argSlots_rep hn hrep h2 (fun r hr => hm r (by simp [aAll, hr])) t v fun hle => ?_
      have := hv (by omega)
      rw [show t - t0 = (t - (t0 + 1)) + 1 by omega] at this
      simpa using this
  | _, _, [], _ :: _, h, _, _, _, _ => h.elim
  | _, _, _ :: _, [], h, _, _, _, _ => h.elim
end entry
end Go.Proofs.Ytkcbnbbbijlhcai.A
