/- THE ABSTRACT SEMANTICS IS SOUND, seventeenth part: what a call is handed. Conditions: none. -/
import Derived.Test.YtkcbnbbbijlhcaiA20
namespace Go.Proofs.Ytkcbnbbbijlhcai.A
open Go
set_option linter.unusedSimpArgs false
set_option linter.unusedVariables false

/-- A leaf of a call: its number, what the caller knows, what the call is told, what comes back, the value. -/
structure CRow where
  k : Nat
  s : SV
  l : Leaf
  u : Leaf
  v : Value

def rowsLs : Nat → List SV → List Leaf → List Leaf → List Value → List CRow
  | k, s :: ss, l :: ls, u :: us, v :: vs => ⟨k, s, l, u, v⟩ :: rowsLs (k + 1) ss ls us vs
  | _, _, _, _, _ => []
def rowsPk (k : Nat) : Pk → LV → LV → Value → List CRow
  | .one s, .one l, .one u, v => [⟨k, s, l, u, v⟩]
  | .agg xs, .agg ls, .agg us, .agg cs => rowsLs k xs ls us cs.toList
  | _, _, _, _ => []
def rowsAll : Nat → List Pk → List LV → List LV → List Value → List CRow
  | k, p :: ps, l :: ls, u :: us, v :: vs => rowsPk k p l u v ++ rowsAll (k + 16) ps ls us vs
  | _, _, _, _, _ => []

section crows
variable {st : St} {W : World} {sh : Sh}

theorem rowsLs_rep : ∀ {k : Nat} {ss : List SV} {ls us : List Leaf} {vs : List Value}, All2 (SVRep st W sh) ss vs → All2 (pass st) ss ls → fitLeaves ss ls us → ∀ r ∈ rowsLs k ss ls us vs, SVRep st W sh r.s r.v ∧ pass st r.s r.l ∧ fitLeaf r.s r.l r.u
  | _, [], [], [], [], _, _, _ => by simp [rowsLs]
  | k, s :: ss, l :: ls, u :: us, v :: vs, ⟨h1, h2⟩, ⟨g1, g2⟩, ⟨f1, f2⟩ => by
    intro r hr
    simp only [rowsLs, List.mem_cons] at hr
    rcases hr with rfl | hr
    · exact ⟨h1, g1, f1⟩
    · exact rowsLs_rep h2 g2 f2 r hr
theorem rowsPk_rep {k : Nat} {p : Pk} {l u : LV} {v : Value} (h : PkRep st W sh p v) (g : passPk st p l) (f : fitPk p l u) : ∀ r ∈ rowsPk k p l u v, SVRep st W sh r.s r.v ∧ pass st r.s r.l ∧ fitLeaf r.s r.l r.u := by
  cases p with
  | one s => cases l with
    | one l => cases u with
      | one u => intro r hr; simp only [rowsPk, List.mem_singleton] at hr; subst hr; exact ⟨h, g, f⟩
      | agg us => exact f.elim
    | agg ls => exact g.elim
  | agg xs => cases l with
    | one l => exact g.elim
    | agg ls => cases u with
      | one u => exact f.elim
      | agg us =>
        obtain ⟨cs, e, h2⟩ := h
        subst e
        exact rowsLs_rep h2 g f
theorem rowsAll_rep : ∀ {k : Nat} {ps : List Pk} {ls us : List LV} {vs : List Value}, All2 (PkRep st W sh) ps vs → All2 (passPk st) ps ls → fits ps ls us → ∀ r ∈ rowsAll k ps ls us vs, SVRep st W sh r.s r.v ∧ pass st r.s r.l ∧ fitLeaf r.s r.l r.u
  | _, [], [], [], [], _, _, _ => by simp [rowsAll]
  | k, p :: ps, l :: ls, u :: us, v :: vs, ⟨h1, h2⟩, ⟨g1, g2⟩, ⟨f1, f2⟩ => by
    intro r hr
    simp only [rowsAll, List.mem_append] at hr
    rcases hr with hr | hr
    · exact rowsPk_rep h1 g1 f1 r hr
    · exact rowsAll_rep h2 g2 f2 r hr

theorem rowsLs_leaves {W' : World} {lab : Nat → Lab} : ∀ {k : Nat} {ss : List SV} {ls us : List Leaf} {vs : List Value}, All2 (SVRep st W sh) ss vs → All2 (pass st) ss ls → fitLeaves ss ls us → (∀ r ∈ rowsLs k ss ls us vs, LeafRep W' lab r.k r.l r.v) → LeavesRep W' lab k ls vs
  | _, [], [], [], [], _, _, _, _ => trivial
  | k, s :: ss, l :: ls, u :: us, v :: vs, ⟨h1, h2⟩, ⟨g1, g2⟩, ⟨f1, f2⟩, h => by
    refine ⟨h ⟨k, s, l, u, v⟩ (by simp [rowsLs]), rowsLs_leaves h2 g2 f2 fun r hr => h r (by simp [rowsLs, hr])⟩
theorem rowsAll_leaves {W' : World} {lab : Nat → Lab} : ∀ {k : Nat} {ps : List Pk} {ls us : List LV} {vs : List Value}, All2 (PkRep st W sh) ps vs → All2 (passPk st) ps ls → fits ps ls us → (∀ r ∈ rowsAll k ps ls us vs, LeafRep W' lab r.k r.l r.v) → LVsRep W' lab k ls vs
  | _, [], [], [], [], _, _, _, _ => trivial
  | k, p :: ps, l :: ls, u :: us, v :: vs, ⟨h1, h2⟩, ⟨g1, g2⟩, ⟨f1, f2⟩, h => by
    refine ⟨?_, rowsAll_leaves h2 g2 f2 fun r hr => h r (by simp [rowsAll, hr])⟩
    have h' : ∀ r ∈ rowsPk k p l u v, LeafRep W' lab r.k r.l r.v := fun r hr => h r (by simp [rowsAll, hr])
    cases p with
    | one s => cases l with
      | one l => cases u with
        | one u => exact h' ⟨k, s, l, u, v⟩ (by simp [rowsPk])
        | agg us => exact f1.elim
      | agg ls => exact g1.elim
    | agg xs => cases l with
      | one l => exact g1.elim
      | agg ls => cases u with
        | one u => exact f1.elim
        | agg us =>
          obtain ⟨cs, e, h3⟩ := h1
          subst e
          exact ⟨cs, rfl, rowsLs_leaves h3 g1 f1 h'⟩
theorem rowsLs_back {W' : World} {lab : Nat → Lab} : ∀ {k : Nat} {ss : List SV} {ls us : List Leaf} {vs : List Value}, LeavesRep W' lab k us vs → fitLeaves ss ls us → ∀ r ∈ rowsLs k ss ls us vs, LeafRep W' lab r.k r.u r.v
  | _, [], [], [], [], _, _ => by simp [rowsLs]
  | k, s :: ss, l :: ls, u :: us, v :: vs, ⟨h1, h2⟩, ⟨f1, f2⟩ => by
    intro r hr
    simp only [rowsLs, List.mem_cons] at hr
    rcases hr with rfl | hr
    · exact h1
    · exact rowsLs_back h2 f2 r hr
  | _, [], [], [], _ :: _, h, _ => h.elim
  | _, _ :: _, _ :: _, _ :: _, [], h, _ => h.elim
theorem rowsAll_back {W' : World} {lab : Nat → Lab} : ∀ {k : Nat} {ps : List Pk} {ls us : List LV} {vs : List Value}, LVsRep W' lab k us vs → All2 (passPk st) ps ls → fits ps ls us → ∀ r ∈ rowsAll k ps ls us vs, LeafRep W' lab r.k r.u r.v
  | _, [], [], [], [], _, _, _ => by simp [rowsAll]
  | k, p :: ps, l :: ls, u :: us, v :: vs, ⟨h1, h2⟩, ⟨g1, g2⟩, ⟨f1, f2⟩ => by
    intro r hr
    simp only [rowsAll, List.mem_append] at hr
    rcases hr with hr | hr
    · cases p with
      | one s => cases l with
        | one l => cases u with
          | one u => simp only [rowsPk, List.mem_singleton] at hr; subst hr; exact h1
          | agg us => exact f1.elim
        | agg ls => exact g1.elim
      | agg xs => cases l with
        | one l => exact g1.elim
        | agg ls => cases u with
          | one u => exact f1.elim
          | agg us =>
            obtain ⟨cs, e, h3⟩ := h1
            subst e
            exact rowsLs_back h3 f1 r hr
    · exact rowsAll_back h2 g2 f2 r hr
  | _, [], [], [], _ :: _, h, _, _ => h.elim
  | _, _ :: _, _ :: _, _ :: _, [], h, _, _ => h.elim

/-! #### the leaves' numbers -/
theorem rowsLs_keys : ∀ {k : Nat} {ss : List SV} {ls us : List Leaf} {vs : List Value}, (∀ r ∈ rowsLs k ss ls us vs, k ≤ r.k ∧ r.k < k + ls.length) ∧ ((rowsLs k ss ls us vs).map (·.k)).Nodup
  | k, s :: ss, l :: ls, u :: us, v :: vs => by
    obtain ⟨h1, h2⟩ := rowsLs_keys (k := k + 1) (ss := ss) (ls := ls) (us := us) (vs := vs)
    constructor
    · intro r hr
      simp only [rowsLs, List.mem_cons] at hr
      rcases hr with rfl | hr
      · simp
      · have := h1 r hr
        simp only [List.length_cons]; omega
    · simp only [rowsLs, List.map_cons, List.nodup_cons]
      refine ⟨fun hm => ?_, h2⟩
      obtain ⟨r, hr, e⟩ := List.mem_map.mp hm
      have := h1 r hr
      omega
  | _, [], _, _, _ => by simp [rowsLs]
  | _, _ :: _, [], _, _ => by simp [rowsLs]
  | _, _ :: _, _ :: _, [], _ => by simp [rowsLs]
  | _, _ :: _, _ :: _, _ :: _, [] => by simp [rowsLs]
theorem rowsPk_keys {k : Nat} {p : Pk} {l u : LV} {v : Value} (hl : l.leaves.length ≤ 16) : (∀ r ∈ rowsPk k p l u v, k ≤ r.k ∧ r.k < k + 16) ∧ ((rowsPk k p l u v).map (·.k)).Nodup := by
  unfold rowsPk
  split
  · simp
  · rename_i xs ls us cs
    obtain ⟨h1, h2⟩ := rowsLs_keys (k := k) (ss := xs) (ls := ls) (us := us) (vs := cs.toList)
    refine ⟨fun r hr => ?_, h2⟩
    have := h1 r hr
    simp only [LV.leaves] at hl
    omega
  · simp
theorem rowsAll_keys : ∀ {k : Nat} {ps : List Pk} {ls us : List LV} {vs : List Value}, (∀ l ∈ ls, l.leaves.length ≤ 16) → (∀ r ∈ rowsAll k ps ls us vs, k ≤ r.k ∧ r.k < k + 16 * ls.length) ∧ ((rowsAll k ps ls us vs).map (·.k)).Nodup
  | k, p :: ps, l :: ls, u :: us, v :: vs, hl => by
    obtain ⟨h1, h2⟩ := rowsAll_keys (k := k + 16) (ps := ps) (ls := ls) (us := us) (vs := vs) (fun l m => hl l (by simp [m]))
    obtain ⟨g1, g2⟩ := rowsPk_keys (k := k) (p := p) (u := u) (v := v) (hl l (by simp))
    constructor
    · intro r hr
      simp only [rowsAll, List.mem_append] at hr
      simp only [List.length_cons]
      rcases hr with hr | hr
      · have := g1 r hr; omega
      · have := h1 r hr; omega
    · simp only [rowsAll, List.map_append]
      rw [List.nodup_append]
      refine ⟨g2, h2, fun x hx y hy => ?_⟩
      obtain ⟨r, hr, rfl⟩ := List.mem_map.mp hx
      obtain ⟨r', hr', rfl⟩ := List.mem_map.mp hy
      have a1 := g1 r hr
      have a2 := h1 r' hr'
      omega
  | _, [], _, _, _, _ => by simp [rowsAll]
  | _, _ :: _, [], _, _, _ => by simp [rowsAll]
  | _, _ :: _, _ :: _, [], _, _ => by simp [rowsAll]
  | _, _ :: _, _ :: _, _ :: _, [], _ => by simp [rowsAll]

/-! #### what is read off the leaves -/
theorem rowsLs_flat {δ : Type} (f : SV → Leaf → List δ) : ∀ {k : Nat} {ss : List SV} {ls us : List Leaf} {vs : List Value}, All2 (SVRep st W sh) ss vs → All2 (pass st) ss ls → fitLeaves ss ls us → (rowsLs k ss ls us vs).flatMap (fun r => f r.s r.l) = (List.zipWith f ss ls).flatten
  | _, [], [], [], [], _, _, _ => rfl
  | k, s :: ss, l :: ls, u :: us, v :: vs, ⟨_, h2⟩, ⟨_, g2⟩, ⟨_, f2⟩ => by
    simp only [rowsLs, List.flatMap_cons, List.zipWith_cons_cons, List.flatten_cons, rowsLs_flat f h2 g2 f2]
theorem rowsLs_flat3 {δ : Type} (f : SV → Leaf → Leaf → List δ) : ∀ {k : Nat} {ss : List SV} {ls us : List Leaf} {vs : List Value}, All2 (SVRep st W sh) ss vs → All2 (pass st) ss ls → fitLeaves ss ls us → (rowsLs k ss ls us vs).flatMap (fun r => f r.s r.l r.u) = zip3 f ss ls us
  | _, [], [], [], [], _, _, _ => rfl
  | k, s :: ss, l :: ls, u :: us, v :: vs, ⟨_, h2⟩, ⟨_, g2⟩, ⟨_, f2⟩ => by
    simp only [rowsLs, List.flatMap_cons, zip3, rowsLs_flat3 f h2 g2 f2]
theorem rowsPk_hand {k : Nat} {p : Pk} {l u : LV} {v : Value} (h : PkRep st W sh p v) (g : passPk st p l) (f : fitPk p l u) : (rowsPk k p l u v).flatMap (fun r => handLeaf r.s r.l) = handPk p l ∧ (rowsPk k p l u v).flatMap (fun r => lends st r.s r.l) = lendsPk st p l ∧
    ∀ {δ : Type} (q : SV → Leaf → Leaf → List δ), (rowsPk k p l u v).flatMap (fun r => q r.s r.l r.u) = updPk q p l u := by
  cases p with
  | one s => cases l with
    | one l => cases u with
      | one u => simp [rowsPk, handPk, lendsPk, updPk]
      | agg us => exact f.elim
    | agg ls => exact g.elim
  | agg xs => cases l with
    | one l => exact g.elim
    | agg ls => cases u with
      | one u => exact f.elim
      | agg us =>
        obtain ⟨cs, e, h2⟩ := h
        subst e
        exact ⟨rowsLs_flat _ h2 g f, rowsLs_flat _ h2 g f, fun q => rowsLs_flat3 q h2 g f⟩
theorem rowsAll_hand : ∀ {k : Nat} {ps : List Pk} {ls us : List LV} {vs : List Value}, All2 (PkRep st W sh) ps vs → All2 (passPk st) ps ls → fits ps ls us →
    (rowsAll k ps ls us vs).flatMap (fun r => handLeaf r.s r.l) = (List.zipWith handPk ps ls).flatten ∧ (rowsAll k ps ls us vs).flatMap (fun r => lends st r.s r.l) = (List.zipWith (lendsPk st) ps ls).flatten ∧
    ∀ {δ : Type} (q : SV → Leaf → Leaf → List δ), (rowsAll k ps ls us vs).flatMap (fun r => q r.s r.l r.u) = zip3 (updPk q) ps ls us
  | _, [], [], [], [], _, _, _ => ⟨rfl, rfl, fun q => rfl⟩
  | k, p :: ps, l :: ls, u :: us, v :: vs, ⟨h1, h2⟩, ⟨g1, g2⟩, ⟨f1, f2⟩ => by
    obtain ⟨a1, a2, a3⟩ := rowsPk_hand (k := k) h1 g1 f1
    obtain ⟨b1, b2, b3⟩ := rowsAll_hand (k := k + 16) h2 g2 f2
    refine ⟨?_, ?_, fun q => ?_⟩
    · simp only [rowsAll, List.flatMap_append, List.zipWith_cons_cons, List.flatten_cons, a1, b1]
    · simp only [rowsAll, List.flatMap_append, List.zipWith_cons_cons, List.flatten_cons, a2, b2]
    · simp only [rowsAll, List.flatMap_append, zip3, a3 q, b3 q]
theorem nodup_flatMap {α β : Type} {f : α → List β} : ∀ {l : List α}, (l.flatMap f).Nodup → ∀ r ∈ l, ∀ r' ∈ l, ∀ x, x ∈ f r → x ∈ f r' → r = r'
  | [], _, r, hr, _, _, _, _, _ => by cases hr
  | a :: l, h, r, hr, r', hr', x, hx, hx' => by
    rw [List.flatMap_cons, List.nodup_append] at h
    obtain ⟨_, h2, h3⟩ := h
    rcases List.mem_cons.mp hr with e | hr
    · rcases List.mem_cons.mp hr' with e' | hr'
      · rw [e, e']
      · rw [e] at hx
        exact absurd rfl (h3 x hx x (List.mem_flatMap.mpr ⟨r', hr', hx'⟩))
    · rcases List.mem_cons.mp hr' with e' | hr'
      · rw [e'] at hx'
        exact absurd rfl (h3 x hx' x (List.mem_flatMap.mpr ⟨r, hr, hx⟩))
      · exact nodup_flatMap h2 r hr r' hr' x hx hx'
theorem nodup_map {α β : Type} {f : α → β} : ∀ {l : List α}, (l.map f).Nodup → ∀ r ∈ l, ∀ r' ∈ l, f r = f r' → r = r'
  | [], _, r, hr, _, _, _ => by cases hr
  | a :: l, h, r, hr, r', hr', e => by
    rw [List.map_cons, List.nodup_cons] at h
    rcases List.mem_cons.mp hr with e1 | hr
    · rcases List.mem_cons.mp hr' with e2 | hr'
      · rw [e1, e2]
      · rw [e1] at e
        exact absurd (List.mem_map.mpr ⟨r', hr', e.symm⟩) h.1
    · rcases List.mem_cons.mp hr' with e2 | hr'
      · rw [e2] at e
        exact absurd (List.mem_map.mpr ⟨r, hr, e⟩) h.1
      · exact nodup_map h.2 r hr r' hr' e
end crows
end Go.Proofs.Ytkcbnbbbijlhcai.A
