
/- WHAT AN ATOM ATTACKS: the plain law. Conditions: none. (No program in sight but the names.) -/
import Derived.Test.YtoinfljgjdmooaaAFCl3
namespace Go.Proofs.Ytoinfljgjdmooaa.A
open Go
set_option linter.unusedSimpArgs false
set_option linter.unusedVariables false

section gen
variable {cond : Nat → List Int → Bool} {v : Nat → List Int} {c : List Int} {n : Nat}
/-- A set takes in the i-th list if a condition holds. -/
def fireG (cond : Nat → List Int → Bool) (v : Nat → List Int) (c : List Int) (i : Nat) : List Int := if cond i c then uni c (v i) else c
def passG (cond : Nat → List Int → Bool) (v : Nat → List Int) (c : List Int) : Nat → List Int
  | 0 => c
  | k + 1 => fireG cond v (passG cond v c k) k
theorem fireG_sub {i : Nat} : ∀ x ∈ c, x ∈ fireG cond v c i := by
  intro x hx
  unfold fireG
  split
  · exact (uni_mem _ _ _).mpr (.inl hx)
  · exact hx
theorem fireG_small (hv : ∀ i, ∀ x ∈ v i, 0 ≤ x ∧ x < 4) {i : Nat} (h : Small c) : Small (fireG cond v c i) := by
  unfold fireG
  split
  · exact h.uni (hv i)
  · exact h
theorem passG_sub : ∀ {k : Nat}, ∀ x ∈ c, x ∈ passG cond v c k
  | 0, x, hx => hx
  | k + 1, x, hx => fireG_sub x (passG_sub (k := k) x hx)
theorem passG_mono : ∀ {k m : Nat}, k ≤ m → ∀ x ∈ passG cond v c k, x ∈ passG cond v c m
  | k, 0, h, x, hx => by rw [show k = 0 by omega] at hx; exact hx
  | k, m + 1, h, x, hx => by
    by_cases e : k = m + 1
    · rw [← e]; exact hx
    · exact fireG_sub x (passG_mono (k := k) (m := m) (by omega) x hx)
theorem passG_small (hv : ∀ i, ∀ x ∈ v i, 0 ≤ x ∧ x < 4) (h : Small c) : ∀ {k : Nat}, Small (passG cond v c k)
  | 0 => h
  | k + 1 => fireG_small hv (passG_small hv h (k := k))
theorem passG_new (hv : ∀ i, ∀ x ∈ v i, 0 ≤ x ∧ x < 4) (h : Small c) : ∀ (k : Nat), passG cond v c k = c ∨ ∃ i, i < k ∧ subs (v i) c = false ∧ subs (v i) (passG cond v c k) = true
  | 0 => .inl rfl
  | k + 1 => by
    have ih := passG_new hv h k
    rcases ih with ih | ⟨i, hi, h1, h2⟩
    · rw [passG, ih]
      unfold fireG
      split
      · rcases hs : subs (v k) c
        · exact .inr ⟨k, by omega, hs, subs_iff.mpr fun x hx => (uni_mem _ _ _).mpr (.inr hx)⟩
        · exact .inl (uni_same h.strict (subs_iff.mp hs))
      · exact .inl rfl
    · exact .inr ⟨i, by omega, h1, subs_iff.mpr fun x hx => fireG_sub x (subs_iff.mp h2 x hx)⟩
def tookG (v : Nat → List Int) (c : List Int) (n : Nat) : List Nat := (List.range n).filter fun i => subs (v i) c
theorem tookG_le (v : Nat → List Int) (c : List Int) (n : Nat) : (tookG v c n).length ≤ n := by
  unfold tookG; exact Nat.le_trans (List.length_filter_le _ _) (by rw [List.length_range]; exact Nat.le_refl _)
theorem tookG_lt (hv : ∀ i, ∀ x ∈ v i, 0 ≤ x ∧ x < 4) (h : Small c) (hne : passG cond v c n ≠ c) : (tookG v c n).length < (tookG v (passG cond v c n) n).length := by
  rcases passG_new (cond := cond) hv h n with e | ⟨i, hi, h1, h2⟩
  · exact absurd e hne
  · exact filter_lt (fun x _ hx => subs_iff.mpr fun y hy => passG_sub y (subs_iff.mp hx y hy)) ⟨i, List.mem_range.mpr hi, h1, h2⟩
def iterG (cond : Nat → List Int → Bool) (v : Nat → List Int) (n : Nat) (c : List Int) : Nat → List Int
  | 0 => c
  | m + 1 => passG cond v (iterG cond v n c m) n
theorem iterG_small (hv : ∀ i, ∀ x ∈ v i, 0 ≤ x ∧ x < 4) (h : Small c) : ∀ {m : Nat}, Small (iterG cond v n c m)
  | 0 => h
  | m + 1 => passG_small hv (iterG_small hv h (m := m))
theorem iterG_sub : ∀ {m : Nat}, ∀ x ∈ c, x ∈ iterG cond v n c m
  | 0, x, hx => hx
  | m + 1, x, hx => passG_sub x (iterG_sub (m := m) x hx)
theorem iterG_took (hv : ∀ i, ∀ x ∈ v i, 0 ≤ x ∧ x < 4) (h : Small c) : ∀ m : Nat, (∃ j, j ≤ m ∧ iterG cond v n c (j + 1) = iterG cond v n c j) ∨ m < (tookG v (iterG cond v n c (m + 1)) n).length
  | 0 => by
    by_cases e : iterG cond v n c 1 = iterG cond v n c 0
    · exact .inl ⟨0, by omega, e⟩
    · have := tookG_lt (cond := cond) (n := n) hv (iterG_small hv h (m := 0)) e
      refine .inr ?_
      show 0 < (tookG v (passG cond v (iterG cond v n c 0) n) n).length
      omega
  | m + 1 => by
    rcases iterG_took hv h m with ⟨j, hj, e⟩ | ht
    · exact .inl ⟨j, by omega, e⟩
    · by_cases e : iterG cond v n c (m + 2) = iterG cond v n c (m + 1)
      · exact .inl ⟨m + 1, by omega, e⟩
      · have := tookG_lt (cond := cond) (n := n) hv (iterG_small hv h (m := m + 1)) e
        refine .inr ?_
        show m + 1 < (tookG v (passG cond v (iterG cond v n c (m + 1)) n) n).length
        omega
theorem iterG_stays {j : Nat} (e : iterG cond v n c (j + 1) = iterG cond v n c j) : ∀ d : Nat, iterG cond v n c (j + d) = iterG cond v n c j
  | 0 => rfl
  | d + 1 => by
    have ih := iterG_stays e d
    show passG cond v (iterG cond v n c (j + d)) n = _
    rw [ih]
    exact e
theorem iterG_stable (hv : ∀ i, ∀ x ∈ v i, 0 ≤ x ∧ x < 4) (h : Small c) : iterG cond v n c (n + 1) = iterG cond v n c n := by
  rcases iterG_took (cond := cond) (n := n) hv h n with ⟨i, hi, e'⟩ | ht
  · have h1 := iterG_stays e' (n - i)
    have h2 := iterG_stays e' (n + 1 - i)
    rw [show i + (n - i) = n by omega] at h1
    rw [show i + (n + 1 - i) = n + 1 by omega] at h2
    rw [h1, h2]
  · have := tookG_le v (iterG cond v n c (n + 1)) n
    omega
/-- Where a pass changes nothing no step changes anything. -/
theorem fireG_fix (hv : ∀ i, ∀ x ∈ v i, 0 ≤ x ∧ x < 4) (h : Small c) (e : passG cond v c n = c) {i : Nat} (hi : i < n) : fireG cond v c i = c := by
  have hk : ∀ k, k ≤ n → passG cond v c k = c := fun k hk =>
    strict_eq (passG_small hv h).strict h.strict fun x => ⟨fun hx => by have := passG_mono (cond := cond) (v := v) (c := c) hk x hx; rwa [e] at this, fun hx => passG_sub x hx⟩
  have h1 := hk (i + 1) (by omega)
  rw [passG, hk i (by omega)] at h1
  exact h1
theorem fireG_took (h : Strict c) {i : Nat} (e : fireG cond v c i = c) (hc : cond i c = true) : ∀ x ∈ v i, x ∈ c := by
  intro x hx
  unfold fireG at e
  rw [if_pos hc] at e
  rw [← e]
  exact (uni_mem _ _ _).mpr (.inr hx)
/-- What stays within a set. -/
theorem passG_within {d : List Int} (hd : ∀ i, i < n → ∀ c, (∀ x ∈ c, x ∈ d) → cond i c = true → ∀ x ∈ v i, x ∈ d) (hc : ∀ x ∈ c, x ∈ d) : ∀ {k : Nat}, k ≤ n → ∀ x ∈ passG cond v c k, x ∈ d
  | 0, _, x, hx => hc x hx
  | k + 1, hk, x, hx => by
    have ih := passG_within hd hc (k := k) (by omega)
    rw [passG] at hx
    unfold fireG at hx
    split at hx
    · rename_i hcd
      rcases (uni_mem _ _ _).mp hx with h | h
      · exact ih x h
      · exact hd k (by omega) _ ih hcd x h
    · exact ih x hx
theorem iterG_within {d : List Int} (hd : ∀ i, i < n → ∀ c, (∀ x ∈ c, x ∈ d) → cond i c = true → ∀ x ∈ v i, x ∈ d) (hc : ∀ x ∈ c, x ∈ d) : ∀ {m : Nat}, ∀ x ∈ iterG cond v n c m, x ∈ d
  | 0, x, hx => hc x hx
  | m + 1, x, hx => passG_within hd (iterG_within hd hc (m := m)) (Nat.le_refl _) x hx
end gen

/-! #### attacks -/
def meetB (a b : List Int) : Bool := a.any fun x => decide (x ∈ b)
theorem meetB_mono {a b d : List Int} (h : ∀ x ∈ b, x ∈ d) (hm : meetB a b = true) : meetB a d = true := by
  unfold meetB at hm ⊢
  obtain ⟨x, hx, hb⟩ := List.any_eq_true.mp hm
  exact List.any_eq_true.mpr ⟨x, hx, decide_eq_true (h x (of_decide_eq_true hb))⟩
def without (a b : List Int) : List Int := a.filter fun x => !decide (x ∈ b)
theorem without_len (a b : List Int) : (without a b).length ≤ a.length := List.length_filter_le _ _
theorem without_meets (a b : List Int) : decide ((without a b).length < a.length) = meetB a b := by
  unfold without meetB
  induction a with
  | nil => rfl
  | cons x a ih =>
    have hle : (a.filter fun x => !decide (x ∈ b)).length ≤ a.length := List.length_filter_le _ _
    rcases hx : decide (x ∈ b)
    · rw [List.filter_cons_of_pos (by rw [hx]; rfl), List.any_cons, hx, Bool.false_or, ← ih]
      rw [Bool.eq_iff_iff, decide_eq_true_iff, decide_eq_true_iff]
      simp only [List.length_cons]
      omega
    · rw [List.filter_cons_of_neg (by rw [hx]; simp), List.any_cons, hx, Bool.true_or]
      exact decide_eq_true (by simp only [List.length_cons]; omega)
def outs (ats : List RI) (plus : List Int) (i : Nat) : List Int := without (varsOf (ats.getD i default).l) plus
theorem outs_small (ats : List RI) (plus : List Int) : ∀ i, ∀ x ∈ outs ats plus i, 0 ≤ x ∧ x < 4 := fun i x hx => varsOf_small _ x (List.mem_filter.mp hx).1
theorem outs_Small (ats : List RI) (plus : List Int) (i : Nat) : Small (outs ats plus i) :=
  ⟨List.Pairwise.sublist List.filter_sublist (selN_strict _ _), outs_small ats plus i⟩
def condI (ats : List RI) (plus : List Int) (i : Nat) (c : List Int) : Bool := meetB (outs ats plus i) c
def condS (ats : List RI) (plus : List Int) (k : Nat) (i : Nat) (c : List Int) : Bool := decide (i = k) || meetB (outs ats plus i) c
def att (ats : List RI) (plus : List Int) (k : Nat) : List Int := iterG (condI ats plus) (outs ats plus) ats.length (outs ats plus k) ats.length
theorem att_small (ats : List RI) (plus : List Int) (k : Nat) : Small (att ats plus k) := iterG_small (outs_small ats plus) (outs_Small ats plus k)
theorem Small.nil : Small [] := ⟨List.Pairwise.nil, fun x hx => by cases hx⟩
/-- Both ways lead to the same set. -/
theorem att_spec {ats : List RI} {plus : List Int} {k : Nat} (hk : k < ats.length) : iterG (condS ats plus k) (outs ats plus) ats.length [] (ats.length + 1) = att ats plus k := by
  have hv := outs_small ats plus
  have eB := iterG_stable (cond := condS ats plus k) (n := ats.length) hv Small.nil
  have eA := iterG_stable (cond := condI ats plus) (n := ats.length) hv (outs_Small ats plus k)
  rw [eB]
  have sB := iterG_small (cond := condS ats plus k) (n := ats.length) hv Small.nil (m := ats.length)
  have sA := att_small ats plus k
  have fB : ∀ i, i < ats.length → condS ats plus k i (iterG (condS ats plus k) (outs ats plus) ats.length [] ats.length) = true → ∀ x ∈ outs ats plus i, x ∈ iterG (condS ats plus k) (outs ats plus) ats.length [] ats.length :=
    fun i hi hc => fireG_took sB.strict (fireG_fix hv sB eB hi) hc
  have fA : ∀ i, i < ats.length → condI ats plus i (att ats plus k) = true → ∀ x ∈ outs ats plus i, x ∈ att ats plus k :=
    fun i hi hc => fireG_took sA.strict (fireG_fix hv sA eA hi) hc
  refine strict_eq sB.strict sA.strict fun x => ⟨fun hx => ?_, fun hx => ?_⟩
  · refine iterG_within (d := att ats plus k) (fun i hi c hc hcd => ?_) (fun y hy => by cases hy) x hx
    unfold condS at hcd
    rw [Bool.or_eq_true] at hcd
    rcases hcd with h | h
    · have h := of_decide_eq_true h
      subst h
      exact fun y hy => iterG_sub y hy
    · exact fA i hi (meetB_mono hc h)
  · refine iterG_within (d := iterG (condS ats plus k) (outs ats plus) ats.length [] ats.length) (fun i hi c hc hcd => ?_) (fun y hy => fB k hk (by rw [condS, decide_eq_true rfl]; rfl) y hy) x hx
    refine fB i hi ?_
    rw [condS, meetB_mono hc hcd, Bool.or_true]
theorem att_done {ats : List RI} {plus : List Int} {k j : Nat} (e : iterG (condI ats plus) (outs ats plus) ats.length (outs ats plus k) (j + 1) = iterG (condI ats plus) (outs ats plus) ats.length (outs ats plus k) j) :
    iterG (condI ats plus) (outs ats plus) ats.length (outs ats plus k) j = att ats plus k := by
  have eA := iterG_stable (cond := condI ats plus) (n := ats.length) (outs_small ats plus) (outs_Small ats plus k)
  by_cases h : j ≤ ats.length
  · have h1 := iterG_stays e (ats.length - j)
    rw [show j + (ats.length - j) = ats.length by omega] at h1
    exact h1.symm
  · have h1 := iterG_stays eA (j - ats.length)
    rw [show ats.length + (j - ats.length) = j by omega] at h1
    exact h1
end Go.Proofs.Ytoinfljgjdmooaa.A
