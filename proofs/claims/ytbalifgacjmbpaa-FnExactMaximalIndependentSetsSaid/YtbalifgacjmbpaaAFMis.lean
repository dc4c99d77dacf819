
/- ALL MAXIMAL INDEPENDENT SETS: the plain law. Conditions: none. (No program in sight but the names.) -/
import Derived.Test.YtbalifgacjmbpaaAFG2
namespace Go.Proofs.Ytbalifgacjmbpaa.A
open Go
set_option linter.unusedSimpArgs false
set_option linter.unusedVariables false

theorem upTo_all {p : Nat → Bool} : ∀ {n : Nat}, (∀ k, k < n → p k = true) → upTo p n = true
  | 0, _ => rfl
  | n + 1, h => upTo_step (upTo_all fun k hk => h k (by omega)) (h n (by omega))
/-- Is a number an end of an edge. -/
def metE (l : List Edge) (x : Int) : Bool := l.any fun e => (e.a == x) || (e.b == x)
/-- The search of the program, m numbers left. -/
def walkI (n : Nat) (l : List Edge) : Nat → List Int → List (List Int)
  | 0, s => if isMax n l s then [s] else []
  | m + 1, s => (if indep l (s ++ [((n - (m + 1) : Nat) : Int)]) then walkI n l m (s ++ [((n - (m + 1) : Nat) : Int)]) else []) ++ walkI n l m s
/-- The search of the reference. -/
def walkS (n : Nat) (l : List Edge) : Nat → List Int → List (List Int)
  | 0, s => if isMax n l s then [s] else []
  | m + 1, s => (if fitsE l s ((n - (m + 1) : Nat) : Int) then walkS n l m (s ++ [((n - (m + 1) : Nat) : Int)]) else []) ++ (if metE l ((n - (m + 1) : Nat) : Int) then walkS n l m s else [])
theorem walkI_len (n : Nat) (l : List Edge) : ∀ (m : Nat) (s : List Int), (walkI n l m s).length ≤ 2 ^ m
  | 0, s => by unfold walkI; split <;> simp
  | m + 1, s => by
    have h1 := walkI_len n l m (s ++ [((n - (m + 1) : Nat) : Int)])
    have h2 := walkI_len n l m s
    unfold walkI
    rw [List.length_append, Nat.pow_succ]
    split
    · omega
    · simp; omega
/-- A number that no edge meets joins any independent set. -/
theorem indep_join {l : List Edge} {s : List Int} {x : Int} (h : indep l s = true) (hx : metE l x = false) : indep l (s ++ [x]) = true := by
  unfold indep
  refine upTo_all fun k hk => ?_
  have h1 := upTo_at h hk
  have h2 : ((l.getD k default).a == x) = false ∧ ((l.getD k default).b == x) = false := by
    unfold metE at hx
    rw [List.any_eq_false] at hx
    have := hx _ (mem_getD default hk)
    simpa using this
  unfold edNo at h1 ⊢
  have n1 : (l.getD k default).a ≠ x := by simpa using h2.1
  have n2 : (l.getD k default).b ≠ x := by simpa using h2.2
  rw [Bool.not_eq_true'] at h1 ⊢
  rw [← h1]
  congr 1
  · rw [Bool.eq_iff_iff, decide_eq_true_iff, decide_eq_true_iff, List.mem_append, List.mem_singleton]
    exact ⟨fun h => h.resolve_right n1, .inl⟩
  · rw [Bool.eq_iff_iff, decide_eq_true_iff, decide_eq_true_iff, List.mem_append, List.mem_singleton]
    exact ⟨fun h => h.resolve_right n2, .inl⟩
theorem isMax_not {n : Nat} {l : List Edge} {s : List Int} {x : Nat} (hx : x < n) (hm : metE l x = false) (hs : (x : Int) ∉ s) : isMax n l s = false := by
  rcases h : isMax n l s
  · rfl
  · unfold isMax at h
    simp only [Bool.and_eq_true] at h
    obtain ⟨_, _, h3, h4⟩ := h
    have := upTo_at h4 (show x < ((n : Nat) : Int).toNat by omega)
    rw [fitsE, indep_join h3 hm, decide_eq_false hs] at this
    cases this
/-- Where such a number has been left out nothing is found. -/
theorem walkI_none {n : Nat} {l : List Edge} {x : Nat} (hx : x < n) (hm : metE l x = false) : ∀ (m : Nat) (s : List Int), m + x + 1 ≤ n → (x : Int) ∉ s → walkI n l m s = []
  | 0, s, _, hs => by rw [walkI, isMax_not hx hm hs]; rfl
  | m + 1, s, hle, hs => by
    have h2 := walkI_none hx hm m s (by omega) hs
    have h1 := walkI_none hx hm m (s ++ [((n - (m + 1) : Nat) : Int)]) (by omega) (by
      rw [List.mem_append, List.mem_singleton]
      rintro (h | h)
      · exact hs h
      · omega)
    rw [walkI, h1, h2]
    split <;> rfl
theorem walk_same {n : Nat} {l : List Edge} : ∀ (m : Nat) (s : List Int), m ≤ n → (∀ y ∈ s, y < ((n - m : Nat) : Int)) → walkS n l m s = walkI n l m s
  | 0, s, _, _ => rfl
  | m + 1, s, hle, hs => by
    have hn : ((n - (m + 1) : Nat) : Int) ∉ s := fun h => by have := hs _ h; omega
    have h1 := walk_same (n := n) (l := l) m (s ++ [((n - (m + 1) : Nat) : Int)]) (by omega) (by
      intro y hy
      rw [List.mem_append, List.mem_singleton] at hy
      rcases hy with hy | rfl
      · have := hs y hy; omega
      · omega)
    have h2 := walk_same (n := n) (l := l) m s (by omega) (fun y hy => by have := hs y hy; omega)
    rw [walkS, walkI, fitsE, decide_eq_false hn, Bool.not_false, Bool.true_and, h1, h2]
    congr 1
    rcases hm : metE l ((n - (m + 1) : Nat) : Int)
    · rw [walkI_none (x := n - (m + 1)) (by omega) hm m s (by omega) hn]; rfl
    · rfl
def mis (n : Int) (l : List Edge) : List (List Int) := if goodEds n l then walkI n.toNat l n.toNat [] else []
theorem goodEds_n {n : Int} {l : List Edge} (g : goodEds n l = true) : 0 ≤ n ∧ n ≤ 14 := by
  unfold goodEds at g
  rw [Bool.and_eq_true] at g
  exact inB_of g.1
theorem mis_len (n : Int) (l : List Edge) : (mis n l).length ≤ 16384 := by
  unfold mis
  split
  · rename_i g
    have := goodEds_n g
    have h := walkI_len n.toNat l n.toNat []
    have : 2 ^ n.toNat ≤ 2 ^ 14 := Nat.pow_le_pow_right (by omega) (by omega)
    omega
  · simp
/-- What is found is no longer than the numbers that there are. -/
theorem walkI_mem (n : Nat) (l : List Edge) : ∀ (m : Nat) (s : List Int), ∀ t ∈ walkI n l m s, t.length ≤ s.length + m
  | 0, s, t, ht => by
    unfold walkI at ht
    split at ht
    · simp at ht; subst ht; omega
    · cases ht
  | m + 1, s, t, ht => by
    unfold walkI at ht
    rw [List.mem_append] at ht
    rcases ht with ht | ht
    · split at ht
      · have := walkI_mem n l m _ t ht
        simp only [List.length_append, List.length_singleton] at this
        omega
      · cases ht
    · have := walkI_mem n l m s t ht
      omega
theorem mis_small {n : Int} {l : List Edge} : ∀ t ∈ mis n l, t.length ≤ 14 := by
  intro t ht
  unfold mis at ht
  split at ht
  · rename_i g
    have := goodEds_n g
    have := walkI_mem _ _ _ _ t ht
    simp only [List.length_nil] at this
    omega
  · cases ht
end Go.Proofs.Ytbalifgacjmbpaa.A
