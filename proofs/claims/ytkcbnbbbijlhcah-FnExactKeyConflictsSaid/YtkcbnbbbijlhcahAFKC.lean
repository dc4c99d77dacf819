
/- KEY CONFLICTS. Conditions: none. -/
import Derived.Test.YtkcbnbbbijlhcahAFC3
namespace Go.Proofs.Ytkcbnbbbijlhcah.A
open Go
set_option linter.unusedSimpArgs false
set_option linter.unusedVariables false
set_option maxRecDepth 100000

def keyE (d : Db) (i k : Nat) : Bool := sameK d.rels (d.facts.getD i default) (d.facts.getD k default)
def keysOf (d : Db) : List Edge := if goodDb d then allE (keyE d) d.facts.length d.facts.length else []
theorem keysOf_len (d : Db) : (keysOf d).length ≤ 196 := by
  unfold keysOf
  split
  · rename_i g
    have h := allE_len (keyE d) d.facts.length d.facts.length
    have h2 := (db_of g).2.1
    have h3 : d.facts.length * d.facts.length ≤ 14 * 14 := Nat.mul_le_mul h2 h2
    omega
  · simp
theorem keyConflicts1_sat (d : Db) (h : d.fit) (g : goodDb d = true) (a b : Nat) (ha : a < d.facts.length) (hb : b < d.facts.length) :
    Sat Try.prog 21 [lInt a, lInt b, .one (.ip (fDb d))] [lBool (keyE d a b)] [g1, g1, g1] := by
  refine sat_of_body mixed Try.func21 rfl (by kernel_rfl) (by kernel_rfl) (rs := [.tmp 5]) rfl rfl rfl ?_
  simp -implicitDefEqProofs only [go_sem, ha, hb]
  refine call_of (sameKey_sat d.rels (d.facts.getD a default) (d.facts.getD b default) h.1.1 (db_of g).1 (fact_of g ha) (fact_of g hb)) (by simp -implicitDefEqProofs only [go_sem]) (by kernel_rfl) (by simp -implicitDefEqProofs only [go_sem]) ?_
  simp -implicitDefEqProofs only [go_sem]
  first | done | rfl | exact ⟨rfl, rfl⟩ | exact ⟨rfl, rfl, rfl⟩ | (refine tr_and ?_ ?_ <;> first | rfl | exact ⟨rfl, rfl⟩ | kernel_rfl)
theorem implKeyConflicts_sat (d : Db) (h : d.fit) : Sat Try.prog 7 [lDb d] [oEds (keysOf d)] [g2] := by
  refine sat_of_body mixed Try.func7 rfl (by kernel_rfl) (by kernel_rfl) (rs := [.tmp 2]) rfl rfl rfl ?_
  unfold keysOf
  rcases g : goodDb d
  · simp -implicitDefEqProofs only [go_sem]
    refine call_of (implIsValidDatabase_sat d h) (by simp -implicitDefEqProofs only [go_sem, g]) (by kernel_rfl) (by simp -implicitDefEqProofs only [go_sem, g]) ?_
    simp -implicitDefEqProofs only [go_sem, g]
    first | done | rfl | exact ⟨rfl, rfl⟩ | exact ⟨rfl, rfl, rfl⟩ | (refine tr_and ?_ ?_ <;> first | rfl | exact ⟨rfl, rfl⟩ | kernel_rfl)
  · simp -implicitDefEqProofs only [go_sem]
    refine call_of (implIsValidDatabase_sat d h) (by simp -implicitDefEqProofs only [go_sem, g]) (by kernel_rfl) (by simp -implicitDefEqProofs only [go_sem, g]) ?_
    simp -implicitDefEqProofs only [go_sem, g]
    refine call_of (pairs1_sat d.facts.length (keyE d) 21 (fDb d) (db_of g).2.1 (fun a b h1 h2 => keyConflicts1_sat d h g a b (by omega) h2)) (by simp -implicitDefEqProofs only [go_sem]) (callOk_still (by kernel_rfl) (by simp only [List.all_cons, List.all_nil, LV.still, LV.leaves, Leaf.still, ints_still, ris_still, eds_still, rels_still, iss_still, Bool.and_self, Bool.and_true])) (by simp -implicitDefEqProofs only [go_sem]) ?_
    simp -implicitDefEqProofs only [go_sem]
    first | done | rfl | exact ⟨rfl, rfl⟩ | exact ⟨rfl, rfl, rfl⟩ | (refine tr_and ?_ ?_ <;> first | rfl | exact ⟨rfl, rfl⟩ | kernel_rfl)
theorem specKeyConflicts_sat (d : Db) (h : d.fit) : Sat Try.prog 5 [lDb d] [oEds (keysOf d)] [g2] := by
  refine sat_of_body mixed Try.func5 rfl (by kernel_rfl) (by kernel_rfl) (rs := [.tmp 2]) rfl rfl rfl ?_
  rcases g : goodDb d
  · rw [show keysOf d = [] by rw [keysOf, g]; rfl]
    simp -implicitDefEqProofs only [go_sem]
    refine awp_loop Nat (fun k => mkSt [(1, .one (.vad 1000 0)), (3, .one (.ref 960 2 0 0)), (4, .sc (.int .i64 k))] [(1000, sDb d)] [(960, (2, eds []))] 2000)
      (fun k => k = 0) (fun k => 0) 0 rfl (le_st' _ _ [⟨960, some _, false, 2, _⟩] [] _ (by simp -implicitDefEqProofs only [go_sem] <;> and_intros <;> rfl) (by simp -implicitDefEqProofs only [go_sem] <;> and_intros <;> rfl) (by simp -implicitDefEqProofs only [go_sem] <;> and_intros <;> rfl) (by rfl)) ?_
    rintro k rfl
    by_cases c1 : 0 < d.facts.length
    · have c0 : (0 : Int) < d.facts.length := by omega
      simp -implicitDefEqProofs only [go_sem, c0]
      refine call_of (specIsValidDatabase_sat d h) (by simp -implicitDefEqProofs only [go_sem, g, c0]) (by kernel_rfl) (by simp -implicitDefEqProofs only [go_sem, g, c0]) ?_
      simp -implicitDefEqProofs only [go_sem, g, c0]
      first | done | rfl | exact ⟨rfl, rfl⟩ | exact ⟨rfl, rfl, rfl⟩ | (refine tr_and ?_ ?_ <;> first | rfl | exact ⟨rfl, rfl⟩ | kernel_rfl)
    · have c0 : ¬ (0 : Int) < d.facts.length := by omega
      simp -implicitDefEqProofs only [go_sem, c0]
      first | done | rfl | exact ⟨rfl, rfl⟩ | exact ⟨rfl, rfl, rfl⟩ | (refine tr_and ?_ ?_ <;> first | rfl | exact ⟨rfl, rfl⟩ | kernel_rfl)
  have hn := (db_of g).2.1
  rw [show keysOf d = allE (keyE d) d.facts.length d.facts.length by rw [keysOf, g]; rfl]
  simp -implicitDefEqProofs only [go_sem]
  refine awp_loop Nat (fun a => mkSt [(1, .one (.vad 1000 0)), (3, .one (.ref 960 2 0 (allE (keyE d) d.facts.length a).length)), (4, .sc (.int .i64 a))] [(1000, sDb d)] [(960, (2, eds (allE (keyE d) d.facts.length a)))] 2000)
    (fun a => a ≤ d.facts.length) (fun a => d.facts.length - a) 0 (by omega) (le_st' _ _ [⟨960, some _, false, 2, _⟩] [] _ (by simp -implicitDefEqProofs only [go_sem] <;> and_intros <;> rfl) (by simp -implicitDefEqProofs only [go_sem] <;> and_intros <;> rfl) (by simp -implicitDefEqProofs only [go_sem] <;> and_intros <;> rfl) (by rfl)) ?_
  rintro a h1
  have hla := allE_len (keyE d) d.facts.length a
  have hl2 : a * d.facts.length ≤ 14 * 14 := Nat.mul_le_mul (by omega) hn
  by_cases k1 : a < d.facts.length
  · simp -implicitDefEqProofs only [go_sem, k1]
    refine call_of (specIsValidDatabase_sat d h) (by simp -implicitDefEqProofs only [go_sem, g, k1]) (by kernel_rfl) (by simp -implicitDefEqProofs only [go_sem, g, k1]) ?_
    simp -implicitDefEqProofs only [go_sem, g, k1]
    rw [i64_succ (by omega)]
    refine awp_loop Nat (fun b => mkSt [(1, .one (.vad 1000 0)), (3, .one (.ref 960 2 0 (allE (keyE d) d.facts.length a ++ rowE (keyE d) a b).length)), (4, .sc (.int .i64 a)), (5, .sc (.int .i64 b))] [(1000, sDb d)] [(960, (2, eds (allE (keyE d) d.facts.length a ++ rowE (keyE d) a b)))] 4000)
      (fun b => a < b ∧ b ≤ d.facts.length) (fun b => d.facts.length - b) (a + 1) ⟨by omega, by omega⟩ (by rw [rowE_nil _ a (a + 1) (by omega), List.append_nil]; exact (le_st' _ _ [⟨960, some _, false, 2, _⟩] [] _ (by simp -implicitDefEqProofs only [go_sem] <;> and_intros <;> rfl) (by simp -implicitDefEqProofs only [go_sem] <;> and_intros <;> rfl) (by simp -implicitDefEqProofs only [go_sem] <;> and_intros <;> rfl) (by rfl))) ?_
    rintro b ⟨h2, h3⟩
    have hr := rowE_len (keyE d) a b
    by_cases k2 : b < d.facts.length
    · simp -implicitDefEqProofs only [go_sem, k1, k2]
      rcases d1 : keyE d a b
      · have d1' := d1
        unfold keyE at d1'
        refine call_of (haveSameKey_sat d.rels (d.facts.getD a default) (d.facts.getD b default) h.1.1 (db_of g).1 (fact_of g k1) (fact_of g k2)) (by simp -implicitDefEqProofs only [go_sem, k1, k2, d1']) (by kernel_rfl) (by simp -implicitDefEqProofs only [go_sem, k1, k2, d1']) ?_
        simp -implicitDefEqProofs only [go_sem, k1, k2, d1']
        rw [i64_succ (by omega)]
        refine ⟨b + 1, ⟨by omega, k2⟩, by omega, ?_⟩
        rw [show rowE (keyE d) a (b + 1) = rowE (keyE d) a b by rw [rowE, d1]; simp]
        exact (le_st' _ _ [⟨960, some _, false, 2, _⟩] [] _ (by simp -implicitDefEqProofs only [go_sem] <;> and_intros <;> rfl) (by simp -implicitDefEqProofs only [go_sem] <;> and_intros <;> rfl) (by simp -implicitDefEqProofs only [go_sem] <;> and_intros <;> rfl) (by rfl))
      · have d1' := d1
        unfold keyE at d1'
        refine call_of (haveSameKey_sat d.rels (d.facts.getD a default) (d.facts.getD b default) h.1.1 (db_of g).1 (fact_of g k1) (fact_of g k2)) (by simp -implicitDefEqProofs only [go_sem, k1, k2, d1']) (by kernel_rfl) (by simp -implicitDefEqProofs only [go_sem, k1, k2, d1']) ?_
        simp -implicitDefEqProofs only [go_sem, k1, k2, d1']
        refine ⟨by omega, ?_⟩
        rw [i64_succ (by omega)]
        refine ⟨b + 1, ⟨by omega, k2⟩, by omega, ?_⟩
        rw [show rowE (keyE d) a (b + 1) = rowE (keyE d) a b ++ [⟨a, b⟩] by rw [rowE, d1, decide_eq_true h2]; rfl, ← List.append_assoc]
        exact (le_st' _ _ [⟨960, some _, false, 2, _⟩] [] _ (by simp -implicitDefEqProofs only [go_sem] <;> and_intros <;> rfl) (by simp -implicitDefEqProofs only [go_sem] <;> and_intros <;> rfl) (by simp -implicitDefEqProofs only [go_sem] <;> and_intros <;> rfl) (by rfl))
    · obtain rfl : b = d.facts.length := by omega
      simp -implicitDefEqProofs only [go_sem, k2]
      rw [i64_succ (by omega)]
      refine ⟨a + 1, k1, by omega, ?_⟩
      rw [allE]
      exact (le_st' _ _ [⟨960, some _, false, 2, _⟩] [] _ (by simp -implicitDefEqProofs only [go_sem] <;> and_intros <;> rfl) (by simp -implicitDefEqProofs only [go_sem] <;> and_intros <;> rfl) (by simp -implicitDefEqProofs only [go_sem] <;> and_intros <;> rfl) (by rfl))
  · obtain rfl : a = d.facts.length := by omega
    simp -implicitDefEqProofs only [go_sem, k1]
    first | done | rfl | exact ⟨rfl, rfl⟩ | exact ⟨rfl, rfl, rfl⟩ | (refine tr_and ?_ ?_ <;> first | rfl | exact ⟨rfl, rfl⟩ | kernel_rfl)
end Go.Proofs.Ytkcbnbbbijlhcah.A
