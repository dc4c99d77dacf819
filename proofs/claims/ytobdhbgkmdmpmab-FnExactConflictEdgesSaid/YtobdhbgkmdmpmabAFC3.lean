
/- EQUAL KEYS, CONFLICT EDGES. Conditions: none. -/
import Derived.Test.YtobdhbgkmdmpmabAFC2
namespace Go.Proofs.Ytobdhbgkmdmpmab.A
open Go
set_option linter.unusedSimpArgs false
set_option linter.unusedVariables false
set_option maxRecDepth 100000

abbrev klOf (l : List Rel) (r : Int) : Nat := (l.getD r.toNat default).kl.toNat
def sameK (l : List Rel) (a b : RI) : Bool := (a.r == b.r) && decide (a.l.take (klOf l a.r) = b.l.take (klOf l a.r))
theorem keyOf_sat (l : List Rel) (f : RI) (h : l.length ≤ 9223372036854775807) (g : goodRels l = true) (gf : goodFact l f = true) : Sat Try.prog 56 [lRels l, lRI f] [oInts (f.l.take (klOf l f.r))] [g1, g2] := by
  refine sat_of_body mixed Try.func56 rfl (by kernel_rfl) (by kernel_rfl) (rs := [.tmp 4]) rfl rfl rfl ?_
  obtain ⟨m, hm, c1, hm3⟩ := fact_at gf
  rcases f with ⟨r, vs⟩
  simp only at hm hm3
  subst hm
  have o := rel_of g c1
  obtain ⟨K, hK⟩ : ∃ K : Nat, (l.getD m default).kl = K := ⟨(l.getD m default).kl.toNat, by omega⟩
  have c2 : K ≤ vs.length := by omega
  rw [show klOf l ((m : Nat) : Int) = K by simp only [klOf, Int.toNat_natCast, hK]]
  have hl : (vs.take K).length ≤ 3 := by rw [List.length_take]; omega
  simp -implicitDefEqProofs (maxSteps := 2000000) only [go_sem]
  refine call_of (specIsValidFact_sat l ⟨m, vs⟩ h (by unfold RI.fit; simp only; omega)) (by simp -implicitDefEqProofs (maxSteps := 2000000) only [go_sem, g, gf, c1, hK, c2, Nat.zero_le]) (by kernel_rfl) (by simp -implicitDefEqProofs (maxSteps := 2000000) only [go_sem, g, gf, c1, hK, c2, Nat.zero_le]) ?_
  simp -implicitDefEqProofs (maxSteps := 2000000) only [go_sem, g, gf, c1, hK, c2, Nat.zero_le]
  refine ⟨by omega, ?_⟩
  exact ⟨by kernel_rfl, rfl⟩
theorem haveSameKey_sat (l : List Rel) (a b : RI) (h : l.length ≤ 9223372036854775807) (g : goodRels l = true) (ga : goodFact l a = true) (gb : goodFact l b = true) : Sat Try.prog 26 [lRels l, lRI a, lRI b] [lBool (sameK l a b)] [g1, g2, g2] := by
  refine sat_of_body mixed Try.func26 rfl (by kernel_rfl) (by kernel_rfl) (rs := [.tmp 6]) rfl rfl rfl ?_
  unfold sameK
  obtain ⟨m, hm, c1, hm3⟩ := fact_at ga
  obtain ⟨n, hn, c2, hn3⟩ := fact_at gb
  have o1 := (rel_of g c1).1
  have o2 := (rel_of g c2).1
  have fa : a.fit := by unfold RI.fit; omega
  have fb : b.fit := by unfold RI.fit; omega
  simp -implicitDefEqProofs (maxSteps := 2000000) only [go_sem]
  refine call_of (specIsValidFact_sat l a h fa) (by simp -implicitDefEqProofs (maxSteps := 2000000) only [go_sem, g, ga]) (by kernel_rfl) (by simp -implicitDefEqProofs (maxSteps := 2000000) only [go_sem, g, ga]) ?_
  simp -implicitDefEqProofs (maxSteps := 2000000) only [go_sem, g, ga]
  rcases e : a.r == b.r
  · refine call_of (specIsValidFact_sat l b h fb) (by simp -implicitDefEqProofs (maxSteps := 2000000) only [go_sem, g, gb, e]) (by kernel_rfl) (by simp -implicitDefEqProofs (maxSteps := 2000000) only [go_sem, g, gb, e]) ?_
    simp -implicitDefEqProofs (maxSteps := 2000000) only [go_sem, g, gb, e]
  have e' : a.r = b.r := eq_of_beq e
  refine call_of (specIsValidFact_sat l b h fb) (by simp -implicitDefEqProofs (maxSteps := 2000000) only [go_sem, g, gb, e]) (by kernel_rfl) (by simp -implicitDefEqProofs (maxSteps := 2000000) only [go_sem, g, gb, e]) ?_
  simp -implicitDefEqProofs (maxSteps := 2000000) only [go_sem, g, gb, e]
  refine call_of (keyOf_sat l a h g ga) (by simp -implicitDefEqProofs (maxSteps := 2000000) only [go_sem]) (by kernel_rfl) (by simp -implicitDefEqProofs (maxSteps := 2000000) only [go_sem]) ?_
  simp -implicitDefEqProofs (maxSteps := 2000000) only [go_sem]
  refine call_of (keyOf_sat l b h g gb) (by simp -implicitDefEqProofs (maxSteps := 2000000) only [go_sem]) (by kernel_rfl) (by simp -implicitDefEqProofs (maxSteps := 2000000) only [go_sem]) ?_
  simp -implicitDefEqProofs (maxSteps := 2000000) only [go_sem]
  refine call_of (l3Ints_sat (a.l.take (klOf l a.r)) (b.l.take (klOf l b.r)) (by rw [List.length_take]; omega)) (by simp -implicitDefEqProofs (maxSteps := 2000000) only [go_sem]) (by kernel_rfl) (by simp -implicitDefEqProofs (maxSteps := 2000000) only [go_sem]) ?_
  simp -implicitDefEqProofs (maxSteps := 2000000) only [go_sem]
  rw [cmp_beq, e']
  exact ⟨by kernel_rfl, rfl⟩
theorem sameKey_sat (l : List Rel) (a b : RI) (h : l.length ≤ 9223372036854775807) (g : goodRels l = true) (ga : goodFact l a = true) (gb : goodFact l b = true) : Sat Try.prog 35 [lRels l, lRI a, lRI b] [lBool (sameK l a b)] [g1, g2, g2] := by
  refine sat_of_body mixed Try.func35 rfl (by kernel_rfl) (by kernel_rfl) (rs := [.tmp 6]) rfl rfl rfl ?_
  unfold sameK
  obtain ⟨m, hm, c1, hm3⟩ := fact_at ga
  obtain ⟨n, hn, c2, hn3⟩ := fact_at gb
  rcases a with ⟨ar, us⟩
  rcases b with ⟨br, ws⟩
  simp only at hm hm3 hn hn3
  rcases e : ar == br
  · have e1 : (ar != br) = true := by rw [bne, e]; rfl
    simp -implicitDefEqProofs (maxSteps := 2000000) only [go_sem, e, e1]
  have e1 : (ar != br) = false := by rw [bne, e]; rfl
  have e' : ar = br := eq_of_beq e
  subst e'
  subst hm
  obtain rfl : m = n := by omega
  have o := rel_of g c1
  obtain ⟨K, hK⟩ : ∃ K : Nat, (l.getD m default).kl = K := ⟨(l.getD m default).kl.toNat, by omega⟩
  have k1 : K ≤ us.length := by omega
  have k2 : K ≤ ws.length := by omega
  rw [show klOf l ((m : Nat) : Int) = K by simp only [klOf, Int.toNat_natCast, hK]]
  simp -implicitDefEqProofs (maxSteps := 2000000) only [go_sem, e1, c1, hK, k1, k2, Nat.zero_le]
  refine call_of (slicesEqual_sat (us.take K) (ws.take K) (by rw [List.length_take]; omega)) (by simp -implicitDefEqProofs (maxSteps := 2000000) only [go_sem, k1, k2, Nat.zero_le]) (by kernel_rfl) (by simp -implicitDefEqProofs (maxSteps := 2000000) only [go_sem, k1, k2, Nat.zero_le]) ?_
  simp -implicitDefEqProofs (maxSteps := 2000000) only [go_sem, k1, k2, Nat.zero_le]

/-! #### pairs -/
def rowE (p : Nat → Nat → Bool) (a : Nat) : Nat → List Edge
  | 0 => []
  | b + 1 => if decide (a < b) && p a b then rowE p a b ++ [⟨a, b⟩] else rowE p a b
def allE (p : Nat → Nat → Bool) (n : Nat) : Nat → List Edge
  | 0 => []
  | a + 1 => allE p n a ++ rowE p a n
theorem rowE_nil (p : Nat → Nat → Bool) (a : Nat) : ∀ b, b ≤ a + 1 → rowE p a b = []
  | 0, _ => rfl
  | b + 1, h => by
    rw [rowE, rowE_nil p a b (by omega), decide_eq_false (by omega : ¬ a < b)]; rfl
theorem rowE_len (p : Nat → Nat → Bool) (a : Nat) : ∀ b, (rowE p a b).length ≤ b
  | 0 => by simp [rowE]
  | b + 1 => by
    have := rowE_len p a b
    unfold rowE; split
    · simp; omega
    · omega
theorem allE_len (p : Nat → Nat → Bool) (n : Nat) : ∀ a, (allE p n a).length ≤ a * n
  | 0 => by simp [allE]
  | a + 1 => by
    have h1 := allE_len p n a
    have h2 := rowE_len p a n
    rw [allE, List.length_append, Nat.add_mul, Nat.one_mul]; omega
theorem pairs_sat (n : Nat) (p : Nat → Nat → Bool) (f : FuncId) (c1 c2 : List Fld) (hn : n ≤ 14)
    (hc : ∀ a b : Nat, a < b → b < n → Sat Try.prog f [lInt a, lInt b, .one (.ip c1), .one (.ip c2)] [lBool (p a b)] [g1, g1, g1, g1]) :
    Sat Try.prog 32 [lInt n, .one (.fn f [c1, c2])] [oEds (allE p n n)] [g1, g1] := by
  refine sat_of_body mixed Try.func32 rfl (by kernel_rfl) (by kernel_rfl) (rs := [.tmp 4]) rfl rfl rfl ?_
  simp -implicitDefEqProofs (maxSteps := 2000000) only [go_sem]
  refine awp_loop Nat (fun a => mkSt [(0, .sc (.int .i64 n)), (1, .one (.fni f [c1, c2])), (5, .one (.ref 960 2 0 (allE p n a).length)), (9, .sc (.int .i64 n)), (10, .sc (.int .i64 a))] [] [(960, (2, eds (allE p n a)))] 2000)
    (fun a => a ≤ n) (fun a => n - a) 0 (by omega) (le_st' _ _ [⟨960, some _, false, 2, _⟩] [] _ (by simp -implicitDefEqProofs (maxSteps := 2000000) only [go_sem] <;> and_intros <;> rfl) (by simp -implicitDefEqProofs (maxSteps := 2000000) only [go_sem] <;> and_intros <;> rfl) (by simp -implicitDefEqProofs (maxSteps := 2000000) only [go_sem] <;> and_intros <;> rfl) (by rfl)) ?_
  rintro a h1
  have hl := allE_len p n a
  have hl2 : a * n ≤ 14 * 14 := Nat.mul_le_mul (by omega) hn
  by_cases k1 : a < n
  · simp -implicitDefEqProofs (maxSteps := 2000000) only [go_sem, k1]
    rw [i64_succ (by omega)]
    refine awp_loop Nat (fun b => mkSt [(0, .sc (.int .i64 n)), (1, .one (.fni f [c1, c2])), (5, .one (.ref 960 2 0 (allE p n a ++ rowE p a b).length)), (6, .sc (.int .i64 a)), (7, .sc (.int .i64 b)), (9, .sc (.int .i64 n)), (10, .sc (.int .i64 a))] [] [(960, (2, eds (allE p n a ++ rowE p a b)))] 4000)
      (fun b => a < b ∧ b ≤ n) (fun b => n - b) (a + 1) ⟨by omega, by omega⟩ (by rw [rowE_nil p a (a + 1) (by omega), List.append_nil]; exact (le_st' _ _ [⟨960, some _, false, 2, _⟩] [] _ (by simp -implicitDefEqProofs (maxSteps := 2000000) only [go_sem] <;> and_intros <;> rfl) (by simp -implicitDefEqProofs (maxSteps := 2000000) only [go_sem] <;> and_intros <;> rfl) (by simp -implicitDefEqProofs (maxSteps := 2000000) only [go_sem] <;> and_intros <;> rfl) (by rfl))) ?_
    rintro b ⟨h2, h3⟩
    have hr := rowE_len p a b
    by_cases k2 : b < n
    · simp -implicitDefEqProofs (maxSteps := 2000000) only [go_sem, k2]
      rcases d : p a b
      · refine call_of (hc a b h2 k2) (by simp -implicitDefEqProofs (maxSteps := 2000000) only [go_sem, d]) (by kernel_rfl) (by simp -implicitDefEqProofs (maxSteps := 2000000) only [go_sem, d]) ?_
        simp -implicitDefEqProofs (maxSteps := 2000000) only [go_sem, d]
        rw [i64_succ (by omega)]
        refine ⟨b + 1, ⟨by omega, k2⟩, by omega, ?_⟩
        rw [show rowE p a (b + 1) = rowE p a b by rw [rowE, d]; simp]
        exact (le_st' _ _ [⟨960, some _, false, 2, _⟩] [] _ (by simp -implicitDefEqProofs (maxSteps := 2000000) only [go_sem] <;> and_intros <;> rfl) (by simp -implicitDefEqProofs (maxSteps := 2000000) only [go_sem] <;> and_intros <;> rfl) (by simp -implicitDefEqProofs (maxSteps := 2000000) only [go_sem] <;> and_intros <;> rfl) (by rfl))
      · refine call_of (hc a b h2 k2) (by simp -implicitDefEqProofs (maxSteps := 2000000) only [go_sem, d]) (by kernel_rfl) (by simp -implicitDefEqProofs (maxSteps := 2000000) only [go_sem, d]) ?_
        simp -implicitDefEqProofs (maxSteps := 2000000) only [go_sem, d]
        refine ⟨by omega, ?_⟩
        rw [i64_succ (by omega)]
        refine ⟨b + 1, ⟨by omega, k2⟩, by omega, ?_⟩
        rw [show rowE p a (b + 1) = rowE p a b ++ [⟨a, b⟩] by rw [rowE, d, decide_eq_true h2]; rfl, ← List.append_assoc]
        exact (le_st' _ _ [⟨960, some _, false, 2, _⟩] [] _ (by simp -implicitDefEqProofs (maxSteps := 2000000) only [go_sem] <;> and_intros <;> rfl) (by simp -implicitDefEqProofs (maxSteps := 2000000) only [go_sem] <;> and_intros <;> rfl) (by simp -implicitDefEqProofs (maxSteps := 2000000) only [go_sem] <;> and_intros <;> rfl) (by rfl))
    · obtain rfl : b = n := by omega
      simp -implicitDefEqProofs (maxSteps := 2000000) only [go_sem, k2]
      rw [i64_succ (by omega)]
      refine ⟨a + 1, k1, by omega, ?_⟩
      rw [allE]
      exact (le_st' _ _ [⟨960, some _, false, 2, _⟩] [] _ (by simp -implicitDefEqProofs (maxSteps := 2000000) only [go_sem] <;> and_intros <;> rfl) (by simp -implicitDefEqProofs (maxSteps := 2000000) only [go_sem] <;> and_intros <;> rfl) (by simp -implicitDefEqProofs (maxSteps := 2000000) only [go_sem] <;> and_intros <;> rfl) (by rfl))
  · obtain rfl : a = n := by omega
    simp -implicitDefEqProofs (maxSteps := 2000000) only [go_sem, k1]
    rfl

theorem pairs1_sat (n : Nat) (p : Nat → Nat → Bool) (f : FuncId) (c1 : List Fld) (hn : n ≤ 14)
    (hc : ∀ a b : Nat, a < b → b < n → Sat Try.prog f [lInt a, lInt b, .one (.ip c1)] [lBool (p a b)] [g1, g1, g1]) :
    Sat Try.prog 32 [lInt n, .one (.fn f [c1])] [oEds (allE p n n)] [g1, g1] := by
  refine sat_of_body mixed Try.func32 rfl (by kernel_rfl) (by kernel_rfl) (rs := [.tmp 4]) rfl rfl rfl ?_
  simp -implicitDefEqProofs (maxSteps := 2000000) only [go_sem]
  refine awp_loop Nat (fun a => mkSt [(0, .sc (.int .i64 n)), (1, .one (.fni f [c1])), (5, .one (.ref 960 2 0 (allE p n a).length)), (9, .sc (.int .i64 n)), (10, .sc (.int .i64 a))] [] [(960, (2, eds (allE p n a)))] 2000)
    (fun a => a ≤ n) (fun a => n - a) 0 (by omega) (le_st' _ _ [⟨960, some _, false, 2, _⟩] [] _ (by simp -implicitDefEqProofs (maxSteps := 2000000) only [go_sem] <;> and_intros <;> rfl) (by simp -implicitDefEqProofs (maxSteps := 2000000) only [go_sem] <;> and_intros <;> rfl) (by simp -implicitDefEqProofs (maxSteps := 2000000) only [go_sem] <;> and_intros <;> rfl) (by rfl)) ?_
  rintro a h1
  have hl := allE_len p n a
  have hl2 : a * n ≤ 14 * 14 := Nat.mul_le_mul (by omega) hn
  by_cases k1 : a < n
  · simp -implicitDefEqProofs (maxSteps := 2000000) only [go_sem, k1]
    rw [i64_succ (by omega)]
    refine awp_loop Nat (fun b => mkSt [(0, .sc (.int .i64 n)), (1, .one (.fni f [c1])), (5, .one (.ref 960 2 0 (allE p n a ++ rowE p a b).length)), (6, .sc (.int .i64 a)), (7, .sc (.int .i64 b)), (9, .sc (.int .i64 n)), (10, .sc (.int .i64 a))] [] [(960, (2, eds (allE p n a ++ rowE p a b)))] 4000)
      (fun b => a < b ∧ b ≤ n) (fun b => n - b) (a + 1) ⟨by omega, by omega⟩ (by rw [rowE_nil p a (a + 1) (by omega), List.append_nil]; exact (le_st' _ _ [⟨960, some _, false, 2, _⟩] [] _ (by simp -implicitDefEqProofs (maxSteps := 2000000) only [go_sem] <;> and_intros <;> rfl) (by simp -implicitDefEqProofs (maxSteps := 2000000) only [go_sem] <;> and_intros <;> rfl) (by simp -implicitDefEqProofs (maxSteps := 2000000) only [go_sem] <;> and_intros <;> rfl) (by rfl))) ?_
    rintro b ⟨h2, h3⟩
    have hr := rowE_len p a b
    by_cases k2 : b < n
    · simp -implicitDefEqProofs (maxSteps := 2000000) only [go_sem, k2]
      rcases d : p a b
      · refine call_of (hc a b h2 k2) (by simp -implicitDefEqProofs (maxSteps := 2000000) only [go_sem, d]) (by kernel_rfl) (by simp -implicitDefEqProofs (maxSteps := 2000000) only [go_sem, d]) ?_
        simp -implicitDefEqProofs (maxSteps := 2000000) only [go_sem, d]
        rw [i64_succ (by omega)]
        refine ⟨b + 1, ⟨by omega, k2⟩, by omega, ?_⟩
        rw [show rowE p a (b + 1) = rowE p a b by rw [rowE, d]; simp]
        exact (le_st' _ _ [⟨960, some _, false, 2, _⟩] [] _ (by simp -implicitDefEqProofs (maxSteps := 2000000) only [go_sem] <;> and_intros <;> rfl) (by simp -implicitDefEqProofs (maxSteps := 2000000) only [go_sem] <;> and_intros <;> rfl) (by simp -implicitDefEqProofs (maxSteps := 2000000) only [go_sem] <;> and_intros <;> rfl) (by rfl))
      · refine call_of (hc a b h2 k2) (by simp -implicitDefEqProofs (maxSteps := 2000000) only [go_sem, d]) (by kernel_rfl) (by simp -implicitDefEqProofs (maxSteps := 2000000) only [go_sem, d]) ?_
        simp -implicitDefEqProofs (maxSteps := 2000000) only [go_sem, d]
        refine ⟨by omega, ?_⟩
        rw [i64_succ (by omega)]
        refine ⟨b + 1, ⟨by omega, k2⟩, by omega, ?_⟩
        rw [show rowE p a (b + 1) = rowE p a b ++ [⟨a, b⟩] by rw [rowE, d, decide_eq_true h2]; rfl, ← List.append_assoc]
        exact (le_st' _ _ [⟨960, some _, false, 2, _⟩] [] _ (by simp -implicitDefEqProofs (maxSteps := 2000000) only [go_sem] <;> and_intros <;> rfl) (by simp -implicitDefEqProofs (maxSteps := 2000000) only [go_sem] <;> and_intros <;> rfl) (by simp -implicitDefEqProofs (maxSteps := 2000000) only [go_sem] <;> and_intros <;> rfl) (by rfl))
    · obtain rfl : b = n := by omega
      simp -implicitDefEqProofs (maxSteps := 2000000) only [go_sem, k2]
      rw [i64_succ (by omega)]
      refine ⟨a + 1, k1, by omega, ?_⟩
      rw [allE]
      exact (le_st' _ _ [⟨960, some _, false, 2, _⟩] [] _ (by simp -implicitDefEqProofs (maxSteps := 2000000) only [go_sem] <;> and_intros <;> rfl) (by simp -implicitDefEqProofs (maxSteps := 2000000) only [go_sem] <;> and_intros <;> rfl) (by simp -implicitDefEqProofs (maxSteps := 2000000) only [go_sem] <;> and_intros <;> rfl) (by rfl))
  · obtain rfl : a = n := by omega
    simp -implicitDefEqProofs (maxSteps := 2000000) only [go_sem, k1]
    rfl


/-! #### conflicts -/
def hit (d : Db) (i k : Int) (x : Den) : Bool := violB d x i k || violB d x k i
def confl (d : Db) (l : List Den) (i k : Nat) : Bool := l.any (hit d i k) || sameK d.rels (d.facts.getD i default) (d.facts.getD k default)
def edgesOf (d : Db) (l : List Den) : List Edge := if goodDb d then allE (confl d l) d.facts.length d.facts.length else []
theorem edgesOf_len (d : Db) (l : List Den) : (edgesOf d l).length ≤ 196 := by
  unfold edgesOf
  split
  · rename_i g
    have h := allE_len (confl d l) d.facts.length d.facts.length
    have h2 := (db_of g).2.1
    have h3 : d.facts.length * d.facts.length ≤ 14 * 14 := Nat.mul_le_mul h2 h2
    omega
  · simp
abbrev fDb (d : Db) : List Fld := [.im 3 (rels d.rels), .im 2 (ris 0 d.facts)]
abbrev fDens (l : List Den) : List Fld := [.im 7 (dens l)]
theorem any_step {α : Type} {d : α} {l : List α} {k : Nat} {p : α → Bool} (h : k < l.length) : (l.take (k + 1)).any p = ((l.take k).any p || p (l.getD k d)) := by
  rw [take_snoc d h, List.any_append]; simp
theorem any_hit {α : Type} {d : α} {l : List α} {k : Nat} {p : α → Bool} (h : k < l.length) (hp : p (l.getD k d) = true) : l.any p = true := List.any_eq_true.mpr ⟨_, mem_getD d h, hp⟩
theorem conflictEdges1_sat (d : Db) (l : List Den) (h : d.fit) (hl : l.length ≤ 9223372036854775807) (g : goodDb d = true) (a b : Nat) (ha : a < d.facts.length) (hb : b < d.facts.length) :
    Sat Try.prog 33 [lInt a, lInt b, .one (.ip (fDens l)), .one (.ip (fDb d))] [lBool (confl d l a b)] [g1, g1, g1, g1] := by
  refine sat_of_body mixed Try.func33 rfl (by kernel_rfl) (by kernel_rfl) (rs := [.tmp 6]) rfl rfl rfl ?_
  simp -implicitDefEqProofs (maxSteps := 2000000) only [go_sem]
  refine awp_loop Nat (fun k => mkSt [(0, .sc (.int .i64 a)), (1, .sc (.int .i64 b)), (3, .one (.ipt (fDb d) 0)), (9, .one (.im 7 (dens l))), (10, .sc (.int .i64 l.length)), (11, .sc (.int .i64 k))] [] [] 1000)
    (fun k => k ≤ l.length ∧ (l.take k).any (hit d a b) = false) (fun k => l.length - k) 0 ⟨by omega, rfl⟩ (le_st _ _ [] [] _ rfl (by simp -implicitDefEqProofs (maxSteps := 2000000) only [go_sem] <;> rfl) trivial trivial) ?_
  rintro k ⟨h1, h2⟩
  by_cases c1 : k < l.length
  · have st := any_step (d := default) (p := hit d a b) c1
    rw [h2, Bool.false_or] at st
    rcases d1 : violB d (l.getD k default) a b
    · rcases d2 : violB d (l.getD k default) b a
      · simp -implicitDefEqProofs (maxSteps := 2000000) only [go_sem, c1]
        refine call_of (implViolatesConstraint_sat d (l.getD k default) a b h) (by simp -implicitDefEqProofs (maxSteps := 2000000) only [go_sem, d1, c1]) (by kernel_rfl) (by simp -implicitDefEqProofs (maxSteps := 2000000) only [go_sem, d1, c1]) ?_
        simp -implicitDefEqProofs (maxSteps := 2000000) only [go_sem, d1, c1]
        refine call_of (implViolatesConstraint_sat d (l.getD k default) b a h) (by simp -implicitDefEqProofs (maxSteps := 2000000) only [go_sem, d2, c1]) (by kernel_rfl) (by simp -implicitDefEqProofs (maxSteps := 2000000) only [go_sem, d2, c1]) ?_
        simp -implicitDefEqProofs (maxSteps := 2000000) only [go_sem, d2, c1]
        rw [i64_succ (by omega)]
        exact ⟨k + 1, ⟨c1, by rw [st, hit, d1, d2]; rfl⟩, by omega, (le_st _ _ [] [] _ rfl (by simp -implicitDefEqProofs (maxSteps := 2000000) only [go_sem] <;> rfl) trivial trivial)⟩
      · rw [show confl d l a b = true by rw [confl, any_hit (d := default) c1 (by rw [hit, d1, d2]; rfl)]; rfl]
        simp -implicitDefEqProofs (maxSteps := 2000000) only [go_sem, c1]
        refine call_of (implViolatesConstraint_sat d (l.getD k default) a b h) (by simp -implicitDefEqProofs (maxSteps := 2000000) only [go_sem, d1, c1]) (by kernel_rfl) (by simp -implicitDefEqProofs (maxSteps := 2000000) only [go_sem, d1, c1]) ?_
        simp -implicitDefEqProofs (maxSteps := 2000000) only [go_sem, d1, c1]
        refine call_of (implViolatesConstraint_sat d (l.getD k default) b a h) (by simp -implicitDefEqProofs (maxSteps := 2000000) only [go_sem, d2, c1]) (by kernel_rfl) (by simp -implicitDefEqProofs (maxSteps := 2000000) only [go_sem, d2, c1]) ?_
        simp -implicitDefEqProofs (maxSteps := 2000000) only [go_sem, d2, c1]
    · rw [show confl d l a b = true by rw [confl, any_hit (d := default) c1 (by rw [hit, d1]; rfl)]; rfl]
      simp -implicitDefEqProofs (maxSteps := 2000000) only [go_sem, c1]
      refine call_of (implViolatesConstraint_sat d (l.getD k default) a b h) (by simp -implicitDefEqProofs (maxSteps := 2000000) only [go_sem, d1, c1]) (by kernel_rfl) (by simp -implicitDefEqProofs (maxSteps := 2000000) only [go_sem, d1, c1]) ?_
      simp -implicitDefEqProofs (maxSteps := 2000000) only [go_sem, d1, c1]
  · rw [List.take_of_length_le (by omega)] at h2
    rw [confl, h2, Bool.false_or]
    simp -implicitDefEqProofs (maxSteps := 2000000) only [go_sem, c1, ha, hb]
    refine call_of (sameKey_sat d.rels (d.facts.getD a default) (d.facts.getD b default) h.1.1 (db_of g).1 (fact_of g ha) (fact_of g hb)) (by simp -implicitDefEqProofs (maxSteps := 2000000) only [go_sem]) (by kernel_rfl) (by simp -implicitDefEqProofs (maxSteps := 2000000) only [go_sem]) ?_
    simp -implicitDefEqProofs (maxSteps := 2000000) only [go_sem]
theorem implConflictEdges_sat (d : Db) (l : List Den) (h : d.fit) (hl : l.length ≤ 9223372036854775807) : Sat Try.prog 10 [lDb d, lDens l] [oEds (edgesOf d l)] [g2, g1] := by
  refine sat_of_body mixed Try.func10 rfl (by kernel_rfl) (by kernel_rfl) (rs := [.tmp 4]) rfl rfl rfl ?_
  unfold edgesOf
  rcases g : goodDb d
  · simp -implicitDefEqProofs (maxSteps := 2000000) only [go_sem]
    refine call_of (implIsValidDatabase_sat d h) (by simp -implicitDefEqProofs (maxSteps := 2000000) only [go_sem, g]) (by kernel_rfl) (by simp -implicitDefEqProofs (maxSteps := 2000000) only [go_sem, g]) ?_
    simp -implicitDefEqProofs (maxSteps := 2000000) only [go_sem, g]
    first | rfl | exact ⟨rfl, rfl⟩ | (trace_state; sorry)
  · simp -implicitDefEqProofs (maxSteps := 2000000) only [go_sem]
    refine call_of (implIsValidDatabase_sat d h) (by simp -implicitDefEqProofs (maxSteps := 2000000) only [go_sem, g]) (by kernel_rfl) (by simp -implicitDefEqProofs (maxSteps := 2000000) only [go_sem, g]) ?_
    simp -implicitDefEqProofs (maxSteps := 2000000) only [go_sem, g]
    refine call_of (pairs_sat d.facts.length (confl d l) 33 (fDens l) (fDb d) (db_of g).2.1 (fun a b h1 h2 => conflictEdges1_sat d l h hl g a b (by omega) h2)) (by simp -implicitDefEqProofs (maxSteps := 2000000) only [go_sem]) (callOk_still (by kernel_rfl) (by simp only [List.all_cons, List.all_nil, LV.still, LV.leaves, Leaf.still, ints_still, ris_still, eds_still, rels_still, iss_still, Bool.and_self, Bool.and_true])) (by simp -implicitDefEqProofs (maxSteps := 2000000) only [go_sem]) ?_
    simp -implicitDefEqProofs (maxSteps := 2000000) only [go_sem]
    first | rfl | exact ⟨rfl, rfl⟩ | (trace_state; sorry)
theorem specConflictEdges_sat (d : Db) (l : List Den) (h : d.fit) (hl : l.length ≤ 9223372036854775807) : Sat Try.prog 7 [lDb d, lDens l] [oEds (edgesOf d l)] [g2, g1] := by
  refine sat_of_body mixed Try.func7 rfl (by kernel_rfl) (by kernel_rfl) (rs := [.tmp 4]) rfl rfl rfl ?_
  rcases g : goodDb d
  · rw [show edgesOf d l = [] by rw [edgesOf, g]; rfl]
    simp -implicitDefEqProofs (maxSteps := 2000000) only [go_sem]
    refine awp_loop Nat (fun k => mkSt [(2, .one (.vad 1000 0)), (5, .one (.ref 960 2 0 0)), (6, .sc (.int .i64 k))] [(1000, sDb d)] [(960, (2, eds []))] 2000)
      (fun k => k = 0) (fun k => 0) 0 rfl (le_st' _ _ [⟨960, some _, false, 2, _⟩] [] _ (by simp -implicitDefEqProofs (maxSteps := 2000000) only [go_sem] <;> and_intros <;> rfl) (by simp -implicitDefEqProofs (maxSteps := 2000000) only [go_sem] <;> and_intros <;> rfl) (by simp -implicitDefEqProofs (maxSteps := 2000000) only [go_sem] <;> and_intros <;> rfl) (by rfl)) ?_
    rintro k rfl
    by_cases c1 : 0 < d.facts.length
    · have c0 : (0 : Int) < d.facts.length := by omega
      simp -implicitDefEqProofs (maxSteps := 2000000) only [go_sem, c0]
      refine call_of (specIsValidDatabase_sat d h) (by simp -implicitDefEqProofs (maxSteps := 2000000) only [go_sem, g, c0]) (by kernel_rfl) (by simp -implicitDefEqProofs (maxSteps := 2000000) only [go_sem, g, c0]) ?_
      simp -implicitDefEqProofs (maxSteps := 2000000) only [go_sem, g, c0]
      first | rfl | exact ⟨rfl, rfl⟩ | (trace_state; sorry)
    · have c0 : ¬ (0 : Int) < d.facts.length := by omega
      simp -implicitDefEqProofs (maxSteps := 2000000) only [go_sem, c0]
      first | rfl | exact ⟨rfl, rfl⟩ | (trace_state; sorry)
  have hn := (db_of g).2.1
  rw [show edgesOf d l = allE (confl d l) d.facts.length d.facts.length by rw [edgesOf, g]; rfl]
  simp -implicitDefEqProofs (maxSteps := 2000000) only [go_sem]
  refine awp_loop Nat (fun a => mkSt [(1, .one (.im 7 (dens l))), (2, .one (.vad 1000 0)), (5, .one (.ref 960 2 0 (allE (confl d l) d.facts.length a).length)), (6, .sc (.int .i64 a))] [(1000, sDb d)] [(960, (2, eds (allE (confl d l) d.facts.length a)))] 2000)
    (fun a => a ≤ d.facts.length) (fun a => d.facts.length - a) 0 (by omega) (le_st' _ _ [⟨960, some _, false, 2, _⟩] [] _ (by simp -implicitDefEqProofs (maxSteps := 2000000) only [go_sem] <;> and_intros <;> rfl) (by simp -implicitDefEqProofs (maxSteps := 2000000) only [go_sem] <;> and_intros <;> rfl) (by simp -implicitDefEqProofs (maxSteps := 2000000) only [go_sem] <;> and_intros <;> rfl) (by rfl)) ?_
  rintro a h1
  have hla := allE_len (confl d l) d.facts.length a
  have hl2 : a * d.facts.length ≤ 14 * 14 := Nat.mul_le_mul (by omega) hn
  by_cases k1 : a < d.facts.length
  · simp -implicitDefEqProofs (maxSteps := 2000000) only [go_sem, k1]
    refine call_of (specIsValidDatabase_sat d h) (by simp -implicitDefEqProofs (maxSteps := 2000000) only [go_sem, g, k1]) (by kernel_rfl) (by simp -implicitDefEqProofs (maxSteps := 2000000) only [go_sem, g, k1]) ?_
    simp -implicitDefEqProofs (maxSteps := 2000000) only [go_sem, g, k1]
    rw [i64_succ (by omega)]
    refine awp_loop Nat (fun b => mkSt [(1, .one (.im 7 (dens l))), (2, .one (.vad 1000 0)), (5, .one (.ref 960 2 0 (allE (confl d l) d.facts.length a ++ rowE (confl d l) a b).length)), (6, .sc (.int .i64 a)), (7, .sc (.int .i64 b))] [(1000, sDb d)] [(960, (2, eds (allE (confl d l) d.facts.length a ++ rowE (confl d l) a b)))] 4000)
      (fun b => a < b ∧ b ≤ d.facts.length) (fun b => d.facts.length - b) (a + 1) ⟨by omega, by omega⟩ (by rw [rowE_nil _ a (a + 1) (by omega), List.append_nil]; exact (le_st' _ _ [⟨960, some _, false, 2, _⟩] [] _ (by simp -implicitDefEqProofs (maxSteps := 2000000) only [go_sem] <;> and_intros <;> rfl) (by simp -implicitDefEqProofs (maxSteps := 2000000) only [go_sem] <;> and_intros <;> rfl) (by simp -implicitDefEqProofs (maxSteps := 2000000) only [go_sem] <;> and_intros <;> rfl) (by rfl))) ?_
    rintro b ⟨h2, h3⟩
    have hr := rowE_len (confl d l) a b
    by_cases k2 : b < d.facts.length
    · simp -implicitDefEqProofs (maxSteps := 2000000) only [go_sem, k1, k2]
      refine call_of (haveSameKey_sat d.rels (d.facts.getD a default) (d.facts.getD b default) h.1.1 (db_of g).1 (fact_of g k1) (fact_of g k2)) (by simp -implicitDefEqProofs (maxSteps := 2000000) only [go_sem, k1, k2]) (by kernel_rfl) (by simp -implicitDefEqProofs (maxSteps := 2000000) only [go_sem, k1, k2]) ?_
      simp -implicitDefEqProofs (maxSteps := 2000000) only [go_sem, k1, k2]
      generalize hs : sameK d.rels (d.facts.getD a default) (d.facts.getD b default) = s
      refine awp_loop Nat (fun n => mkSt [(1, .one (.im 7 (dens l))), (2, .one (.vad 1000 0)), (5, .one (.ref 960 2 0 (allE (confl d l) d.facts.length a ++ rowE (confl d l) a b).length)), (6, .sc (.int .i64 a)), (7, .sc (.int .i64 b)), (8, .sc (.bool (s || (l.take n).any (hit d a b)))), (9, .sc (.int .i64 n))] [(1000, sDb d)] [(960, (2, eds (allE (confl d l) d.facts.length a ++ rowE (confl d l) a b)))] 8000)
        (fun n => n ≤ l.length) (fun n => l.length - n) 0 (by omega) (by rw [List.take_zero, List.any_nil, Bool.or_false]; exact (le_st' _ _ [⟨960, some _, false, 2, _⟩] [] _ (by simp -implicitDefEqProofs (maxSteps := 2000000) only [go_sem] <;> and_intros <;> rfl) (by simp -implicitDefEqProofs (maxSteps := 2000000) only [go_sem] <;> and_intros <;> rfl) (by simp -implicitDefEqProofs (maxSteps := 2000000) only [go_sem] <;> and_intros <;> rfl) (by rfl))) ?_
      rintro n h4
      by_cases k3 : n < l.length
      · have st := any_step (d := default) (p := hit d a b) k3
        rcases d0 : (s || (l.take n).any (hit d a b))
        · have d0' : (l.take n).any (hit d a b) = false := by rw [Bool.or_eq_false_iff] at d0; exact d0.2
          have s0 : s = false := by rw [Bool.or_eq_false_iff] at d0; exact d0.1
          rcases d1 : violB d (l.getD n default) a b
          · simp -implicitDefEqProofs (maxSteps := 2000000) only [go_sem, k3]
            refine call_of (specViolatesConstraint_sat d (l.getD n default) a b h) (by simp -implicitDefEqProofs (maxSteps := 2000000) only [go_sem, d1, k3]) (by kernel_rfl) (by simp -implicitDefEqProofs (maxSteps := 2000000) only [go_sem, d1, k3]) ?_
            simp -implicitDefEqProofs (maxSteps := 2000000) only [go_sem, d1, k3]
            refine call_of (specViolatesConstraint_sat d (l.getD n default) b a h) (by simp -implicitDefEqProofs (maxSteps := 2000000) only [go_sem, k3]) (by kernel_rfl) (by simp -implicitDefEqProofs (maxSteps := 2000000) only [go_sem, k3]) ?_
            simp -implicitDefEqProofs (maxSteps := 2000000) only [go_sem, k3]
            rw [i64_succ (by omega)]
            refine ⟨n + 1, k3, by omega, ?_⟩
            rw [st, d0', s0, hit, d1, Bool.false_or, Bool.false_or, Bool.false_or]
            exact (le_st' _ _ [⟨960, some _, false, 2, _⟩] [] _ (by simp -implicitDefEqProofs (maxSteps := 2000000) only [go_sem] <;> and_intros <;> rfl) (by simp -implicitDefEqProofs (maxSteps := 2000000) only [go_sem] <;> and_intros <;> rfl) (by simp -implicitDefEqProofs (maxSteps := 2000000) only [go_sem] <;> and_intros <;> rfl) (by rfl))
          · simp -implicitDefEqProofs (maxSteps := 2000000) only [go_sem, k3]
            refine call_of (specViolatesConstraint_sat d (l.getD n default) a b h) (by simp -implicitDefEqProofs (maxSteps := 2000000) only [go_sem, d1, k3]) (by kernel_rfl) (by simp -implicitDefEqProofs (maxSteps := 2000000) only [go_sem, d1, k3]) ?_
            simp -implicitDefEqProofs (maxSteps := 2000000) only [go_sem, d1, k3]
            rw [i64_succ (by omega)]
            refine ⟨n + 1, k3, by omega, ?_⟩
            rw [st, d0', s0, hit, d1, Bool.false_or, Bool.false_or, Bool.true_or]
            exact (le_st' _ _ [⟨960, some _, false, 2, _⟩] [] _ (by simp -implicitDefEqProofs (maxSteps := 2000000) only [go_sem] <;> and_intros <;> rfl) (by simp -implicitDefEqProofs (maxSteps := 2000000) only [go_sem] <;> and_intros <;> rfl) (by simp -implicitDefEqProofs (maxSteps := 2000000) only [go_sem] <;> and_intros <;> rfl) (by rfl))
        · simp -implicitDefEqProofs (maxSteps := 2000000) only [go_sem, k3]
          rw [i64_succ (by omega)]
          refine ⟨n + 1, k3, by omega, ?_⟩
          rw [st, ← Bool.or_assoc, d0, Bool.true_or]
          exact (le_st' _ _ [⟨960, some _, false, 2, _⟩] [] _ (by simp -implicitDefEqProofs (maxSteps := 2000000) only [go_sem] <;> and_intros <;> rfl) (by simp -implicitDefEqProofs (maxSteps := 2000000) only [go_sem] <;> and_intros <;> rfl) (by simp -implicitDefEqProofs (maxSteps := 2000000) only [go_sem] <;> and_intros <;> rfl) (by rfl))
      · obtain rfl : n = l.length := by omega
        rw [List.take_length]
        have hcf : (s || l.any (hit d a b)) = confl d l a b := by rw [confl, hs, Bool.or_comm]
        rw [hcf]
        simp -implicitDefEqProofs (maxSteps := 2000000) only [go_sem, k3]
        rcases d1 : confl d l a b
        · simp -implicitDefEqProofs (maxSteps := 2000000) only [go_sem]
          rw [i64_succ (by omega)]
          refine ⟨b + 1, ⟨by omega, k2⟩, by omega, ?_⟩
          rw [show rowE (confl d l) a (b + 1) = rowE (confl d l) a b by rw [rowE, d1]; simp]
          exact (le_st' _ _ [⟨960, some _, false, 2, _⟩] [] _ (by simp -implicitDefEqProofs (maxSteps := 2000000) only [go_sem] <;> and_intros <;> rfl) (by simp -implicitDefEqProofs (maxSteps := 2000000) only [go_sem] <;> and_intros <;> rfl) (by simp -implicitDefEqProofs (maxSteps := 2000000) only [go_sem] <;> and_intros <;> rfl) (by rfl))
        · simp -implicitDefEqProofs (maxSteps := 2000000) only [go_sem]
          refine ⟨by omega, ?_⟩
          rw [i64_succ (by omega)]
          refine ⟨b + 1, ⟨by omega, k2⟩, by omega, ?_⟩
          rw [show rowE (confl d l) a (b + 1) = rowE (confl d l) a b ++ [⟨a, b⟩] by rw [rowE, d1, decide_eq_true h2]; rfl, ← List.append_assoc]
          exact (le_st' _ _ [⟨960, some _, false, 2, _⟩] [] _ (by simp -implicitDefEqProofs (maxSteps := 2000000) only [go_sem] <;> and_intros <;> rfl) (by simp -implicitDefEqProofs (maxSteps := 2000000) only [go_sem] <;> and_intros <;> rfl) (by simp -implicitDefEqProofs (maxSteps := 2000000) only [go_sem] <;> and_intros <;> rfl) (by rfl))
    · obtain rfl : b = d.facts.length := by omega
      simp -implicitDefEqProofs (maxSteps := 2000000) only [go_sem, k2]
      rw [i64_succ (by omega)]
      refine ⟨a + 1, k1, by omega, ?_⟩
      rw [allE]
      exact (le_st' _ _ [⟨960, some _, false, 2, _⟩] [] _ (by simp -implicitDefEqProofs (maxSteps := 2000000) only [go_sem] <;> and_intros <;> rfl) (by simp -implicitDefEqProofs (maxSteps := 2000000) only [go_sem] <;> and_intros <;> rfl) (by simp -implicitDefEqProofs (maxSteps := 2000000) only [go_sem] <;> and_intros <;> rfl) (by rfl))
  · obtain rfl : a = d.facts.length := by omega
    simp -implicitDefEqProofs (maxSteps := 2000000) only [go_sem, k1]
    rfl
end Go.Proofs.Ytobdhbgkmdmpmab.A
