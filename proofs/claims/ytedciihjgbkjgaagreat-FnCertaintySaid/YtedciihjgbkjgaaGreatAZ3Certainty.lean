/- Packed by pack.py: FTerm FJoin FByt FTerm2 FFQ FPq FDraw13 FDraw14 FDraw15 FDraw9 FDraw16 FMis FMis2 FMis3 FMis4 FDraw4 FRep FEm2 FEm3 -/
import Derived.Test.YtedciihjgbkjgaaGreatAZ2Certainty
import Derived.Test.YtedciihjgbkjgaaGreatAZ1Certainty
import Derived.WideShapes
import Derived.Test.YtedciihjgbkjgaaGreatA45
import Derived.Test.YtedciihjgbkjgaaGreatA44

/- TERMS AND THEIR TEXTS. Conditions: none. -/
namespace Go.Proofs.YtedciihjgbkjgaaGreat.A
open Go
set_option linter.unusedSimpArgs false
set_option linter.unusedVariables false
set_option maxRecDepth 100000

/-- A term's letter: a digit of a constant, the name of a variable. -/
def letT (t : Int) : UInt8 := if t < 0 then (47 - t).toNat.toUInt8 else if t = 0 then 120 else if t = 1 then 121 else if t = 2 then 122 else 119
def isT (t : Int) : Bool := inB t (-10) 3
def fmtT (t : Int) : ByteArray := if isT t then ⟨#[letT t]⟩ else ⟨#[]⟩
def digT (v : Int) : ByteArray := ⟨#[(48 + v).toNat.toUInt8]⟩
theorem byt_eq {a b : ByteArray} (h : a.data.toList = b.data.toList) : a = b := Go.WideShapes.bytes_inj h
theorem byt_app (a b : ByteArray) : (a ++ b).data.toList = a.data.toList ++ b.data.toList := by
  rw [ByteArray.data_append, Array.toList_append]
theorem byt_nil (a : ByteArray) : a ++ (⟨#[]⟩ : ByteArray) = a := byt_eq (by rw [byt_app]; simp)
theorem byteD {v : Nat} (h : v ≤ 9) : IntKind.u8.wrap (IntKind.i64.wrap (48 + (v : Int))) = (((48 + (v : Int)).toNat.toUInt8).toNat : Int) := by
  have key : ∀ v : Fin 10, IntKind.u8.wrap (IntKind.i64.wrap (48 + ((v.val : Nat) : Int))) = (((48 + ((v.val : Nat) : Int)).toNat.toUInt8).toNat : Int) := by decide
  exact key ⟨v, by omega⟩
theorem specFormatInt_sat (v : Nat) (h : v ≤ 9) : Sat Tryz.prog 143 [lInt v] [lStr (digT v)] [g1] := by
  refine sat_of_body mixed Tryz.func143 rfl (by kernel_rfl) (by kernel_rfl) (rs := [.tmp 2]) rfl rfl rfl ?_
  by_cases c0 : v = 0
  · subst c0
    simp -implicitDefEqProofs (maxSteps := 2000000) only [go_sem]
    first | done | rfl | exact ⟨rfl, rfl⟩ | exact ⟨rfl, rfl, rfl⟩ | (refine tr_and ?_ ?_ <;> first | rfl | exact ⟨rfl, rfl⟩ | kernel_rfl)
  have d0 : (((v : Nat) : Int) == 0) = false := by rw [beq_eq_false_iff_ne]; omega
  have d2 : (((v : Nat) : Int) != 0) = true := by rw [bne, d0]; rfl
  have d1 : decide (((v : Nat) : Int) < 0) = false := by rw [decide_eq_false_iff_not]; omega
  simp -implicitDefEqProofs (maxSteps := 2000000) only [go_sem, d0, d1]
  refine awp_loop Nat (fun k => mkSt [(0, .sc (.int .i64 (if k = 0 then (v : Int) else 0))), (3, .sc (.string (if k = 0 then ⟨#[]⟩ else digT v))), (4, .sc (.bool false))] [] [] 3000)
    (fun k => k ≤ 1) (fun k => 1 - k) 0 (by omega) (le_st _ _ [] [] _ rfl (by simp -implicitDefEqProofs (maxSteps := 2000000) only [go_sem, d0, d1] <;> rfl) (by simp -implicitDefEqProofs (maxSteps := 2000000) only [go_sem, d0, d1] <;> rfl) (by simp -implicitDefEqProofs (maxSteps := 2000000) only [go_sem, d0, d1] <;> rfl)) ?_
  rintro k h1
  rcases k with _ | _ | k
  · have e1 : Int.tmod ((v : Nat) : Int) 10 = v := by rw [Int.tmod_eq_emod_of_nonneg (by omega)]; omega
    have e2 : Int.tdiv ((v : Nat) : Int) 10 = 0 := by rw [Int.tdiv_eq_ediv_of_nonneg (by omega)]; omega
    simp -implicitDefEqProofs (maxSteps := 2000000) only [go_sem, d0, d1, d2, e1, e2]
    refine ⟨by decide, [(48 + (v : Int)).toNat.toUInt8], by rw [byteD h]; rfl, by simp, by decide, 1, by omega, by omega, ?_⟩
    exact (le_st _ _ [] [] _ rfl (by simp -implicitDefEqProofs (maxSteps := 2000000) only [go_sem, byt_nil, digT] <;> rfl) (by simp -implicitDefEqProofs (maxSteps := 2000000) only [go_sem, byt_nil, digT] <;> rfl) (by simp -implicitDefEqProofs (maxSteps := 2000000) only [go_sem, byt_nil, digT] <;> rfl))
  · simp -implicitDefEqProofs (maxSteps := 2000000) only [go_sem]
    first | done | rfl | exact ⟨rfl, rfl⟩ | exact ⟨rfl, rfl, rfl⟩ | (refine tr_and ?_ ?_ <;> first | rfl | exact ⟨rfl, rfl⟩ | kernel_rfl)
  · omega
def tvOk (t : Int) : Bool := inB t (-10) (-1)
theorem specTermValue_sat (t : Int) (ht : -9223372036854775808 ≤ t ∧ t ≤ 9223372036854775807) : Sat Tryz.prog 142 [lInt t] [lInt (if tvOk t then -1 - t else 0), lBool (tvOk t)] [g1] := by
  refine sat_of_body mixed Tryz.func142 rfl (by kernel_rfl) (by kernel_rfl) (rs := [.tmp 2, .tmp 3]) rfl rfl rfl ?_
  rcases d1 : decide (t ≥ 0)
  · have d1' := of_decide_eq_false d1
    have w1 : IntKind.i64.wrap (-1 - t) = -1 - t := IntWalk.i64_in _ (by omega)
    have e : inB (-1 - t) 0 9 = tvOk t := by
      unfold inB tvOk inB
      rw [Bool.eq_iff_iff]; simp; omega
    rcases d2 : tvOk t
    · rw [d2] at e
      simp -implicitDefEqProofs (maxSteps := 2000000) only [go_sem, d1, w1]
      refine call_of (inB_sat (-1 - t) 0 9) (by simp -implicitDefEqProofs (maxSteps := 2000000) only [go_sem, d1, w1, e]) (by kernel_rfl) (by simp -implicitDefEqProofs (maxSteps := 2000000) only [go_sem, d1, w1, e]) ?_
      simp -implicitDefEqProofs (maxSteps := 2000000) only [go_sem, d1, w1, e]
      first | done | rfl | exact ⟨rfl, rfl⟩ | exact ⟨rfl, rfl, rfl⟩ | (refine tr_and ?_ ?_ <;> first | rfl | exact ⟨rfl, rfl⟩ | kernel_rfl)
    · rw [d2] at e
      simp -implicitDefEqProofs (maxSteps := 2000000) only [go_sem, d1, w1]
      refine call_of (inB_sat (-1 - t) 0 9) (by simp -implicitDefEqProofs (maxSteps := 2000000) only [go_sem, d1, w1, e]) (by kernel_rfl) (by simp -implicitDefEqProofs (maxSteps := 2000000) only [go_sem, d1, w1, e]) ?_
      simp -implicitDefEqProofs (maxSteps := 2000000) only [go_sem, d1, w1, e]
      first | done | rfl | exact ⟨rfl, rfl⟩ | exact ⟨rfl, rfl, rfl⟩ | (refine tr_and ?_ ?_ <;> first | rfl | exact ⟨rfl, rfl⟩ | kernel_rfl)
  · have d1' := of_decide_eq_true d1
    have d2 : tvOk t = false := by unfold tvOk inB; simp; omega
    rw [d2]
    simp -implicitDefEqProofs (maxSteps := 2000000) only [go_sem, d1]
    first | done | rfl | exact ⟨rfl, rfl⟩ | exact ⟨rfl, rfl, rfl⟩ | (refine tr_and ?_ ?_ <;> first | rfl | exact ⟨rfl, rfl⟩ | kernel_rfl)
theorem letters : ∀ n : Fin 4, fmtT (n.val : Int) = (⟨#[120, 121, 122, 119]⟩ : ByteArray).extract n.val (n.val + 1) := by decide +kernel
theorem specFormatTerm_sat (t : Int) (ht : -9223372036854775808 ≤ t ∧ t ≤ 9223372036854775807) : Sat Tryz.prog 130 [lInt t] [lStr (fmtT t)] [g1] := by
  refine sat_of_body mixed Tryz.func130 rfl (by kernel_rfl) (by kernel_rfl) (rs := [.tmp 2]) rfl rfl rfl ?_
  rcases d1 : tvOk t
  · simp -implicitDefEqProofs (maxSteps := 2000000) only [go_sem]
    refine call_of (specTermValue_sat t ht) (by simp -implicitDefEqProofs (maxSteps := 2000000) only [go_sem, d1]) (by kernel_rfl) (by simp -implicitDefEqProofs (maxSteps := 2000000) only [go_sem, d1]) ?_
    simp -implicitDefEqProofs (maxSteps := 2000000) only [go_sem, d1]
    rcases d2 : inB t 0 3
    · have e : fmtT t = ⟨#[]⟩ := by
        have : isT t = false := by
          unfold isT inB; unfold tvOk inB at d1; unfold inB at d2
          rw [Bool.and_eq_false_iff] at d1 d2 ⊢
          simp only [decide_eq_false_iff_not] at d1 d2 ⊢
          omega
        rw [fmtT, this]; rfl
      rw [e]
      refine call_of (inB_sat t 0 3) (by simp -implicitDefEqProofs (maxSteps := 2000000) only [go_sem, d2]) (by kernel_rfl) (by simp -implicitDefEqProofs (maxSteps := 2000000) only [go_sem, d2]) ?_
      simp -implicitDefEqProofs (maxSteps := 2000000) only [go_sem, d2]
      first | done | rfl | exact ⟨rfl, rfl⟩ | exact ⟨rfl, rfl, rfl⟩ | (refine tr_and ?_ ?_ <;> first | rfl | exact ⟨rfl, rfl⟩ | kernel_rfl)
    · obtain ⟨n, rfl⟩ : ∃ n : Nat, t = n := ⟨t.toNat, by have := inB_of d2; omega⟩
      have hn : n < 4 := by have := inB_of d2; omega
      have w1 : IntKind.i64.wrap ((n : Int) + 1) = ((n + 1 : Nat) : Int) := i64_succ (by omega)
      refine call_of (inB_sat n 0 3) (by simp -implicitDefEqProofs (maxSteps := 2000000) only [go_sem, d2, w1]) (by kernel_rfl) (by simp -implicitDefEqProofs (maxSteps := 2000000) only [go_sem, d2, w1]) ?_
      simp -implicitDefEqProofs (maxSteps := 2000000) only [go_sem, d2, w1]
      refine ⟨by omega, by omega, ?_⟩
      rw [letters ⟨n, hn⟩]
  · obtain ⟨v, hv⟩ : ∃ v : Nat, -1 - t = v := ⟨(-1 - t).toNat, by have := inB_of d1; omega⟩
    have hv9 : v ≤ 9 := by have := inB_of d1; omega
    have e : fmtT t = digT v := by
      have h1 := inB_of d1
      have : isT t = true := by unfold isT inB; simp; omega
      rw [fmtT, this, if_pos rfl, letT, if_pos (by omega), digT, show 48 + (v : Int) = 47 - t by omega]
    rw [e]
    simp -implicitDefEqProofs (maxSteps := 2000000) only [go_sem]
    refine call_of (specTermValue_sat t ht) (by simp -implicitDefEqProofs (maxSteps := 2000000) only [go_sem, d1, hv]) (by kernel_rfl) (by simp -implicitDefEqProofs (maxSteps := 2000000) only [go_sem, d1, hv]) ?_
    simp -implicitDefEqProofs (maxSteps := 2000000) only [go_sem, d1, hv]
    refine call_of (specFormatInt_sat v hv9) (by simp -implicitDefEqProofs (maxSteps := 2000000) only [go_sem]) (by kernel_rfl) (by simp -implicitDefEqProofs (maxSteps := 2000000) only [go_sem]) ?_
    simp -implicitDefEqProofs (maxSteps := 2000000) only [go_sem]
    first | done | rfl | exact ⟨rfl, rfl⟩ | exact ⟨rfl, rfl, rfl⟩ | (refine tr_and ?_ ?_ <;> first | rfl | exact ⟨rfl, rfl⟩ | kernel_rfl)
/-! #### a term read -/
def p1 (n : Nat) : Int × Bool := if n = 120 then (0, true) else if n = 121 then (1, true) else if n = 122 then (2, true) else if n = 119 then (3, true) else if 48 ≤ n ∧ n ≤ 57 then (47 - (n : Int), true) else (0, false)
def chr0 (s : ByteArray) : UInt8 := s.data.toList.getD 0 0
def pT (s : ByteArray) : Int × Bool := if s.size = 1 then p1 (chr0 s).toNat else (0, false)
theorem pT_of : ∀ k : Fin 14, pT (fmtT ((k.val : Int) - 10)) = ((k.val : Int) - 10, true) := by decide +kernel
theorem fmt_digit : ∀ j : Fin 10, fmtT ((j.val : Int) - 10) = ⟨#[(57 - j.val).toUInt8]⟩ := by decide +kernel
theorem fmt_letter : ∀ j : Fin 4, fmtT (((j.val + 10 : Nat) : Int) - 10) = ⟨#[#[120, 121, 122, 119].getD j.val 0]⟩ := by decide +kernel
theorem byt_one {s : ByteArray} (h : s.size = 1) : s = ⟨#[chr0 s]⟩ := by
  apply byt_eq
  have hl : s.data.toList.length = 1 := by rw [Array.length_toList]; exact h
  unfold chr0
  rcases e : s.data.toList with _ | ⟨c, _ | ⟨_, _⟩⟩
  · rw [e] at hl; simp at hl
  · rfl
  · rw [e] at hl; simp at hl
theorem pT_none {s : ByteArray} (h : ∀ k : Nat, k < 14 → fmtT ((k : Int) - 10) ≠ s) : pT s = (0, false) := by
  unfold pT
  split
  · rename_i h1
    have hs := byt_one h1
    generalize chr0 s = c at hs ⊢
    have hc : ∀ n : Nat, n < 256 → c.toNat = n → c = n.toUInt8 := by
      intro n hn e
      apply UInt8.toNat_inj.mp
      rw [e]; simp; omega
    have nl : ∀ j : Fin 4, c ≠ #[120, 121, 122, 119].getD j.val 0 := fun j e => h (j.val + 10) (by omega) (by rw [fmt_letter j, hs, e])
    have nd : ∀ j : Fin 10, c ≠ (57 - j.val).toUInt8 := fun j e => h j.val (by omega) (by rw [fmt_digit j, hs, e])
    unfold p1
    rw [if_neg (fun e => nl 0 (hc 120 (by omega) e)), if_neg (fun e => nl 1 (hc 121 (by omega) e)), if_neg (fun e => nl 2 (hc 122 (by omega) e)), if_neg (fun e => nl 3 (hc 119 (by omega) e)), if_neg ?_]
    intro ⟨a1, a2⟩
    exact nd ⟨57 - c.toNat, by omega⟩ (hc _ (by simp only; omega) (by simp only; omega))
  · rfl
theorem specParseTerm_sat (s : ByteArray) : Sat Tryz.prog 106 [lStr s] [lInt (pT s).1, lBool (pT s).2] [g1] := by
  refine sat_of_body mixed Tryz.func106 rfl (by kernel_rfl) (by kernel_rfl) (rs := [.tmp 2, .tmp 3]) rfl rfl rfl ?_
  simp -implicitDefEqProofs (maxSteps := 2000000) only [go_sem]
  refine awp_loop Nat (fun k => mkSt [(0, .sc (.string s)), (4, .sc (.int .i64 ((k : Int) - 10)))] [] [] 2000)
    (fun k => k ≤ 14 ∧ ∀ j, j < k → fmtT ((j : Int) - 10) ≠ s) (fun k => 14 - k) 0 ⟨by omega, fun j hj => by omega⟩ (le_st _ _ [] [] _ rfl (by simp -implicitDefEqProofs (maxSteps := 2000000) only [go_sem] <;> rfl) trivial trivial) ?_
  rintro k ⟨h1, h2⟩
  by_cases c1 : k < 14
  · have wk : IntKind.i64.wrap ((k : Int) - 10 + 1) = ((k + 1 : Nat) : Int) - 10 := by rw [IntWalk.i64_in _ (by omega)]; omega
    have d1 : decide ((k : Int) - 10 < 4) = true := decide_eq_true (by omega)
    rcases d2 : decide (fmtT ((k : Int) - 10) = s)
    · simp -implicitDefEqProofs (maxSteps := 2000000) only [go_sem, d1]
      refine call_of (specFormatTerm_sat ((k : Int) - 10) (by omega)) (by simp -implicitDefEqProofs (maxSteps := 2000000) only [go_sem, d2, str_beq]) (by kernel_rfl) (by simp -implicitDefEqProofs (maxSteps := 2000000) only [go_sem, d2, str_beq]) ?_
      simp -implicitDefEqProofs (maxSteps := 2000000) only [go_sem, d2, str_beq]
      rw [wk]
      refine ⟨k + 1, ⟨c1, fun j hj => ?_⟩, by omega, (le_st _ _ [] [] _ rfl (by simp -implicitDefEqProofs (maxSteps := 2000000) only [go_sem] <;> rfl) trivial trivial)⟩
      rcases Nat.lt_or_ge j k with h | h
      · exact h2 j h
      · obtain rfl : j = k := by omega
        exact of_decide_eq_false d2
    · have e : pT s = ((k : Int) - 10, true) := by rw [← of_decide_eq_true d2]; exact pT_of ⟨k, c1⟩
      rw [e]
      simp -implicitDefEqProofs (maxSteps := 2000000) only [go_sem, d1]
      refine call_of (specFormatTerm_sat ((k : Int) - 10) (by omega)) (by simp -implicitDefEqProofs (maxSteps := 2000000) only [go_sem, d2, str_beq]) (by kernel_rfl) (by simp -implicitDefEqProofs (maxSteps := 2000000) only [go_sem, d2, str_beq]) ?_
      simp -implicitDefEqProofs (maxSteps := 2000000) only [go_sem, d2, str_beq]
      first | done | rfl | exact ⟨rfl, rfl⟩ | exact ⟨rfl, rfl, rfl⟩ | (refine tr_and ?_ ?_ <;> first | rfl | exact ⟨rfl, rfl⟩ | kernel_rfl)
  · obtain rfl : k = 14 := by omega
    rw [pT_none h2]
    have d1 : decide (((14 : Nat) : Int) - 10 < 4) = false := by decide
    simp -implicitDefEqProofs (maxSteps := 2000000) only [go_sem, d1]
    first | done | rfl | exact ⟨rfl, rfl⟩ | exact ⟨rfl, rfl, rfl⟩ | (refine tr_and ?_ ?_ <;> first | rfl | exact ⟨rfl, rfl⟩ | kernel_rfl)
end Go.Proofs.YtedciihjgbkjgaaGreat.A


/- THE LIBRARY'S JOIN OF STRINGS, of this program. Conditions: none. -/
namespace Go.Proofs.YtedciihjgbkjgaaGreat.A
open Go Go.Shelf
set_option linter.unusedVariables false
set_option maxRecDepth 100000
def tvs (a : List ByteArray) : List Value := a.map Value.string
def sts (a : List ByteArray) : Rows := lift (tvs a)
theorem tvs_length (a : List ByteArray) : (tvs a).length = a.length := by simp [tvs]
theorem sts_length (a : List ByteArray) : (sts a).length = a.length := by simp [sts, lift, tvs]
theorem sts_eq (a : List ByteArray) : sts a = a.map fun n => [Cell.sc (.string n)] := by simp [sts, lift, tvs]
theorem sts_get {a : List ByteArray} {i : Nat} (h : i < a.length) : (sts a).getD i [] = [Cell.sc (.string (a.getD i default))] := by
  simp [sts_eq, List.getD_eq_getElem?_getD, h]
theorem sts_frz (a : List ByteArray) : frz (sts a) = sts a := frz_lift _
theorem sts_rst (a : List ByteArray) : rst (sts a) = sts a := rst_lift _
theorem sts_stm (n : Nat) (a : List ByteArray) : stm n (sts a) = sts a := stm_lift n _
theorem sts_flat (a : List ByteArray) : flatB (sts a) = true := lift_flatB _
theorem sts_unlift (a : List ByteArray) : lift (unlift (sts a)) = sts a := by unfold sts; rw [unlift_lift]
theorem sts_take (a : List ByteArray) (k : Nat) : (sts a).take k = sts (a.take k) := by simp [sts_eq]
theorem sts_drop (a : List ByteArray) (k : Nat) : (sts a).drop k = sts (a.drop k) := by simp [sts_eq]
theorem sts_append (a b : List ByteArray) : sts a ++ sts b = sts (a ++ b) := by simp [sts_eq]
theorem sts_one (n : ByteArray) : [[Cell.sc (.string n)]] = sts [n] := by simp [sts_eq]
theorem lift_tvs (a : List ByteArray) : lift (tvs a) = sts a := rfl
attribute [go_sem] lift_tvs tvs_length sts_length sts_get sts_frz sts_rst sts_stm sts_flat sts_unlift sts_take sts_drop sts_append sts_one
end Go.Proofs.YtedciihjgbkjgaaGreat.A


/- TEXTS JOINED. Conditions: none. -/
namespace Go.Proofs.YtedciihjgbkjgaaGreat.A
open Go
set_option linter.unusedSimpArgs false
set_option linter.unusedVariables false
set_option maxRecDepth 100000

/-! #### texts joined -/
abbrev noB : ByteArray := ⟨#[]⟩
theorem bytes_eq {a b : ByteArray} (h : a.data.toList = b.data.toList) : a = b := Go.WideShapes.bytes_inj h
theorem app_data (a b : ByteArray) : (a ++ b).data.toList = a.data.toList ++ b.data.toList := by
  rw [ByteArray.data_append, Array.toList_append]
theorem size_data (a : ByteArray) : a.size = a.data.toList.length := (Array.length_toList ..).symm
theorem app_size (a b : ByteArray) : (a ++ b).size = a.size + b.size := by rw [size_data, size_data, size_data, app_data, List.length_append]
theorem joinB_data (xs : List ByteArray) (sep : ByteArray) : (joinB xs sep).data.toList = Lib.join (xs.map (·.data.toList)) sep.data.toList := by simp [joinB]
theorem joinB_nil (sep : ByteArray) : joinB [] sep = noB := bytes_eq (by rw [joinB_data]; rfl)
theorem joinB_one (x sep : ByteArray) : joinB [x] sep = x := bytes_eq (by rw [joinB_data, List.map_cons, List.map_nil, Lib.join_one])
theorem joinB_snoc {xs : List ByteArray} (h : xs ≠ []) (y sep : ByteArray) : joinB (xs ++ [y]) sep = joinB xs sep ++ sep ++ y := by
  obtain ⟨x, r, rfl⟩ := List.exists_cons_of_ne_nil h
  apply bytes_eq
  rw [app_data, app_data, joinB_data, joinB_data, List.cons_append, List.map_cons, List.map_cons, Lib.join_cons, Lib.join_cons]
  simp [Lib.joinTail, List.append_assoc]
theorem joinB_size (sep : ByteArray) (m : Nat) : ∀ (xs : List ByteArray), (∀ x ∈ xs, x.size ≤ m) → (joinB xs sep).size ≤ xs.length * (m + sep.size) := by
  intro xs h
  rcases xs with _ | ⟨x, r⟩
  · rw [joinB_nil]; exact Nat.zero_le _
  have hr : ∀ r : List ByteArray, (∀ x ∈ r, x.size ≤ m) → (Lib.joinTail sep.data.toList (r.map (·.data.toList))).length ≤ r.length * (m + sep.size) := by
    intro r
    induction r with
    | nil => intro _; simp [Lib.joinTail]
    | cons y r ih =>
      intro h
      have h1 := ih fun x hx => h x (List.mem_cons_of_mem _ hx)
      have h2 := h y (List.mem_cons_self ..)
      have e : Lib.joinTail sep.data.toList ((y :: r).map (·.data.toList)) = sep.data.toList ++ y.data.toList ++ Lib.joinTail sep.data.toList (r.map (·.data.toList)) := by simp [Lib.joinTail]
      rw [e, List.length_append, List.length_append, ← size_data, ← size_data, List.length_cons, Nat.add_mul, Nat.one_mul]
      omega
  have h1 := hr r fun x hx => h x (List.mem_cons_of_mem _ hx)
  have h2 := h x (List.mem_cons_self ..)
  rw [size_data, joinB_data, List.map_cons, Lib.join_cons, List.length_append, ← size_data, List.length_cons, Nat.add_mul, Nat.one_mul]
  omega
theorem app_noB (a : ByteArray) : a ++ noB = a := bytes_eq (by rw [app_data]; simp)
theorem noB_app (a : ByteArray) : noB ++ a = a := bytes_eq (by rw [app_data]; rfl)
theorem app_ass (a b c : ByteArray) : a ++ b ++ c = a ++ (b ++ c) := bytes_eq (by simp [app_data])
/-- Texts side by side. -/
def catB (xs : List ByteArray) : ByteArray := joinB xs noB
theorem catB_nil : catB [] = noB := joinB_nil _
theorem catB_snoc (xs : List ByteArray) (y : ByteArray) : catB (xs ++ [y]) = catB xs ++ y := by
  unfold catB
  by_cases h : xs = []
  · subst h; rw [List.nil_append, joinB_one, joinB_nil, noB_app]
  · rw [joinB_snoc h, app_noB]
theorem catB_size {xs : List ByteArray} {m : Nat} (h : ∀ x ∈ xs, x.size ≤ m) : (catB xs).size ≤ xs.length * m := by
  have := joinB_size noB m xs h
  rw [show (noB : ByteArray).size = 0 from rfl, Nat.add_zero] at this
  exact this
end Go.Proofs.YtedciihjgbkjgaaGreat.A


/- A TERM's TEXT, the program's. Conditions: none. -/
namespace Go.Proofs.YtedciihjgbkjgaaGreat.A
open Go
set_option linter.unusedSimpArgs false
set_option linter.unusedVariables false
set_option maxRecDepth 100000

end Go.Proofs.YtedciihjgbkjgaaGreat.A


/- THE TEXT OF A QUERY. Conditions: none. -/
namespace Go.Proofs.YtedciihjgbkjgaaGreat.A
open Go
set_option linter.unusedSimpArgs false
set_option linter.unusedVariables false
set_option maxRecDepth 100000

theorem getD_inQ {l : List Int} {y : Int} (h : y ∈ l) : ∃ j, j < l.length ∧ l.getD j 0 = y := by
  obtain ⟨j, hj, e⟩ := List.mem_iff_getElem.mp h
  exact ⟨j, hj, by simp [List.getD_eq_getElem?_getD, hj, e]⟩
abbrev barB : ByteArray := ⟨#[124]⟩
abbrev askB : ByteArray := ⟨#[63]⟩
abbrev blB : ByteArray := ⟨#[32]⟩
def fmtTs (ts : List Int) : List ByteArray := ts.map fmtT
def catT (ts : List Int) : ByteArray := catB (fmtTs ts)
theorem catT_nil : catT [] = noB := catB_nil
theorem fmtT_size (t : Int) : (fmtT t).size ≤ 1 := by
  unfold fmtT
  split
  · exact Nat.le_refl 1
  · exact Nat.zero_le 1
theorem fmtTs_size (ts : List Int) : ∀ x ∈ fmtTs ts, x.size ≤ 1 := by
  intro x hx
  obtain ⟨t, _, rfl⟩ := List.mem_map.mp hx
  exact fmtT_size t
theorem fmtTs_len (ts : List Int) : (fmtTs ts).length = ts.length := List.length_map _
theorem catT_size (ts : List Int) : (catT ts).size ≤ ts.length := by
  have := catB_size (fmtTs_size ts)
  rw [fmtTs_len, Nat.mul_one] at this
  exact this
theorem catT_step {ts : List Int} {k : Nat} (h : k < ts.length) : catT (ts.take (k + 1)) = catT (ts.take k) ++ fmtT (ts.getD k 0) := by
  unfold catT fmtTs
  rw [take_snoc 0 h, List.map_append, List.map_cons, List.map_nil, catB_snoc]
/-- Terms with a bar ahead of one. -/
def barT (ts : List Int) (n : Nat) : ByteArray := if n < ts.length then catT (ts.take n) ++ (barB ++ catT (ts.drop n)) else catT (ts.take n)
def barK (ts : List Int) (n : Nat) : Nat → ByteArray
  | 0 => noB
  | k + 1 => (if k = n then barK ts n k ++ barB else barK ts n k) ++ fmtT (ts.getD k 0)
theorem barK_lo {ts : List Int} {n : Nat} : ∀ {k : Nat}, k ≤ n → k ≤ ts.length → barK ts n k = catT (ts.take k)
  | 0, _, _ => by rw [barK, List.take_zero]; exact catB_nil.symm
  | k + 1, h, hl => by rw [barK, if_neg (by omega), barK_lo (by omega) (by omega), catT_step (by omega)]
theorem barK_hi {ts : List Int} {n : Nat} : ∀ {k : Nat}, n < k → k ≤ ts.length → barK ts n k = catT (ts.take n) ++ (barB ++ catT ((ts.drop n).take (k - n)))
  | 0, h, _ => by omega
  | k + 1, h, hl => by
    by_cases e : k = n
    · subst e
      rw [barK, if_pos rfl, barK_lo (Nat.le_refl _) (by omega), show k + 1 - k = 0 + 1 by omega, catT_step (by rw [List.length_drop]; omega), List.take_zero, app_ass,
        show catT ([] : List Int) = noB from catB_nil, noB_app]
      simp [List.getD_eq_getElem?_getD]
    · rw [barK, if_neg e, barK_hi (by omega) (by omega), show k + 1 - n = (k - n) + 1 by omega, catT_step (by rw [List.length_drop]; omega), app_ass, app_ass,
        show (ts.drop n).getD (k - n) 0 = ts.getD k 0 by simp [List.getD_eq_getElem?_getD, show n + (k - n) = k by omega]]
theorem barK_end {ts : List Int} {n : Nat} (h : n ≤ ts.length) : barK ts n ts.length = barT ts n := by
  unfold barT
  split
  · rw [barK_hi (by omega) (Nat.le_refl _), List.take_of_length_le (l := ts.drop n) (by rw [List.length_drop]; exact Nat.le_refl _)]
  · obtain rfl : n = ts.length := by omega
    rw [barK_lo (Nat.le_refl _) (Nat.le_refl _)]
theorem barK_size (ts : List Int) (n : Nat) : ∀ k, (barK ts n k).size ≤ 2 * k
  | 0 => Nat.le_refl 0
  | k + 1 => by
    have h1 := barK_size ts n k
    have h2 := fmtT_size (ts.getD k 0)
    rw [barK, app_size]
    split
    · rw [app_size]
      have : barB.size = 1 := rfl
      omega
    · omega
def atomText (l : List Rel) (a : RI) : ByteArray := (l.getD a.r.toNat default).name ++ barT a.l (l.getD a.r.toNat default).kl.toNat
def atTs (l : List Rel) (rs : List RI) : List ByteArray := rs.map (atomText l)
def qTexts (l : List Rel) (q : Qu) : List ByteArray := atTs l q.atoms
def quText (l : List Rel) (q : Qu) : ByteArray := if goodQu l q then catT q.free ++ askB ++ joinB (qTexts l q) blB else noB
/-- What holds of an atom of a valid query. -/
structure GoodAt (l : List Rel) (a : RI) (n k : Nat) : Prop where
  r : a.r = n
  kl : (l.getD n default).kl = k
  hn : n < l.length
  hk : k ≤ a.l.length
  hl : a.l.length ≤ 3
  sn : (l.getD n default).name.size = 1
  ht : ∀ t ∈ a.l, -10 ≤ t ∧ t ≤ 3
theorem goodAt_of {l : List Rel} {q : Qu} (g : goodQu l q = true) {i : Nat} (hi : i < q.atoms.length) : ∃ n k : Nat, GoodAt l (q.atoms.getD i default) n k := by
  have h1 := goodQu_at g hi
  have hv := (goodQu_parts g).1
  unfold goodQu goodRels at g
  unfold atomOk relAt at h1
  simp only [Bool.and_eq_true] at g h1
  have h2 := inB_of h1.1.1
  have h3 := upTo_at g.1.1 (show (q.atoms.getD i default).r.toNat < l.length by omega)
  unfold relOk goodRel at h3
  simp only [Bool.and_eq_true, beq_iff_eq] at h3 h1
  have h4 := inB_of h3.1.2.2.2.1
  have h5 := inB_of h3.1.2.2.2.2
  refine ⟨(q.atoms.getD i default).r.toNat, (l.getD (q.atoms.getD i default).r.toNat default).kl.toNat, by omega, by omega, by omega, by have := h1.1.2; omega, by have := h1.1.2; omega, by have := h3.1.1; omega, fun t ht => ?_⟩
  obtain ⟨j, hj, rfl⟩ := getD_inQ ht
  have h6 := upTo_at h1.2.2 hj
  unfold termOk at h6
  have := inB_of h6
  omega
theorem goodFree {l : List Rel} {q : Qu} (g : goodQu l q = true) : ∀ t ∈ q.free, -10 ≤ t ∧ t ≤ 3 := by
  have hv := (goodQu_parts g).1
  unfold goodQu at g
  simp only [Bool.and_eq_true] at g
  have h1 := g.2.2.2.1
  intro t ht
  obtain ⟨j, hj, rfl⟩ := getD_inQ ht
  unfold idxs at h1
  have h2 := upTo_at h1 hj
  unfold idxAt at h2
  simp only [Bool.and_eq_true] at h2
  have := inB_of h2.1
  omega
theorem barT_size {ts : List Int} {n : Nat} (h : n ≤ ts.length) : (barT ts n).size ≤ 2 * ts.length := by
  rw [← barK_end h]; exact barK_size ts n _
theorem atomText_size {l : List Rel} {a : RI} {n k : Nat} (G : GoodAt l a n k) : (atomText l a).size ≤ 7 := by
  have h1 := barT_size G.hk
  have h2 := G.hl
  rw [atomText, app_size, G.r, Int.toNat_natCast, G.sn, G.kl, Int.toNat_natCast]
  omega
theorem qTexts_mem {l : List Rel} {q : Qu} (g : goodQu l q = true) : ∀ x ∈ qTexts l q, x.size ≤ 7 := by
  intro x hx
  obtain ⟨a, ha, rfl⟩ := List.mem_map.mp hx
  obtain ⟨i, hi, e⟩ := List.mem_iff_getElem.mp ha
  obtain ⟨n, k, G⟩ := goodAt_of g hi
  have : q.atoms.getD i default = a := by simp [List.getD_eq_getElem?_getD, hi, e]
  rw [this] at G
  exact atomText_size G
theorem atTs_step {l : List Rel} {rs : List RI} {k : Nat} (h : k < rs.length) : atTs l (rs.take (k + 1)) = atTs l (rs.take k) ++ [atomText l (rs.getD k default)] := by
  unfold atTs; rw [take_snoc default h, List.map_append]; rfl
theorem atTs_len (l : List Rel) (rs : List RI) : (atTs l rs).length = rs.length := List.length_map _
theorem l11Atom_sat (l : List Rel) (a : RI) (n k : Nat) (hl : l.length ≤ 9223372036854775807) (G : GoodAt l a n k) : Sat Tryz.prog 131 [lRels l, lRI a] [lStr (atomText l a)] [g1, g2] := by
  refine sat_of_body mixed Tryz.func131 rfl (by kernel_rfl) (by kernel_rfl) (rs := [.tmp 4]) rfl rfl rfl ?_
  obtain ⟨er, ek, hn, hk, h3, sn, ht⟩ := G
  unfold atomText
  rcases a with ⟨r, ts⟩
  simp only at er ek hk h3 ht
  subst er
  rw [Int.toNat_natCast, ek, Int.toNat_natCast, ← barK_end hk]
  simp -implicitDefEqProofs (maxSteps := 2000000) only [go_sem, hn]
  refine awp_loop Nat (fun j => mkSt [(0, .one (.im 3 (rels l))), (3, .one (.vad 1000 0)), (5, .sc (.string ((l.getD n default).name ++ barK ts k j))), (6, .sc (.int .i64 j))] [(1000, sRI ⟨n, ts⟩)] [] 3000)
    (fun j => j ≤ ts.length) (fun j => ts.length - j) 0 (by omega) (le_st _ _ [] [] _ rfl (by simp -implicitDefEqProofs (maxSteps := 2000000) only [go_sem, barK, app_noB] <;> rfl) (by simp -implicitDefEqProofs (maxSteps := 2000000) only [go_sem, barK, app_noB] <;> rfl) (by simp -implicitDefEqProofs (maxSteps := 2000000) only [go_sem, barK, app_noB] <;> rfl)) ?_
  rintro j h1
  by_cases c1 : j < ts.length
  · have wj : IntKind.i64.wrap ((j : Int) + 1) = ((j + 1 : Nat) : Int) := i64_succ (by omega)
    have hr := ht _ (mem_getD 0 c1)
    have hbs := barK_size ts k j
    have hfs := fmtT_size (ts.getD j 0)
    have b1 : barB.size = 1 := rfl
    by_cases e : j = k
    · have d1 : (((j : Nat) : Int) == ((k : Nat) : Int)) = true := by rw [beq_iff_eq]; omega
      have hst : (l.getD n default).name ++ barK ts k (j + 1) = (l.getD n default).name ++ barK ts k j ++ barB ++ fmtT (ts.getD j 0) := by rw [barK, if_pos e, app_ass, app_ass, app_ass]
      simp -implicitDefEqProofs (maxSteps := 2000000) only [go_sem, c1, hn, ek, d1, app_size, sn]
      refine ⟨by omega, ?_⟩
      refine call_of (specFormatTerm_sat (ts.getD j 0) (by omega)) (by simp -implicitDefEqProofs (maxSteps := 2000000) only [go_sem, c1, app_size, sn]) (by kernel_rfl) (by simp -implicitDefEqProofs (maxSteps := 2000000) only [go_sem, c1, app_size, sn]) ?_
      simp -implicitDefEqProofs (maxSteps := 2000000) only [go_sem, c1, app_size, sn]
      refine ⟨by omega, ?_⟩
      rw [wj]
      exact ⟨j + 1, c1, by omega, (le_st _ _ [] [] _ rfl (by simp -implicitDefEqProofs (maxSteps := 2000000) only [go_sem, hst] <;> rfl) (by simp -implicitDefEqProofs (maxSteps := 2000000) only [go_sem, hst] <;> rfl) (by simp -implicitDefEqProofs (maxSteps := 2000000) only [go_sem, hst] <;> rfl))⟩
    · have d1 : (((j : Nat) : Int) == ((k : Nat) : Int)) = false := by rw [beq_eq_false_iff_ne]; omega
      have hst : (l.getD n default).name ++ barK ts k (j + 1) = (l.getD n default).name ++ barK ts k j ++ fmtT (ts.getD j 0) := by rw [barK, if_neg e, app_ass]
      simp -implicitDefEqProofs (maxSteps := 2000000) only [go_sem, c1, hn, ek, d1, app_size, sn]
      refine call_of (specFormatTerm_sat (ts.getD j 0) (by omega)) (by simp -implicitDefEqProofs (maxSteps := 2000000) only [go_sem, c1, app_size, sn]) (by kernel_rfl) (by simp -implicitDefEqProofs (maxSteps := 2000000) only [go_sem, c1, app_size, sn]) ?_
      simp -implicitDefEqProofs (maxSteps := 2000000) only [go_sem, c1, app_size, sn]
      refine ⟨by omega, ?_⟩
      rw [wj]
      exact ⟨j + 1, c1, by omega, (le_st _ _ [] [] _ rfl (by simp -implicitDefEqProofs (maxSteps := 2000000) only [go_sem, hst] <;> rfl) (by simp -implicitDefEqProofs (maxSteps := 2000000) only [go_sem, hst] <;> rfl) (by simp -implicitDefEqProofs (maxSteps := 2000000) only [go_sem, hst] <;> rfl))⟩
  · obtain rfl : j = ts.length := by omega
    simp -implicitDefEqProofs (maxSteps := 2000000) only [go_sem, c1]
    first | done | rfl | exact ⟨rfl, rfl⟩ | exact ⟨rfl, rfl, rfl⟩ | (refine tr_and ?_ ?_ <;> first | rfl | exact ⟨rfl, rfl⟩ | kernel_rfl)
theorem specFormatQuery_sat (l : List Rel) (q : Qu) (hl : l.length ≤ 9223372036854775807) (hq : q.ok) : Sat Tryz.prog 108 [lRels l, lQu q] [lStr (quText l q)] [g1, g3] := by
  refine sat_of_body mixed Tryz.func108 rfl (by kernel_rfl) (by kernel_rfl) (rs := [.tmp 4]) rfl rfl rfl ?_
  have hqf : q.fit := hq.fit
  unfold quText
  rcases g : goodQu l q
  · rw [if_neg (by simp)]
    simp -implicitDefEqProofs (maxSteps := 2000000) only [go_sem]
    refine call_of (specIsValidQuery_sat l q hl hqf) (by simp -implicitDefEqProofs (maxSteps := 2000000) only [go_sem, g]) (by kernel_rfl) (by simp -implicitDefEqProofs (maxSteps := 2000000) only [go_sem, g]) ?_
    simp -implicitDefEqProofs (maxSteps := 2000000) only [go_sem, g]
    first | done | rfl | exact ⟨rfl, rfl⟩ | exact ⟨rfl, rfl, rfl⟩ | (refine tr_and ?_ ?_ <;> first | rfl | exact ⟨rfl, rfl⟩ | kernel_rfl)
  rw [if_pos rfl]
  obtain ⟨hv, hn1, hn⟩ := goodQu_parts g
  have hf := goodFree g
  have hfl : q.free.length ≤ 1048576 := hq.2
  have s3 : askB.size = 1 := rfl
  have s4 : blB.size = 1 := rfl
  simp -implicitDefEqProofs (maxSteps := 2000000) only [go_sem]
  refine call_of (specIsValidQuery_sat l q hl hqf) (by simp -implicitDefEqProofs (maxSteps := 2000000) only [go_sem, g]) (by kernel_rfl) (by simp -implicitDefEqProofs (maxSteps := 2000000) only [go_sem, g]) ?_
  simp -implicitDefEqProofs (maxSteps := 2000000) only [go_sem, g]
  refine awp_loop Nat (fun k => mkSt [(0, .one (.im 3 (rels l))), (3, .one (.vad 1000 0)), (5, .sc (.string (catT (q.free.take k)))), (6, .sc (.int .i64 k))] [(1000, sQu q)] [] 6000)
    (fun k => k ≤ q.free.length) (fun k => q.free.length - k) 0 (by omega) (le_st _ _ [] [] _ rfl (by simp -implicitDefEqProofs (maxSteps := 2000000) only [go_sem, List.take_zero, catT_nil] <;> rfl) (by simp -implicitDefEqProofs (maxSteps := 2000000) only [go_sem, List.take_zero, catT_nil] <;> rfl) (by simp -implicitDefEqProofs (maxSteps := 2000000) only [go_sem, List.take_zero, catT_nil] <;> rfl)) ?_
  rintro k h1
  by_cases c1 : k < q.free.length
  · have wk : IntKind.i64.wrap ((k : Int) + 1) = ((k + 1 : Nat) : Int) := i64_succ (by omega)
    have hst := catT_step c1
    have hr := hf _ (mem_getD 0 c1)
    have s5 := catT_size (q.free.take k)
    rw [List.length_take] at s5
    have s6 := fmtT_size (q.free.getD k 0)
    simp -implicitDefEqProofs (maxSteps := 2000000) only [go_sem, c1]
    refine call_of (specFormatTerm_sat (q.free.getD k 0) (by omega)) (by simp -implicitDefEqProofs (maxSteps := 2000000) only [go_sem, c1]) (by kernel_rfl) (by simp -implicitDefEqProofs (maxSteps := 2000000) only [go_sem, c1]) ?_
    simp -implicitDefEqProofs (maxSteps := 2000000) only [go_sem, c1]
    refine ⟨by omega, ?_⟩
    rw [wk]
    exact ⟨k + 1, c1, by omega, (le_st _ _ [] [] _ rfl (by simp -implicitDefEqProofs (maxSteps := 2000000) only [go_sem, hst] <;> rfl) (by simp -implicitDefEqProofs (maxSteps := 2000000) only [go_sem, hst] <;> rfl) (by simp -implicitDefEqProofs (maxSteps := 2000000) only [go_sem, hst] <;> rfl))⟩
  obtain rfl : k = q.free.length := by omega
  have s5 := catT_size q.free
  rw [List.take_length]
  simp -implicitDefEqProofs (maxSteps := 2000000) only [go_sem, c1, app_size]
  refine ⟨by omega, ?_⟩
  refine awp_loop Nat (fun k => mkSt [(0, .one (.im 3 (rels l))), (3, .one (.vad 1000 0)), (5, .sc (.string (catT q.free ++ askB ++ joinB (atTs l (q.atoms.take k)) blB))), (7, .sc (.int .i64 k))] [(1000, sQu q)] [] 9000)
    (fun k => k ≤ q.atoms.length) (fun k => q.atoms.length - k) 0 (by omega) (le_st _ _ [] [] _ rfl (by simp -implicitDefEqProofs (maxSteps := 2000000) only [go_sem, atTs, List.take_zero, List.map_nil, joinB_nil, app_noB] <;> rfl) (by simp -implicitDefEqProofs (maxSteps := 2000000) only [go_sem, atTs, List.take_zero, List.map_nil, joinB_nil, app_noB] <;> rfl) (by simp -implicitDefEqProofs (maxSteps := 2000000) only [go_sem, atTs, List.take_zero, List.map_nil, joinB_nil, app_noB] <;> rfl)) ?_
  rintro k h2
  by_cases c2 : k < q.atoms.length
  · have wk : IntKind.i64.wrap ((k : Int) + 1) = ((k + 1 : Nat) : Int) := i64_succ (by omega)
    obtain ⟨n, m, G⟩ := goodAt_of g c2
    have hst := atTs_step (l := l) c2
    have s6 := atomText_size G
    have s7 := joinB_size blB 7 (atTs l (q.atoms.take k)) (fun x hx => by
      obtain ⟨a, ha, rfl⟩ := List.mem_map.mp hx
      exact qTexts_mem g _ (List.mem_map.mpr ⟨a, List.mem_of_mem_take ha, rfl⟩))
    rw [atTs_len, List.length_take, s4] at s7
    have s8 : min k q.atoms.length * (7 + 1) ≤ 3 * 8 := Nat.mul_le_mul (by omega) (by omega)
    rcases k with _ | k
    · have e1 : catT q.free ++ askB ++ joinB (atTs l (q.atoms.take (0 + 1))) blB = catT q.free ++ askB ++ atomText l (q.atoms.getD 0 default) := by
        rw [hst, show atTs l (q.atoms.take 0) = [] from rfl, List.nil_append, joinB_one]
      have e0 : joinB (atTs l []) blB = noB := joinB_nil _
      have d1 : decide ((0 : Int) < ((q.atoms.length : Nat) : Int)) = true := decide_eq_true (by omega)
      simp -implicitDefEqProofs (maxSteps := 2000000) only [go_sem, d1, c2, app_size, e0, app_noB]
      refine call_of (l11Atom_sat l (q.atoms.getD 0 default) n m hl G) (by simp -implicitDefEqProofs (maxSteps := 2000000) only [go_sem, c2, app_size, e0, app_noB]) (by kernel_rfl) (by simp -implicitDefEqProofs (maxSteps := 2000000) only [go_sem, c2, app_size, e0, app_noB]) ?_
      simp -implicitDefEqProofs (maxSteps := 2000000) only [go_sem, c2, app_size, e0, app_noB]
      refine ⟨by omega, ?_⟩
      exact ⟨0 + 1, c2, by omega, (le_st _ _ [] [] _ rfl (by simp -implicitDefEqProofs (maxSteps := 2000000) only [go_sem, e1] <;> rfl) (by simp -implicitDefEqProofs (maxSteps := 2000000) only [go_sem, e1] <;> rfl) (by simp -implicitDefEqProofs (maxSteps := 2000000) only [go_sem, e1] <;> rfl))⟩
    · have hne : atTs l (q.atoms.take (k + 1)) ≠ [] := fun e => by
        have := congrArg List.length e
        rw [atTs_len, List.length_take] at this
        rw [List.length_nil] at this
        omega
      have e1 : catT q.free ++ askB ++ joinB (atTs l (q.atoms.take (k + 1 + 1))) blB = catT q.free ++ askB ++ joinB (atTs l (q.atoms.take (k + 1))) blB ++ blB ++ atomText l (q.atoms.getD (k + 1) default) := by
        rw [hst, joinB_snoc hne]
        simp only [app_ass]
      have d1 : decide (((k + 1 : Nat) : Int) > 0) = true := decide_eq_true (by omega)
      simp -implicitDefEqProofs (maxSteps := 2000000) only [go_sem, c2, d1, app_size]
      refine ⟨by omega, ?_⟩
      refine call_of (l11Atom_sat l (q.atoms.getD (k + 1) default) n m hl G) (by simp -implicitDefEqProofs (maxSteps := 2000000) only [go_sem, c2, app_size]) (by kernel_rfl) (by simp -implicitDefEqProofs (maxSteps := 2000000) only [go_sem, c2, app_size]) ?_
      simp -implicitDefEqProofs (maxSteps := 2000000) only [go_sem, c2, app_size]
      refine ⟨by omega, ?_⟩
      rw [wk]
      exact ⟨k + 1 + 1, c2, by omega, (le_st _ _ [] [] _ rfl (by simp -implicitDefEqProofs (maxSteps := 2000000) only [go_sem, e1] <;> rfl) (by simp -implicitDefEqProofs (maxSteps := 2000000) only [go_sem, e1] <;> rfl) (by simp -implicitDefEqProofs (maxSteps := 2000000) only [go_sem, e1] <;> rfl))⟩
  · obtain rfl : k = q.atoms.length := by omega
    rw [List.take_length]
    simp -implicitDefEqProofs (maxSteps := 2000000) only [go_sem, c2]
    first | done | rfl | exact ⟨rfl, rfl⟩ | exact ⟨rfl, rfl, rfl⟩ | (refine tr_and ?_ ?_ <;> first | rfl | exact ⟨rfl, rfl⟩ | kernel_rfl)
end Go.Proofs.YtedciihjgbkjgaaGreat.A


/- A QUERY READ FROM A TEXT: the reference. Conditions: none. -/
namespace Go.Proofs.YtedciihjgbkjgaaGreat.A
open Go
set_option linter.unusedSimpArgs false
set_option linter.unusedVariables false
set_option maxRecDepth 100000

/-! #### a text cut at a sign -/
abbrev byA (s : ByteArray) (i : Nat) : Nat := (s.data.toList.getD i 0).toNat
def splA (s : ByteArray) (c : Nat) : Nat → Nat
  | 0 => 0
  | i + 1 => if byA s i = c then i + 1 else splA s c i
def splO (s : ByteArray) (c : Nat) : Nat → List ByteArray
  | 0 => []
  | i + 1 => if byA s i = c then splO s c i ++ [s.extract (splA s c i) i] else splO s c i
def splS (s : ByteArray) (c : Nat) : List ByteArray := splO s c s.size ++ [s.extract (splA s c s.size) s.size]
theorem splA_le (s : ByteArray) (c : Nat) : ∀ i, splA s c i ≤ i
  | 0 => Nat.le_refl _
  | i + 1 => by
    have := splA_le s c i
    rw [splA]; split <;> omega
theorem splO_len (s : ByteArray) (c : Nat) : ∀ i, (splO s c i).length ≤ i
  | 0 => Nat.le_refl _
  | i + 1 => by
    have := splO_len s c i
    rw [splO]; split
    · rw [List.length_append, List.length_singleton]; omega
    · omega
theorem splS_len (s : ByteArray) (c : Nat) : (splS s c).length ≤ s.size + 1 := by
  have := splO_len s c s.size
  unfold splS
  rw [List.length_append, List.length_singleton]; omega
theorem ext_size (s : ByteArray) (a b : Nat) : (s.extract a b).size ≤ s.size := by
  rw [ByteArray.size_extract]; omega
theorem splO_mem (s : ByteArray) (c : Nat) : ∀ (i : Nat), ∀ x ∈ splO s c i, x.size ≤ s.size
  | 0, x, hx => by cases hx
  | i + 1, x, hx => by
    rw [splO] at hx
    split at hx
    · rcases List.mem_append.mp hx with h | h
      · exact splO_mem s c i x h
      · rw [List.mem_singleton.mp h]; exact ext_size _ _ _
    · exact splO_mem s c i x hx
theorem splS_mem (s : ByteArray) (c : Nat) : ∀ x ∈ splS s c, x.size ≤ s.size := by
  intro x hx
  rcases List.mem_append.mp hx with h | h
  · exact splO_mem s c _ x h
  · rw [List.mem_singleton.mp h]; exact ext_size _ _ _
theorem txs_append (a b : List ByteArray) : txs a ++ txs b = txs (a ++ b) := by simp [txs]
theorem txs_flat (a : List ByteArray) : flatB (txs a) = true := by simp [flatB, txs, cTx, Cell.flatB]
theorem txs_stm (n : Nat) (a : List ByteArray) : stm n (txs a) = txs a := stm_map n _ _ (fun _ => rfl) a
theorem txs_nil : txs [] = [] := rfl
attribute [go_sem] txs_append txs_flat txs_stm
theorem repP {α : Type} (a : α) : List.replicate 1 a = [a] := rfl
theorem u8_eq {a b : Nat} : (((a : Nat) : Int) == ((b : Nat) : Int)) = decide (a = b) := by
  rw [Bool.eq_iff_iff, beq_iff_eq, decide_eq_true_iff]; omega
theorem l6Cut_sat (s : ByteArray) (c : Nat) (h : s.size ≤ 1048576) : Sat Tryz.prog 105 [lStr s, .one (.sc (.int .u8 c))] [.one (.ow 1 (txs (splS s c)))] [g1, g1] := by
  refine sat_of_body mixed Tryz.func105 rfl (by kernel_rfl) (by kernel_rfl) (rs := [.tmp 4]) rfl rfl rfl ?_
  simp -implicitDefEqProofs (maxSteps := 2000000) only [go_sem]
  refine awp_loop Nat (fun i => mkSt [(0, .sc (.string s)), (1, .sc (.int .u8 c)), (5, .one (.ref 960 1 0 (splO s c i).length)), (6, .sc (.int .i64 (splA s c i))), (7, .sc (.int .i64 i))] [] [(960, (1, txs (splO s c i)))] 4000)
    (fun i => i ≤ s.size) (fun i => s.size - i) 0 (by omega) (le_st' _ _ [⟨960, some _, false, 1, _⟩] [] _ (by simp -implicitDefEqProofs (maxSteps := 2000000) only [go_sem, splO, splA, txs_nil, List.length_nil] <;> and_intros <;> rfl) (by simp -implicitDefEqProofs (maxSteps := 2000000) only [go_sem, splO, splA, txs_nil, List.length_nil] <;> and_intros <;> rfl) (by simp -implicitDefEqProofs (maxSteps := 2000000) only [go_sem, splO, splA, txs_nil, List.length_nil] <;> and_intros <;> rfl) (by rfl)) ?_
  rintro i h1
  have hl := splO_len s c i
  have ha := splA_le s c i
  by_cases c1 : i < s.size
  · have wi : IntKind.i64.wrap ((i : Int) + 1) = ((i + 1 : Nat) : Int) := i64_succ (by omega)
    rcases d : decide (byA s i = c)
    · have e1 : splO s c (i + 1) = splO s c i := by rw [splO, if_neg (of_decide_eq_false d)]
      have e2 : splA s c (i + 1) = splA s c i := by rw [splA, if_neg (of_decide_eq_false d)]
      simp -implicitDefEqProofs (maxSteps := 2000000) only [go_sem, c1, u8_eq, d, wi]
      exact ⟨i + 1, c1, by omega, (le_st' _ _ [⟨960, some _, false, 1, _⟩] [] _ (by simp -implicitDefEqProofs (maxSteps := 2000000) only [go_sem, e1, e2] <;> and_intros <;> rfl) (by simp -implicitDefEqProofs (maxSteps := 2000000) only [go_sem, e1, e2] <;> and_intros <;> rfl) (by simp -implicitDefEqProofs (maxSteps := 2000000) only [go_sem, e1, e2] <;> and_intros <;> rfl) (by rfl))⟩
    · have e1 : splO s c (i + 1) = splO s c i ++ [s.extract (splA s c i) i] := by rw [splO, if_pos (of_decide_eq_true d)]
      have e2 : splA s c (i + 1) = i + 1 := by rw [splA, if_pos (of_decide_eq_true d)]
      simp -implicitDefEqProofs (maxSteps := 2000000) only [go_sem, c1, u8_eq, d, wi]
      repeat (refine And.intro (by omega) ?_)
      exact ⟨i + 1, c1, by omega, (le_st' _ _ [⟨960, some _, false, 1, _⟩] [] _ (by simp -implicitDefEqProofs (maxSteps := 2000000) only [go_sem, e1, e2, repP, List.set_cons_zero] <;> and_intros <;> rfl) (by simp -implicitDefEqProofs (maxSteps := 2000000) only [go_sem, e1, e2, repP, List.set_cons_zero] <;> and_intros <;> rfl) (by simp -implicitDefEqProofs (maxSteps := 2000000) only [go_sem, e1, e2, repP, List.set_cons_zero] <;> and_intros <;> rfl) (by rfl))⟩
  · obtain rfl : i = s.size := by omega
    simp -implicitDefEqProofs (maxSteps := 2000000) only [go_sem, c1]
    repeat (refine And.intro (by omega) ?_)
    exact ⟨rfl, rfl⟩
/-! #### where a name stands -/
def nameNo (l : List Rel) (s : ByteArray) (i : Nat) : Bool := !decide ((l.getD i default).name = s)
def relIx (l : List Rel) (s : ByteArray) : Int := firstNo (nameNo l s) l.length 0
theorem specRelationIndex_sat (l : List Rel) (s : ByteArray) (h : l.length ≤ 9223372036854775807) : Sat Tryz.prog 107 [lRels l, lStr s] [lInt (relIx l s)] [g1, g1] := by
  refine sat_of_body mixed Tryz.func107 rfl (by kernel_rfl) (by kernel_rfl) (rs := [.tmp 4]) rfl rfl rfl ?_
  unfold relIx
  generalize hp : nameNo l s = p
  have hp' : ∀ i, p i = !decide ((l.getD i default).name = s) := fun i => by rw [← hp]; rfl
  simp -implicitDefEqProofs (maxSteps := 2000000) only [go_sem]
  refine awp_loop Nat (fun k => mkSt [(0, .one (.im 3 (rels l))), (1, .sc (.string s)), (5, .sc (.int .i64 k))] [] [] 3000)
    (fun k => k ≤ l.length ∧ firstNo p (l.length - k) k = firstNo p l.length 0) (fun k => l.length - k) 0 ⟨by omega, by rw [Nat.sub_zero]⟩ (le_st _ _ [] [] _ rfl (by simp -implicitDefEqProofs (maxSteps := 2000000) only [go_sem] <;> rfl) trivial trivial) ?_
  rintro k ⟨h1, h2⟩
  by_cases c1 : k < l.length
  · rw [show l.length - k = (l.length - (k + 1)) + 1 by omega, firstNo, hp'] at h2
    rcases e : decide ((l.getD k default).name = s)
    · rw [e, Bool.not_false, if_pos rfl] at h2
      simp -implicitDefEqProofs (maxSteps := 2000000) only [go_sem, c1, e]
      rw [i64_succ (by omega)]
      exact ⟨k + 1, ⟨c1, h2⟩, by omega, (le_st _ _ [] [] _ rfl (by simp -implicitDefEqProofs (maxSteps := 2000000) only [go_sem] <;> rfl) trivial trivial)⟩
    · rw [e, Bool.not_true, if_neg (by simp)] at h2
      simp -implicitDefEqProofs (maxSteps := 2000000) only [go_sem, c1, e]
      rw [← h2]
  · obtain rfl : k = l.length := by omega
    rw [Nat.sub_self, firstNo] at h2
    simp -implicitDefEqProofs (maxSteps := 2000000) only [go_sem, c1]
    rw [← h2]
/-! #### the parts of a query's text -/
def t1 (s : ByteArray) (i : Nat) : Int := (pT (s.extract i (i + 1))).1
def freeT (w : ByteArray) : Nat → List Int
  | 0 => []
  | i + 1 => freeT w i ++ [t1 w i]
def skipT (p : ByteArray) (k : Nat) : Bool := decide (k = 0) || decide (byA p k = 124)
def wordT (p : ByteArray) : Nat → List Int
  | 0 => []
  | k + 1 => if skipT p k then wordT p k else wordT p k ++ [t1 p k]
def wordV (p : ByteArray) (m : Int) : Nat → Int
  | 0 => m
  | k + 1 => if skipT p k then wordV p m k else if t1 p k + 1 > wordV p m k then t1 p k + 1 else wordV p m k
def wordR (l : List Rel) (p : ByteArray) : Nat → Int
  | 0 => 0
  | k + 1 => if k = 0 then relIx l (p.extract 0 1) else wordR l p k
def wordA (l : List Rel) (p : ByteArray) : RI := ⟨wordR l p p.size, wordT p p.size⟩
def allV (ps : List ByteArray) : Nat → Int
  | 0 => 0
  | i + 1 => wordV (ps.getD i ⟨#[]⟩) (allV ps i) (ps.getD i ⟨#[]⟩).size
def allA (l : List Rel) (ps : List ByteArray) (n : Nat) : List RI := (ps.take n).map (wordA l)
def readQ (l : List Rel) (s : ByteArray) : Qu := ⟨allV (splS ((splS s 63).getD 1 ⟨#[]⟩) 32) (splS ((splS s 63).getD 1 ⟨#[]⟩) 32).length, allA l (splS ((splS s 63).getD 1 ⟨#[]⟩) 32) (splS ((splS s 63).getD 1 ⟨#[]⟩) 32).length, freeT ((splS s 63).getD 0 ⟨#[]⟩) ((splS s 63).getD 0 ⟨#[]⟩).size⟩
def noQ : Qu := ⟨0, [], []⟩
def okQ (l : List Rel) (s : ByteArray) : Bool := decide ((splS s 63).length = 2) && decide (quText l (readQ l s) = s)
def parQ (l : List Rel) (s : ByteArray) : Qu := if okQ l s then readQ l s else noQ
theorem freeT_len (w : ByteArray) : ∀ i, (freeT w i).length = i
  | 0 => rfl
  | i + 1 => by rw [freeT, List.length_append, freeT_len w i]; rfl
theorem wordT_len (p : ByteArray) : ∀ i, (wordT p i).length ≤ i
  | 0 => Nat.le_refl _
  | i + 1 => by
    have := wordT_len p i
    rw [wordT]; split
    · omega
    · rw [List.length_append, List.length_singleton]; omega
theorem pT_lo (s : ByteArray) : -10 ≤ (pT s).1 ∧ (pT s).1 ≤ 3 := by
  unfold pT
  split
  · unfold p1
    split
    · simp
    split
    · simp
    split
    · simp
    split
    · simp
    split
    · simp only; omega
    · simp
  · simp
theorem wordV_lo {p : ByteArray} {m : Int} (h : 0 ≤ m ∧ m ≤ 4) : ∀ k, 0 ≤ wordV p m k ∧ wordV p m k ≤ 4
  | 0 => h
  | k + 1 => by
    have h1 := wordV_lo (p := p) h k
    have h2 := pT_lo (p.extract k (k + 1))
    rw [wordV]; split
    · exact h1
    · unfold t1; split <;> omega
theorem allV_lo (ps : List ByteArray) : ∀ i, 0 ≤ allV ps i ∧ allV ps i ≤ 4
  | 0 => by simp [allV]
  | i + 1 => wordV_lo (allV_lo ps i) _
theorem readQ_ok {l : List Rel} {s : ByteArray} (h : s.size ≤ 1048575) : (readQ l s).ok := by
  have m1 : ∀ i, ((splS s 63).getD i ⟨#[]⟩).size ≤ s.size := by
    intro i
    rcases Nat.lt_or_ge i (splS s 63).length with hi | hi
    · exact splS_mem s 63 _ (mem_getD (⟨#[]⟩ : ByteArray) hi)
    · rw [List.getD_eq_getElem?_getD, List.getElem?_eq_none hi]; exact Nat.zero_le _
  have a0 := m1 0
  have a1 := m1 1
  unfold readQ Qu.ok
  generalize (splS s 63).getD 1 ⟨#[]⟩ = w at a1
  have b1 := splS_len w 32
  refine ⟨⟨?_, fun x hx => ?_⟩, ?_⟩
  · show (allA l (splS w 32) (splS w 32).length).length ≤ _
    unfold allA
    rw [List.length_map, List.length_take]; omega
  · unfold allA at hx
    obtain ⟨p, hp, rfl⟩ := List.mem_map.mp hx
    have b2 := splS_mem w 32 p (List.mem_of_mem_take hp)
    have b3 := wordT_len p p.size
    unfold RI.ok wordA
    simp only
    omega
  · show (freeT _ _).length ≤ _
    rw [freeT_len]; omega
theorem wordA_step {l : List Rel} {ps : List ByteArray} {k : Nat} (h : k < ps.length) : allA l ps (k + 1) = allA l ps k ++ [wordA l (ps.getD k ⟨#[]⟩)] := by
  unfold allA
  rw [take_snoc (⟨#[]⟩ : ByteArray) h, List.map_append]; rfl
theorem allA_len (l : List Rel) (ps : List ByteArray) {k : Nat} (h : k ≤ ps.length) : (allA l ps k).length = k := by
  unfold allA
  rw [List.length_map, List.length_take]; omega
abbrev zQ3 : List SV := [.sc (.int .i64 0), .sc (.slice none 0 0), .sc (.slice none 0 0)]
set_option maxHeartbeats 8000000 in
theorem specParseQuery_sat (l : List Rel) (s : ByteArray) (hl : l.length ≤ 9223372036854775807) (h : s.size ≤ 1048575) : Sat Tryz.prog 82 [lRels l, lStr s] [oQu (parQ l s), lBool (okQ l s)] [g1, g1] := by
  refine sat_of_body mixed Tryz.func82 rfl (by kernel_rfl) (by kernel_rfl) (rs := [.cell 4 31, .tmp 5]) rfl rfl rfl ?_
  have hq := readQ_ok (l := l) h
  have hcl := splS_len s 63
  by_cases h2 : (splS s 63).length = 2
  case neg =>
    have e1 : parQ l s = noQ := by rw [parQ, okQ, decide_eq_false h2]; rfl
    have e2 : okQ l s = false := by rw [okQ, decide_eq_false h2]; rfl
    have d2 : ((((splS s 63).length : Nat) : Int) != 2) = true := by rw [bne_iff_ne]; omega
    rw [e1, e2]
    simp -implicitDefEqProofs (maxSteps := 2000000) only [go_sem]
    refine call_of (l6Cut_sat s 63 (by omega)) (by simp -implicitDefEqProofs (maxSteps := 2000000) only [go_sem, d2] <;> and_intros <;> rfl) (by kernel_rfl) (by simp -implicitDefEqProofs (maxSteps := 2000000) only [go_sem, d2]) ?_
    simp -implicitDefEqProofs (maxSteps := 2000000) only [go_sem, d2]
    and_intros <;> rfl
  have d2 : (((2 : Nat) : Int) != 2) = false := rfl
  have hrd : readQ l s = readQ l s := rfl
  obtain ⟨w0, w1, hw⟩ : ∃ w0 w1, splS s 63 = [w0, w1] := by
    rcases e : splS s 63 with _ | ⟨a, _ | ⟨b, _ | ⟨c, r⟩⟩⟩
    · rw [e] at h2; simp at h2
    · rw [e] at h2; simp at h2
    · exact ⟨a, b, rfl⟩
    · rw [e] at h2; simp at h2
  have hs0 : w0.size ≤ s.size := splS_mem s 63 w0 (by rw [hw]; simp)
  have hs1 : w1.size ≤ s.size := splS_mem s 63 w1 (by rw [hw]; simp)
  have s1 := l6Cut_sat s 63 (by omega)
  rw [hw] at s1
  have hR : readQ l s = ⟨allV (splS w1 32) (splS w1 32).length, allA l (splS w1 32) (splS w1 32).length, freeT w0 w0.size⟩ := by unfold readQ; rw [hw]; rfl
  have hpl := splS_len w1 32
  have hpm := splS_mem w1 32
  have e0 : (txs [w0, w1]).getD 0 [] = [.sc (.string w0)] := rfl
  have e1 : (txs [w0, w1]).getD 1 [] = [.sc (.string w1)] := rfl
  have e2 : okQ l s = decide (quText l (readQ l s) = s) := by rw [okQ, decide_eq_true h2, Bool.true_and]
  have s2 := l6Cut_sat w1 32 (by omega)
  rw [parQ, e2]
  rw [hR] at hq ⊢
  generalize splS w1 32 = ps at hpl hpm s2 hq ⊢
  simp -implicitDefEqProofs (maxSteps := 2000000) only [go_sem]
  refine call_of (s1) (by simp -implicitDefEqProofs (maxSteps := 2000000) only [go_sem, d2] <;> and_intros <;> rfl) (by kernel_rfl) (by simp -implicitDefEqProofs (maxSteps := 2000000) only [go_sem, d2]) ?_
  simp -implicitDefEqProofs (maxSteps := 2000000) only [go_sem, d2]
  refine awp_loop Nat (fun i => mkSt [(0, .one (.im 3 (rels l))), (1, .sc (.string s)), (4, .one (.vad 1000 0)), (5, .sc (.bool false)), (6, .one (.ref 960 1 0 2)), (7, .one (.vad 1576 0)), (8, .sc (.int .i64 i))] [(1000, zQ3), (1576, [.sc (.int .i64 0), .sc (.slice none 0 0), .ref 961 1 0 i])] [(960, (1, txs [w0, w1])), (961, (1, ints (freeT w0 i)))] 4000)
    (fun i => i ≤ w0.size) (fun i => w0.size - i) 0 (by omega) (le_st' _ _ [⟨960, some _, false, 1, _⟩, ⟨961, none, false, 1, _⟩] [] _ (by simp -implicitDefEqProofs (maxSteps := 2000000) only [go_sem, freeT, ints_nil] <;> and_intros <;> rfl) (by simp -implicitDefEqProofs (maxSteps := 2000000) only [go_sem, freeT, ints_nil] <;> and_intros <;> rfl) (by simp -implicitDefEqProofs (maxSteps := 2000000) only [go_sem, freeT, ints_nil] <;> and_intros <;> rfl) (by rfl)) ?_
  rintro i h1
  have hfl := freeT_len w0 i
  by_cases c1 : i < w0.size
  · have wi : IntKind.i64.wrap ((i : Int) + 1) = ((i + 1 : Nat) : Int) := i64_succ (by omega)
    have hc1 : i + 1 ≤ w0.size := c1
    have hst : freeT w0 (i + 1) = freeT w0 i ++ [t1 w0 i] := rfl
    simp -implicitDefEqProofs (maxSteps := 2000000) only [go_sem, e0, c1, wi, hc1, Nat.le_add_right]
    refine call_of (specParseTerm_sat (w0.extract i (i + 1))) (by simp -implicitDefEqProofs (maxSteps := 2000000) only [go_sem]) (by kernel_rfl) (by simp -implicitDefEqProofs (maxSteps := 2000000) only [go_sem]) ?_
    simp -implicitDefEqProofs (maxSteps := 2000000) only [go_sem]
    repeat (refine And.intro (by omega) ?_)
    rw [show (pT (w0.extract i (i + 1))).1 = t1 w0 i from rfl, wi]
    refine ⟨i + 1, c1, by omega, ?_⟩
    rw [hst]
    exact (le_st' _ _ [⟨960, some _, false, 1, _⟩, ⟨961, some _, false, 1, _⟩] [] _ (by simp -implicitDefEqProofs (maxSteps := 2000000) only [go_sem, hfl, repP, List.set_cons_zero] <;> and_intros <;> rfl) (by simp -implicitDefEqProofs (maxSteps := 2000000) only [go_sem, hfl, repP, List.set_cons_zero] <;> and_intros <;> rfl) (by simp -implicitDefEqProofs (maxSteps := 2000000) only [go_sem, hfl, repP, List.set_cons_zero] <;> and_intros <;> rfl) (by rfl))
  obtain rfl : i = w0.size := by omega
  simp -implicitDefEqProofs (maxSteps := 2000000) only [go_sem, e0, e1, c1]
  refine call_of (s2) (by simp -implicitDefEqProofs (maxSteps := 2000000) only [go_sem] <;> and_intros <;> rfl) (by kernel_rfl) (by simp -implicitDefEqProofs (maxSteps := 2000000) only [go_sem]) ?_
  simp -implicitDefEqProofs (maxSteps := 2000000) only [go_sem]
  have hA := fun k (hk : k ≤ ps.length) => allA_len l ps hk
  refine awp_loop Nat (fun i => mkSt [(0, .one (.im 3 (rels l))), (1, .sc (.string s)), (4, .one (.vad 1000 0)), (5, .sc (.bool false)), (7, .one (.vad 1576 0)), (11, .one (.ref 960 1 0 ps.length)), (12, .sc (.int .i64 i))] [(1000, zQ3), (1576, [.sc (.int .i64 (allV ps i)), .ref 962 2 0 i, .ref 961 1 0 w0.size])] [(960, (1, txs ps)), (961, (1, ints (freeT w0 w0.size))), (962, (2, ris 999 (allA l ps i)))] 20000)
    (fun i => i ≤ ps.length) (fun i => ps.length - i) 0 (by omega) (le_st' _ _ [⟨960, some _, false, 1, _⟩, ⟨961, some _, false, 1, _⟩, ⟨962, none, false, 2, _⟩] [] _ (by simp -implicitDefEqProofs (maxSteps := 2000000) only [go_sem, hfl, allV, allA, List.take_zero, List.map_nil, ris_nil] <;> and_intros <;> rfl) (by simp -implicitDefEqProofs (maxSteps := 2000000) only [go_sem, hfl, allV, allA, List.take_zero, List.map_nil, ris_nil] <;> and_intros <;> rfl) (by simp -implicitDefEqProofs (maxSteps := 2000000) only [go_sem, hfl, allV, allA, List.take_zero, List.map_nil, ris_nil] <;> and_intros <;> rfl) (by rfl)) ?_
  rintro i h3
  have hAi := hA i h3
  have hVi := allV_lo ps i
  by_cases c2 : i < ps.length
  · have wi : IntKind.i64.wrap ((i : Int) + 1) = ((i + 1 : Nat) : Int) := i64_succ (by omega)
    have hstA := wordA_step (l := l) c2
    have hstV : allV ps (i + 1) = wordV (ps.getD i ⟨#[]⟩) (allV ps i) (ps.getD i ⟨#[]⟩).size := rfl
    have hpz := hpm _ (mem_getD (⟨#[]⟩ : ByteArray) c2)
    have eg := txs_get c2
    have hwA : wordA l (ps.getD i ⟨#[]⟩) = ⟨wordR l (ps.getD i ⟨#[]⟩) (ps.getD i ⟨#[]⟩).size, wordT (ps.getD i ⟨#[]⟩) (ps.getD i ⟨#[]⟩).size⟩ := rfl
    rw [hwA] at hstA
    clear hwA
    generalize ps.getD i ⟨#[]⟩ = p at hstA hstV hpz eg
    generalize allV ps i = m0 at hVi hstV
    simp -implicitDefEqProofs (maxSteps := 2000000) only [go_sem, c2, eg]
    refine awp_loop Nat (fun k => mkSt [(0, .one (.im 3 (rels l))), (1, .sc (.string s)), (4, .one (.vad 1000 0)), (5, .sc (.bool false)), (7, .one (.vad 1576 0)), (11, .one (.ref 960 1 0 ps.length)), (12, .sc (.int .i64 i)), (13, .one (.vad 20320 0)), (14, .sc (.int .i64 k))] [(1000, zQ3), (1576, [.sc (.int .i64 (wordV p m0 k)), .ref 962 2 0 i, .ref 961 1 0 w0.size]), (20320, [.sc (.int .i64 (wordR l p k)), .ref 963 1 0 (wordT p k).length])] [(960, (1, txs ps)), (961, (1, ints (freeT w0 w0.size))), (962, (2, ris 999 (allA l ps i))), (963, (1, ints (wordT p k)))] 40000)
      (fun k => k ≤ p.size) (fun k => p.size - k) 0 (by omega) (le_st' _ _ [⟨960, some _, false, 1, _⟩, ⟨961, some _, false, 1, _⟩, ⟨962, some _, false, 2, _⟩, ⟨963, none, false, 1, _⟩] [] _ (by simp -implicitDefEqProofs (maxSteps := 2000000) only [go_sem, wordV, wordR, wordT, ints_nil, List.length_nil] <;> and_intros <;> rfl) (by simp -implicitDefEqProofs (maxSteps := 2000000) only [go_sem, wordV, wordR, wordT, ints_nil, List.length_nil] <;> and_intros <;> rfl) (by simp -implicitDefEqProofs (maxSteps := 2000000) only [go_sem, wordV, wordR, wordT, ints_nil, List.length_nil] <;> and_intros <;> rfl) (by rfl)) ?_
    rintro k h4
    have hTl := wordT_len p k
    have hVk := wordV_lo (p := p) hVi k
    by_cases c3 : k < p.size
    · have wk : IntKind.i64.wrap ((k : Int) + 1) = ((k + 1 : Nat) : Int) := i64_succ (by omega)
      have c4 : k + 1 ≤ p.size := c3
      by_cases k0 : k = 0
      · have d0 : (((k : Nat) : Int) == 0) = true := by rw [k0]; rfl
        have hp1 : 1 ≤ p.size := by omega
        have hs : skipT p k = true := by unfold skipT; rw [decide_eq_true k0]; rfl
        have q1 : wordV p m0 (k + 1) = wordV p m0 k := by rw [wordV, if_pos hs]
        have q2 : wordT p (k + 1) = wordT p k := by rw [wordT, if_pos hs]
        have q3 : wordR l p (k + 1) = relIx l (p.extract 0 1) := by rw [wordR, if_pos k0]
        simp -implicitDefEqProofs (maxSteps := 2000000) only [go_sem, c2, eg, c3, d0, hp1]
        repeat (refine And.intro (by first | omega | decide) ?_)
        simp -implicitDefEqProofs (maxSteps := 2000000) only [go_sem]
        refine call_of (specRelationIndex_sat l (p.extract 0 1) hl) (by simp -implicitDefEqProofs (maxSteps := 2000000) only [go_sem]) (by kernel_rfl) (by simp -implicitDefEqProofs (maxSteps := 2000000) only [go_sem]) ?_
        simp -implicitDefEqProofs (maxSteps := 2000000) only [go_sem]
        rw [wk]
        exact ⟨k + 1, c3, by omega, (le_st' _ _ [⟨960, some _, false, 1, _⟩, ⟨961, some _, false, 1, _⟩, ⟨962, some _, false, 2, _⟩, ⟨963, some _, false, 1, _⟩] [] _ (by simp -implicitDefEqProofs (maxSteps := 2000000) only [go_sem, q1, q2, q3] <;> and_intros <;> rfl) (by simp -implicitDefEqProofs (maxSteps := 2000000) only [go_sem, q1, q2, q3] <;> and_intros <;> rfl) (by simp -implicitDefEqProofs (maxSteps := 2000000) only [go_sem, q1, q2, q3] <;> and_intros <;> rfl) (by rfl))⟩
      have d0 : (((k : Nat) : Int) == 0) = false := by rw [beq_eq_false_iff_ne]; omega
      have q3 : wordR l p (k + 1) = wordR l p k := by rw [wordR, if_neg k0]
      by_cases k1 : byA p k = 124
      · have d1 : (((byA p k : Nat) : Int) == 124) = true := by rw [k1]; rfl
        have hs : skipT p k = true := by unfold skipT; rw [decide_eq_true k1, Bool.or_true]
        have q1 : wordV p m0 (k + 1) = wordV p m0 k := by rw [wordV, if_pos hs]
        have q2 : wordT p (k + 1) = wordT p k := by rw [wordT, if_pos hs]
        simp -implicitDefEqProofs (maxSteps := 2000000) only [go_sem, c2, eg, c3, d0, d1]
        rw [wk]
        exact ⟨k + 1, c3, by omega, (le_st' _ _ [⟨960, some _, false, 1, _⟩, ⟨961, some _, false, 1, _⟩, ⟨962, some _, false, 2, _⟩, ⟨963, some _, false, 1, _⟩] [] _ (by simp -implicitDefEqProofs (maxSteps := 2000000) only [go_sem, q1, q2, q3] <;> and_intros <;> rfl) (by simp -implicitDefEqProofs (maxSteps := 2000000) only [go_sem, q1, q2, q3] <;> and_intros <;> rfl) (by simp -implicitDefEqProofs (maxSteps := 2000000) only [go_sem, q1, q2, q3] <;> and_intros <;> rfl) (by rfl))⟩
      have d1 : (((byA p k : Nat) : Int) == 124) = false := by rw [beq_eq_false_iff_ne]; omega
      have hs : skipT p k = false := by unfold skipT; rw [decide_eq_false k0, decide_eq_false k1]; rfl
      have q2 : wordT p (k + 1) = wordT p k ++ [t1 p k] := by rw [wordT, hs, if_neg (by simp)]
      have q1 : wordV p m0 (k + 1) = if t1 p k + 1 > wordV p m0 k then t1 p k + 1 else wordV p m0 k := by rw [wordV, hs, if_neg (by simp)]
      have htl := pT_lo (p.extract k (k + 1))
      have wt : IntKind.i64.wrap (t1 p k + 1) = t1 p k + 1 := by unfold t1; exact IntWalk.i64_in _ (by omega)
      have etk : List.take (wordT p k).length (wordT p k) = wordT p k := List.take_length
      simp -implicitDefEqProofs (maxSteps := 2000000) only [go_sem, c2, eg, c3, d0, d1, wk, c4, Nat.le_add_right]
      refine call_of (specParseTerm_sat (p.extract k (k + 1))) (by simp -implicitDefEqProofs (maxSteps := 2000000) only [go_sem]) (by kernel_rfl) (by simp -implicitDefEqProofs (maxSteps := 2000000) only [go_sem]) ?_
      simp -implicitDefEqProofs (maxSteps := 2000000) only [go_sem]
      rw [show (pT (p.extract k (k + 1))).1 = t1 p k from rfl, wt]
      repeat (refine And.intro (by omega) ?_)
      rw [wk]
      refine ⟨k + 1, c3, by omega, ?_⟩
      exact (le_st' _ _ [⟨960, some _, false, 1, _⟩, ⟨961, some _, false, 1, _⟩, ⟨962, some _, false, 2, _⟩, ⟨963, some _, false, 1, _⟩] [] _ (by simp -implicitDefEqProofs (maxSteps := 2000000) only [go_sem, q1, q2, q3, repP, List.set_cons_zero, List.length_append, List.length_singleton] <;> and_intros <;> rfl) (by simp -implicitDefEqProofs (maxSteps := 2000000) only [go_sem, q1, q2, q3, repP, List.set_cons_zero, List.length_append, List.length_singleton] <;> and_intros <;> rfl) (by simp -implicitDefEqProofs (maxSteps := 2000000) only [go_sem, q1, q2, q3, repP, List.set_cons_zero, List.length_append, List.length_singleton] <;> and_intros <;> rfl) (by rfl))
    · obtain rfl : k = p.size := by omega
      simp -implicitDefEqProofs (maxSteps := 2000000) only [go_sem, c2, eg, c3]
      repeat (refine And.intro (by omega) ?_)
      rw [wi]
      refine ⟨i + 1, c2, by omega, ?_⟩
      exact (le_st' _ _ [⟨960, some _, false, 1, _⟩, ⟨961, some _, false, 1, _⟩, ⟨962, some _, false, 2, _⟩] [] _ (by simp -implicitDefEqProofs (maxSteps := 2000000) only [go_sem, hstA, hstV, hAi, repP, List.set_cons_zero] <;> and_intros <;> rfl) (by simp -implicitDefEqProofs (maxSteps := 2000000) only [go_sem, hstA, hstV, hAi, repP, List.set_cons_zero] <;> and_intros <;> rfl) (by simp -implicitDefEqProofs (maxSteps := 2000000) only [go_sem, hstA, hstV, hAi, repP, List.set_cons_zero] <;> and_intros <;> rfl) (by rfl))
  obtain rfl : i = ps.length := by omega
  have rtk : List.take ps.length (allA l ps ps.length) = allA l ps ps.length := List.take_of_length_le (by omega)
  have ftk : List.take w0.size (freeT w0 w0.size) = freeT w0 w0.size := List.take_of_length_le (by omega)
  rcases g : decide (quText l ⟨allV ps ps.length, allA l ps ps.length, freeT w0 w0.size⟩ = s)
  · simp -implicitDefEqProofs (maxSteps := 2000000) only [go_sem, c2, rtk, ftk]
    refine call_of (specFormatQuery_sat l ⟨allV ps ps.length, allA l ps ps.length, freeT w0 w0.size⟩ hl hq) (by simp -implicitDefEqProofs (maxSteps := 2000000) only [go_sem, g, rtk, ftk]) (callOk_still (by kernel_rfl) (by simp only [List.all_cons, List.all_nil, LV.still, LV.leaves, Leaf.still, ints_still, ris_still, eds_still, rels_still, iss_still, ems_still, Bool.and_self, Bool.and_true])) (by simp -implicitDefEqProofs (maxSteps := 2000000) only [go_sem, g, rtk, ftk]) ?_
    simp -implicitDefEqProofs (maxSteps := 2000000) only [go_sem, g, rtk, ftk]
    and_intros <;> rfl
  · simp -implicitDefEqProofs (maxSteps := 2000000) only [go_sem, c2, rtk, ftk]
    refine call_of (specFormatQuery_sat l ⟨allV ps ps.length, allA l ps ps.length, freeT w0 w0.size⟩ hl hq) (by simp -implicitDefEqProofs (maxSteps := 2000000) only [go_sem, g, rtk, ftk]) (callOk_still (by kernel_rfl) (by simp only [List.all_cons, List.all_nil, LV.still, LV.leaves, Leaf.still, ints_still, ris_still, eds_still, rels_still, iss_still, ems_still, Bool.and_self, Bool.and_true])) (by simp -implicitDefEqProofs (maxSteps := 2000000) only [go_sem, g, rtk, ftk]) ?_
    simp -implicitDefEqProofs (maxSteps := 2000000) only [go_sem, g, rtk, ftk]
    exact ⟨⟨by omega, by omega⟩, rfl⟩
end Go.Proofs.YtedciihjgbkjgaaGreat.A


/- QUERIES DRAWN: more walks. Conditions: none. -/
namespace Go.Proofs.YtedciihjgbkjgaaGreat.A
open Go
set_option linter.unusedSimpArgs false
set_option linter.unusedVariables false
set_option maxRecDepth 100000

def qryA (c : Cur) : List RI × Cur := atsD (byC (byC (byC c))) (1 + beV (byC c) 4) (beV (byC (byC c)) 4) (1 + beV c 3)
set_option maxHeartbeats 4000000 in
theorem l11Query_sat (c : Cur) (hc : c.ok) : Sat Tryz.prog 61 [lCur c] [oQu (tightQ ⟨0, (qryA c).1, []⟩)] [lCur (qryA c).2] := by
  refine sat_of_body mixed Tryz.func61 rfl (by kernel_rfl) (by kernel_rfl) (rs := [.cell 2 31]) rfl rfl rfl ?_
  have k1 := byC_ok hc
  have k2 := byC_ok k1
  have k3 := byC_ok k2
  have s0 := l1Below_sat c 3 hc (by decide) (by decide)
  have s1 := l1Below_sat (byC c) 4 k1 (by decide) (by decide)
  have s2 := l1Below_sat (byC (byC c)) 4 k2 (by decide) (by decide)
  have b0 := beV_lt c (n := 3) (by decide)
  have b1 := beV_lt (byC c) (n := 4) (by decide)
  have b2 := beV_lt (byC (byC c)) (n := 4) (by decide)
  have hq : qryA c = atsD (byC (byC (byC c))) (1 + beV (byC c) 4) (beV (byC (byC c)) 4) (1 + beV c 3) := rfl
  rw [hq]
  clear hq
  generalize beV c 3 = n0 at s0 b0 ⊢
  generalize beV (byC c) 4 = v0 at s1 b1 ⊢
  generalize beV (byC (byC c)) 4 = f at s2 b2 ⊢
  generalize byC c = c1 at *
  generalize byC c1 = c2 at *
  generalize byC c2 = c3 at *
  obtain ⟨n, hn⟩ : ∃ n, n = 1 + n0 := ⟨_, rfl⟩
  obtain ⟨v, hv⟩ : ∃ v, v = 1 + v0 := ⟨_, rfl⟩
  have w1 : IntKind.i64.wrap (1 + ((n0 : Nat) : Int)) = ((n : Nat) : Int) := by rw [IntWalk.i64_in _ (by omega)]; omega
  have w2 : IntKind.i64.wrap (1 + ((v0 : Nat) : Int)) = ((v : Nat) : Int) := by rw [IntWalk.i64_in _ (by omega)]; omega
  rw [← hn, ← hv]
  have hA := atsD_len c3 v f
  have hAk := atsD_ok k3 v f
  simp -implicitDefEqProofs (maxSteps := 2000000) only [go_sem]
  refine call_of (s0) (by simp -implicitDefEqProofs (maxSteps := 2000000) only [go_sem, w1] <;> and_intros <;> rfl) (by kernel_rfl) (by simp -implicitDefEqProofs (maxSteps := 2000000) only [go_sem, w1]) ?_
  simp -implicitDefEqProofs (maxSteps := 2000000) only [go_sem, w1]
  refine call_of (s1) (by simp -implicitDefEqProofs (maxSteps := 2000000) only [go_sem, w2] <;> and_intros <;> rfl) (by kernel_rfl) (by simp -implicitDefEqProofs (maxSteps := 2000000) only [go_sem, w2]) ?_
  simp -implicitDefEqProofs (maxSteps := 2000000) only [go_sem, w2]
  refine call_of (s2) (by simp -implicitDefEqProofs (maxSteps := 2000000) only [go_sem] <;> and_intros <;> rfl) (by kernel_rfl) (by simp -implicitDefEqProofs (maxSteps := 2000000) only [go_sem]) ?_
  simp -implicitDefEqProofs (maxSteps := 2000000) only [go_sem]
  refine awp_loop Nat (fun i => mkSt [(0, .one (.vad 0 0)), (2, .one (.vad 1000 0)), (3, .one (.vad 1128 0)), (4, .sc (.int .i64 n)), (5, .sc (.int .i64 v)), (6, .sc (.int .i64 f)), (7, .sc (.int .i64 i))] [(0, sCur (atsD c3 v f i).2), (1000, zQ2), (1128, [.sc (.int .i64 0), .ref 960 2 0 i, .sc (.slice none 0 0)])] [(960, (2, ris 999 (atsD c3 v f i).1))] 8000)
    (fun i => i ≤ n) (fun i => n - i) 0 (by omega) (le_st _ _ [⟨960, none, false, 2, _⟩] [] _ rfl (by simp -implicitDefEqProofs (maxSteps := 2000000) only [go_sem, atsD, ris_nil] <;> rfl) (by simp -implicitDefEqProofs (maxSteps := 2000000) only [go_sem, atsD, ris_nil] <;> rfl) (by simp -implicitDefEqProofs (maxSteps := 2000000) only [go_sem, atsD, ris_nil] <;> rfl)) ?_
  rintro i h1
  have hAi := hA i
  have hki := hAk i
  by_cases c1 : i < n
  · have wi : IntKind.i64.wrap ((i : Int) + 1) = ((i + 1 : Nat) : Int) := i64_succ (by omega)
    have hst : atsD c3 v f (i + 1) = ((atsD c3 v f i).1 ++ [⟨(((f + i) % 4 : Nat) : Int), (tmsD (atsD c3 v f i).2 v (2 + ((f + i) % 4) / 3)).1⟩], (tmsD (atsD c3 v f i).2 v (2 + ((f + i) % 4) / 3)).2) := rfl
    have a1 : IntKind.i64.wrap (((f : Nat) : Int) + ((i : Nat) : Int)) = ((f + i : Nat) : Int) := by rw [IntWalk.i64_in _ (by omega)]; omega
    have a2 : Int.tmod ((f + i : Nat) : Int) 4 = (((f + i) % 4 : Nat) : Int) := by rw [Int.tmod_eq_emod_of_nonneg (by omega)]; omega
    have hr4 : (f + i) % 4 < 4 := Nat.mod_lt _ (by decide)
    generalize (f + i) % 4 = r at hst a2 hr4
    have a3 : Int.tdiv ((r : Nat) : Int) 3 = ((r / 3 : Nat) : Int) := by rw [Int.tdiv_eq_ediv_of_nonneg (by omega)]; omega
    have a4 : IntKind.i64.wrap (2 + ((r / 3 : Nat) : Int)) = ((2 + r / 3 : Nat) : Int) := by rw [IntWalk.i64_in _ (by omega)]; omega
    have a5 : IntKind.i64.wrap ((r / 3 : Nat) : Int) = ((r / 3 : Nat) : Int) := IntWalk.i64_in _ (by omega)
    obtain ⟨m, hm⟩ : ∃ m, m = 2 + r / 3 := ⟨_, rfl⟩
    rw [← hm] at hst a4
    generalize atsD c3 v f i = s at hst hAi hki ⊢
    have hT := tmsD_len s.2 v
    have hTk := tmsD_ok hki v
    simp -implicitDefEqProofs (maxSteps := 2000000) only [go_sem, c1, a1, a2, a3, a5, a4]
    repeat (refine ⟨by decide, ?_⟩)
    refine awp_loop Nat (fun j => mkSt [(0, .one (.vad 0 0)), (2, .one (.vad 1000 0)), (3, .one (.vad 1128 0)), (4, .sc (.int .i64 n)), (5, .sc (.int .i64 v)), (6, .sc (.int .i64 f)), (7, .sc (.int .i64 i)), (9, .one (.vad 8640 0)), (10, .sc (.int .i64 ((m : Int) - (j : Int))))] [(0, sCur (tmsD s.2 v j).2), (1000, zQ2), (1128, [.sc (.int .i64 0), .ref 960 2 0 i, .sc (.slice none 0 0)]), (8640, [.sc (.int .i64 r), .ref 961 1 0 j])] [(960, (2, ris 999 s.1)), (961, (1, ints (tmsD s.2 v j).1))] 16000)
      (fun j => j ≤ m) (fun j => m - j) 0 (by omega) (le_st' _ _ [⟨960, some _, false, 2, _⟩, ⟨961, none, false, 1, _⟩] [] _ (by simp -implicitDefEqProofs (maxSteps := 2000000) only [go_sem, tmsD, ints_nil, Int.sub_zero, Int.natCast_zero] <;> and_intros <;> rfl) (by simp -implicitDefEqProofs (maxSteps := 2000000) only [go_sem, tmsD, ints_nil, Int.sub_zero, Int.natCast_zero] <;> and_intros <;> rfl) (by simp -implicitDefEqProofs (maxSteps := 2000000) only [go_sem, tmsD, ints_nil, Int.sub_zero, Int.natCast_zero] <;> and_intros <;> rfl) (by rfl)) ?_
    rintro j h2
    have hTj := hT j
    have hTkj := hTk j
    have htk : List.take j (tmsD s.2 v j).1 = (tmsD s.2 v j).1 := List.take_of_length_le (by omega)
    by_cases c2 : j < m
    · have d1 : decide ((m : Int) - (j : Int) > 0) = true := decide_eq_true (by omega)
      have wj : IntKind.i64.wrap ((m : Int) - (j : Int) - 1) = (m : Int) - ((j + 1 : Nat) : Int) := by rw [IntWalk.i64_in _ (by omega)]; omega
      have hs1 : tmsD s.2 v (j + 1) = ((tmsD s.2 v j).1 ++ [tmD (tmsD s.2 v j).2 v], byC (byC (tmsD s.2 v j).2)) := rfl
      generalize tmsD s.2 v j = u at hTj hTkj htk hs1 ⊢
      rcases d2 : onV u.2 12
      · have e2 : tmD u.2 v = ((beV (byC u.2) v : Nat) : Int) := by unfold tmD; rw [d2]; rfl
        simp -implicitDefEqProofs (maxSteps := 2000000) only [go_sem, d1, htk]
        refine call_of (l1Once_sat u.2 12 hTkj (by decide) (by decide)) (by simp -implicitDefEqProofs (maxSteps := 2000000) only [go_sem, d2, htk] <;> and_intros <;> rfl) (by kernel_rfl) (by simp -implicitDefEqProofs (maxSteps := 2000000) only [go_sem, d2, htk]) ?_
        simp -implicitDefEqProofs (maxSteps := 2000000) only [go_sem, d2, htk]
        refine call_of (l1Below_sat (byC u.2) v (byC_ok hTkj) (by omega) (by omega)) (by simp -implicitDefEqProofs (maxSteps := 2000000) only [go_sem, hTj, htk]) (by kernel_rfl) (by simp -implicitDefEqProofs (maxSteps := 2000000) only [go_sem, hTj, htk]) ?_
        simp -implicitDefEqProofs (maxSteps := 2000000) only [go_sem, hTj, htk]
        repeat (refine And.intro (by omega) ?_)
        first | (with_reducible refine tr_and ?_ ?_; focus kernel_rfl) | (with_reducible refine tr_only ?_; kernel_rfl) | skip
        rw [wj]
        refine ⟨j + 1, c2, by omega, ?_⟩
        exact (le_st' _ _ [⟨960, some _, false, 2, _⟩, ⟨961, some _, false, 1, _⟩] [] _ (by simp -implicitDefEqProofs (maxSteps := 2000000) only [go_sem, hs1, e2, hTj, htk] <;> and_intros <;> rfl) (by simp -implicitDefEqProofs (maxSteps := 2000000) only [go_sem, hs1, e2, hTj, htk] <;> and_intros <;> rfl) (by simp -implicitDefEqProofs (maxSteps := 2000000) only [go_sem, hs1, e2, hTj, htk] <;> and_intros <;> rfl) (by rfl))
      · have e2 : tmD u.2 v = -1 - ((beV (byC u.2) 2 : Nat) : Int) := by unfold tmD; rw [d2]; rfl
        have b3 := beV_lt (byC u.2) (n := 2) (by decide)
        have w3 : IntKind.i64.wrap (-1 - ((beV (byC u.2) 2 : Nat) : Int)) = -1 - ((beV (byC u.2) 2 : Nat) : Int) := IntWalk.i64_in _ (by omega)
        simp -implicitDefEqProofs (maxSteps := 2000000) only [go_sem, d1, htk]
        refine call_of (l1Once_sat u.2 12 hTkj (by decide) (by decide)) (by simp -implicitDefEqProofs (maxSteps := 2000000) only [go_sem, d2, htk] <;> and_intros <;> rfl) (by kernel_rfl) (by simp -implicitDefEqProofs (maxSteps := 2000000) only [go_sem, d2, htk]) ?_
        simp -implicitDefEqProofs (maxSteps := 2000000) only [go_sem, d2, htk]
        refine call_of (l1Below_sat (byC u.2) 2 (byC_ok hTkj) (by decide) (by decide)) (by simp -implicitDefEqProofs (maxSteps := 2000000) only [go_sem, hTj, htk, w3] <;> and_intros <;> rfl) (by kernel_rfl) (by simp -implicitDefEqProofs (maxSteps := 2000000) only [go_sem, hTj, htk, w3]) ?_
        simp -implicitDefEqProofs (maxSteps := 2000000) only [go_sem, hTj, htk, w3]
        repeat (refine And.intro (by omega) ?_)
        first | (with_reducible refine tr_and ?_ ?_; focus kernel_rfl) | (with_reducible refine tr_only ?_; kernel_rfl) | skip
        rw [wj]
        refine ⟨j + 1, c2, by omega, ?_⟩
        exact (le_st' _ _ [⟨960, some _, false, 2, _⟩, ⟨961, some _, false, 1, _⟩] [] _ (by simp -implicitDefEqProofs (maxSteps := 2000000) only [go_sem, hs1, e2, hTj, htk] <;> and_intros <;> rfl) (by simp -implicitDefEqProofs (maxSteps := 2000000) only [go_sem, hs1, e2, hTj, htk] <;> and_intros <;> rfl) (by simp -implicitDefEqProofs (maxSteps := 2000000) only [go_sem, hs1, e2, hTj, htk] <;> and_intros <;> rfl) (by rfl))
    · obtain rfl : j = m := by omega
      have d1 : decide ((j : Int) - (j : Int) > 0) = false := decide_eq_false (by omega)
      simp -implicitDefEqProofs (maxSteps := 2000000) only [go_sem, d1, htk]
      repeat (refine And.intro (by omega) ?_)
      rw [wi]
      refine ⟨i + 1, c1, by omega, ?_⟩
      rw [hst]
      exact (le_st' _ _ [⟨960, some _, false, 2, _⟩] [] _ (by simp -implicitDefEqProofs (maxSteps := 2000000) only [go_sem, hTj, hAi, htk, repD1, List.set_cons_zero] <;> and_intros <;> rfl) (by simp -implicitDefEqProofs (maxSteps := 2000000) only [go_sem, hTj, hAi, htk, repD1, List.set_cons_zero] <;> and_intros <;> rfl) (by simp -implicitDefEqProofs (maxSteps := 2000000) only [go_sem, hTj, hAi, htk, repD1, List.set_cons_zero] <;> and_intros <;> rfl) (by rfl))
  · obtain rfl : i = n := by omega
    have hAm := fun x hx => atsD_mem (c := c3) (v := v) (f := f) (k := i) x hx
    have htk : List.take i (ris 999 (atsD c3 v f i).1) = ris 999 (atsD c3 v f i).1 := List.take_of_length_le (by rw [ris_length]; omega)
    simp -implicitDefEqProofs (maxSteps := 2000000) only [go_sem, c1, htk]
    refine call_of (l11Tight_sat ⟨0, (atsD c3 v f i).1, []⟩ ⟨⟨by simp only; omega, fun x hx => by have := hAm x hx; unfold RI.ok; omega⟩, by simp⟩ (by simp only; omega) (fun x hx => by have := hAm x hx; omega)) (by simp -implicitDefEqProofs (maxSteps := 2000000) only [go_sem, htk] <;> and_intros <;> rfl) (callOk_still (by kernel_rfl) (by simp only [List.all_cons, List.all_nil, LV.still, LV.leaves, Leaf.still, ints_still, ris_still, eds_still, rels_still, iss_still, ems_still, Bool.and_self, Bool.and_true])) (by simp -implicitDefEqProofs (maxSteps := 2000000) only [go_sem, htk]) ?_
    simp -implicitDefEqProofs (maxSteps := 2000000) only [go_sem, htk]
    and_intros <;> rfl

/-! #### known queries -/
def knL : List ByteArray := [⟨#[63, 114, 120, 124, 121, 32, 115, 121, 124, 122]⟩, ⟨#[63, 114, 120, 124, 121, 32, 115, 121, 124, 120]⟩, ⟨#[63, 114, 120, 124, 121, 32, 115, 122, 124, 121]⟩, ⟨#[63, 114, 120, 124, 121, 32, 115, 120, 124, 122]⟩, ⟨#[63, 114, 120, 124, 49]⟩, ⟨#[63, 114, 120, 124, 120]⟩, ⟨#[63, 114, 120, 124, 121, 32, 115, 121, 124, 49]⟩, ⟨#[63, 114, 120, 124, 121, 32, 115, 121, 124, 122, 32, 114]⟩, ⟨#[63, 114, 120, 124, 121]⟩, ⟨#[63, 114, 120, 124, 122, 32, 115, 121, 124, 122]⟩]
def kn0 : ByteArray := ⟨#[63, 114, 120, 124, 121, 32, 115, 121, 124, 122]⟩
theorem knL_ok : ∀ i : Fin 10, (knL.getD i.val ⟨#[]⟩).size ≤ 100 ∧ 0 < (knL.getD i.val ⟨#[]⟩).size := by decide
theorem kn0_ok : ∀ (i : Fin 4) (j : Fin 2), okQ (sigR (sigL.getD i.val 0) (1 + ((j.val : Nat) : Int))) kn0 = true := by decide +kernel
/-- A query as it is drawn. -/
structure QuD (m : Nat) (q : Qu) : Prop where
  vc : -1 ≤ q.vc ∧ q.vc ≤ m
  n : 1 ≤ q.atoms.length ∧ q.atoms.length ≤ m
  first : 1 ≤ (q.atoms.getD 0 default).l.length
  all : ∀ x ∈ q.atoms, x.l.length ≤ m
  free : q.free.length ≤ m
theorem QuD.ok {m : Nat} {q : Qu} (h : QuD m q) (hm : m ≤ 1000) : q.ok := by
  have h1 := h.n
  have h2 := h.free
  exact ⟨⟨by omega, fun x hx => by have := h.all x hx; unfold RI.ok; omega⟩, by omega⟩
theorem okQ_D {l : List Rel} {s : ByteArray} (h : okQ l s = true) (hs : s.size ≤ 100) (h0 : 0 < s.size) : QuD 100 (parQ l s) := by
  have e : parQ l s = readQ l s := by rw [parQ, if_pos h]
  have hr := readQ_ok (l := l) (show s.size ≤ 1048575 by omega)
  unfold okQ at h
  rw [Bool.and_eq_true, decide_eq_true_iff, decide_eq_true_iff] at h
  have g : goodQu l (readQ l s) = true := by
    rcases g : goodQu l (readQ l s)
    · have := h.2
      rw [quText, g, if_neg (by simp)] at this
      rw [← this] at h0
      exact absurd h0 (by decide)
    · rfl
  rw [e]
  obtain ⟨p1, p2, p3⟩ := goodQu_parts g
  have len : ∀ k, k < (readQ l s).atoms.length → 1 ≤ ((readQ l s).atoms.getD k default).l.length ∧ ((readQ l s).atoms.getD k default).l.length ≤ 3 := by
    intro k hk
    have h3 := goodQu_at g hk
    unfold atomOk relAt at h3
    simp only [Bool.and_eq_true, beq_iff_eq] at h3
    have h4 := inB_of h3.1.1
    have gr : goodRels l = true := by unfold goodQu at g; rw [Bool.and_eq_true] at g; exact g.1
    have h5 := (rel_of gr (show ((readQ l s).atoms.getD k default).r.toNat < l.length by omega)).1
    have h6 := h3.1.2
    omega
  have m0 : ((splS s 63).getD 0 ⟨#[]⟩).size ≤ s.size := splS_mem s 63 _ (mem_getD (⟨#[]⟩ : ByteArray) (by omega))
  refine ⟨by omega, by omega, (len 0 (by omega)).1, fun x hx => ?_, ?_⟩
  · obtain ⟨k, hk, rfl⟩ := List.mem_iff_getElem.mp hx
    have := (len k hk).2
    rw [List.getD_eq_getElem?_getD, List.getElem?_eq_getElem hk] at this
    simp only [Option.getD_some] at this
    omega
  · show (freeT _ _).length ≤ 100
    rw [freeT_len]; omega
theorem sigs_form (c : Cur) : ∃ (i : Fin 4) (j : Fin 2), sigs c = sigR (sigL.getD i.val 0) (1 + ((j.val : Nat) : Int)) :=
  ⟨⟨beV c 4, beV_lt c (by decide)⟩, ⟨beV (byC c) 2, beV_lt (byC c) (by decide)⟩, rfl⟩
theorem l11Known_ex (c0 c : Cur) (hc : c.ok) : ∃ q : Qu, QuD 100 q ∧ Sat Tryz.prog 63 [lCur c, lRels (sigs c0)] [oQu q] [lCur (byC c), g1] := by
  obtain ⟨hk1, hk2⟩ := knL_ok ⟨beV c 10, beV_lt c (by decide)⟩
  simp only at hk1 hk2
  have s0 := l1Pick_own c knL hc (by decide) (by decide)
  have el : knL.length = 10 := rfl
  rw [el] at s0
  have hl := sigs_len c0
  obtain ⟨fi, fj, hf⟩ := sigs_form c0
  have h0 := kn0_ok fi fj
  rw [← hf] at h0
  have eL : (((((((((((List.replicate 10 ByteArray.empty).set 0 ⟨#[63, 114, 120, 124, 121, 32, 115, 121, 124, 122]⟩).set 1 ⟨#[63, 114, 120, 124, 121, 32, 115, 121, 124, 120]⟩).set 2 ⟨#[63, 114, 120, 124, 121, 32, 115, 122, 124, 121]⟩).set 3 ⟨#[63, 114, 120, 124, 121, 32, 115, 120, 124, 122]⟩).set 4 ⟨#[63, 114, 120, 124, 49]⟩).set 5 ⟨#[63, 114, 120, 124, 120]⟩).set 6 ⟨#[63, 114, 120, 124, 121, 32, 115, 121, 124, 49]⟩).set 7 ⟨#[63, 114, 120, 124, 121, 32, 115, 121, 124, 122, 32, 114]⟩).set 8 ⟨#[63, 114, 120, 124, 121]⟩).set 9 ⟨#[63, 114, 120, 124, 122, 32, 115, 121, 124, 122]⟩) = knL := rfl
  generalize sigs c0 = l at hl h0 ⊢
  generalize knL.getD (beV c 10) ⟨#[]⟩ = s at hk1 hk2 s0
  rcases g : okQ l s
  · refine ⟨parQ l kn0, okQ_D h0 (by decide) (by decide), ?_⟩
    refine sat_of_body mixed Tryz.func63 rfl (by kernel_rfl) (by kernel_rfl) (rs := [.cell 4 31]) rfl rfl rfl ?_
    simp -implicitDefEqProofs (maxSteps := 2000000) only [go_sem]
    refine call_of (s0) (by simp -implicitDefEqProofs (maxSteps := 2000000) only [go_sem, eL, el]) (by kernel_rfl) (by simp -implicitDefEqProofs (maxSteps := 2000000) only [go_sem, eL, el]) ?_
    simp -implicitDefEqProofs (maxSteps := 2000000) only [go_sem, eL, el]
    refine call_of (specParseQuery_sat l s (by omega) (by omega)) (by simp -implicitDefEqProofs (maxSteps := 2000000) only [go_sem, g]) (by kernel_rfl) (by simp -implicitDefEqProofs (maxSteps := 2000000) only [go_sem, g]) ?_
    simp -implicitDefEqProofs (maxSteps := 2000000) only [go_sem, g]
    refine call_of (specParseQuery_sat l kn0 (by omega) (by decide)) (by simp -implicitDefEqProofs (maxSteps := 2000000) only [go_sem] <;> and_intros <;> rfl) (by kernel_rfl) (by simp -implicitDefEqProofs (maxSteps := 2000000) only [go_sem]) ?_
    simp -implicitDefEqProofs (maxSteps := 2000000) only [go_sem]
    and_intros <;> rfl
  · refine ⟨parQ l s, okQ_D g hk1 hk2, ?_⟩
    refine sat_of_body mixed Tryz.func63 rfl (by kernel_rfl) (by kernel_rfl) (rs := [.cell 4 31]) rfl rfl rfl ?_
    simp -implicitDefEqProofs (maxSteps := 2000000) only [go_sem]
    refine call_of (s0) (by simp -implicitDefEqProofs (maxSteps := 2000000) only [go_sem, eL, el]) (by kernel_rfl) (by simp -implicitDefEqProofs (maxSteps := 2000000) only [go_sem, eL, el]) ?_
    simp -implicitDefEqProofs (maxSteps := 2000000) only [go_sem, eL, el]
    refine call_of (specParseQuery_sat l s (by omega) (by omega)) (by simp -implicitDefEqProofs (maxSteps := 2000000) only [go_sem, g]) (by kernel_rfl) (by simp -implicitDefEqProofs (maxSteps := 2000000) only [go_sem, g]) ?_
    simp -implicitDefEqProofs (maxSteps := 2000000) only [go_sem, g]
    and_intros <;> rfl
end Go.Proofs.YtedciihjgbkjgaaGreat.A


/- QUERIES DRAWN, with free variables. Conditions: none. -/
namespace Go.Proofs.YtedciihjgbkjgaaGreat.A
open Go
set_option linter.unusedSimpArgs false
set_option linter.unusedVariables false
set_option maxRecDepth 100000

def frD (c : Cur) : Nat → List Int × Cur
  | 0 => ([], c)
  | k + 1 => (if onV (frD c k).2 3 then (frD c k).1 ++ [(k : Int)] else (frD c k).1, byC (frD c k).2)
theorem frD_ok {c : Cur} (h : c.ok) : ∀ k, (frD c k).2.ok ∧ (frD c k).1.length ≤ k
  | 0 => ⟨h, Nat.le_refl _⟩
  | k + 1 => by
    obtain ⟨h1, h2⟩ := frD_ok h k
    refine ⟨byC_ok h1, ?_⟩
    show (if onV (frD c k).2 3 then (frD c k).1 ++ [(k : Int)] else (frD c k).1).length ≤ k + 1
    split
    · rw [List.length_append, List.length_singleton]; omega
    · omega
theorem QuD.more {m n : Nat} {q : Qu} (h : QuD m q) (hm : m ≤ n) : QuD n q := by
  have h1 := h.vc
  have h2 := h.n
  have h3 := h.free
  exact ⟨by omega, by omega, h.first, fun x hx => by have := h.all x hx; omega, by omega⟩
theorem tight_D (c : Cur) (hc : c.ok) : QuD 100 (tightQ ⟨0, (qryA c).1, []⟩) ∧ (qryA c).2.ok := by
  have b := beV_lt c (n := 3) (by decide)
  have hl : (qryA c).1.length = 1 + beV c 3 := atsD_len _ _ _ _
  have hm : ∀ x ∈ (qryA c).1, 2 ≤ x.l.length ∧ x.l.length ≤ 3 := fun x hx => atsD_mem x hx
  refine ⟨?_, atsD_ok (byC_ok (byC_ok (byC_ok hc))) _ _ _⟩
  generalize (qryA c).1 = X at hl hm
  have hM : ∀ i : Nat, (X.getD i default).l.length ≤ 3 := getD_le (fun x hx => (hm x hx).2)
  obtain ⟨⟨t1, t2⟩, t3⟩ := tgAll_ok hM X.length
  have t4 : X.length * 3 ≤ 9 := by omega
  unfold tightQ
  refine ⟨by simp only; omega, by simp only; omega, ?_, fun x hx => ?_, by simp⟩
  · simp only
    rw [t2 0]
    have := (hm _ (mem_getD default (show 0 < X.length by omega))).1
    omega
  · obtain ⟨k, hk, rfl⟩ := List.mem_iff_getElem.mp hx
    have := t2 k
    rw [List.getD_eq_getElem?_getD, List.getElem?_eq_getElem hk, Option.getD_some] at this
    rw [this]
    have := hM k
    omega
set_option maxHeartbeats 8000000 in
theorem l11Draw_ex (c0 c : Cur) (hc : c.ok) : ∃ (q : Qu) (c' : Cur), QuD 200 q ∧ c'.ok ∧ Sat Tryz.prog 34 [lCur c, lRels (sigs c0)] [oQu q] [lCur c', g1] := by
  have s0 := l11Query_sat c hc
  obtain ⟨hq0, k1⟩ := tight_D c hc
  generalize tightQ ⟨0, (qryA c).1, []⟩ = q0 at s0 hq0
  generalize (qryA c).2 = c1 at s0 k1
  have kb := byC_ok k1
  rcases d3 : onV c1 3
  · obtain ⟨c2, e2⟩ : ∃ c2, c2 = byC c1 := ⟨_, rfl⟩
    obtain ⟨q, eq⟩ : ∃ q, q = q0 := ⟨_, rfl⟩
    have k2 : c2.ok := by rw [e2]; exact kb
    have hq : QuD 100 q := by rw [eq]; exact hq0
    subst e2 eq
    rcases d4 : onV (byC c1) 4
    · have d4 : onV (byC c1) 4 = false := d4
      refine ⟨q, byC (byC c1), hq.more (by decide), byC_ok k2, ?_⟩
      refine sat_of_body mixed Tryz.func34 rfl (by kernel_rfl) (by kernel_rfl) (rs := [.cell 4 31]) rfl rfl rfl ?_
      simp -implicitDefEqProofs (maxSteps := 2000000) only [go_sem]
      refine call_of (s0) (by simp -implicitDefEqProofs (maxSteps := 2000000) only [go_sem]) (by kernel_rfl) (by simp -implicitDefEqProofs (maxSteps := 2000000) only [go_sem]) ?_
      simp -implicitDefEqProofs (maxSteps := 2000000) only [go_sem]
      refine call_of (l1Once_sat c1 3 k1 (by decide) (by decide)) (by simp -implicitDefEqProofs (maxSteps := 2000000) only [go_sem, d3] <;> and_intros <;> rfl) (by kernel_rfl) (by simp -implicitDefEqProofs (maxSteps := 2000000) only [go_sem, d3]) ?_
      simp -implicitDefEqProofs (maxSteps := 2000000) only [go_sem, d3]
      refine call_of (l1Once_sat (byC c1) 4 k2 (by decide) (by decide)) (by simp -implicitDefEqProofs (maxSteps := 2000000) only [go_sem, d4] <;> and_intros <;> rfl) (by kernel_rfl) (by simp -implicitDefEqProofs (maxSteps := 2000000) only [go_sem, d4]) ?_
      simp -implicitDefEqProofs (maxSteps := 2000000) only [go_sem, d4]
      and_intros <;> rfl
    · have d4 : onV (byC c1) 4 = true := d4
      have hF := frD_ok (byC_ok k2)
      obtain ⟨N, hN⟩ : ∃ N : Nat, N = q.vc.toNat := ⟨_, rfl⟩
      have hvc := hq.vc
      have hfr := hq.free
      have hna := hq.n
      obtain ⟨o1, o2⟩ := hF N
      refine ⟨⟨q.vc, q.atoms, q.free ++ (frD (byC (byC c1)) N).1⟩, (frD (byC (byC c1)) N).2, ⟨by simp only; omega, by simp only; omega, hq.first, (hq.more (by decide)).all, by simp only [List.length_append]; omega⟩, o1, ?_⟩
      refine sat_of_body mixed Tryz.func34 rfl (by kernel_rfl) (by kernel_rfl) (rs := [.cell 4 31]) rfl rfl rfl ?_
      simp -implicitDefEqProofs (maxSteps := 2000000) only [go_sem]
      refine call_of (s0) (by simp -implicitDefEqProofs (maxSteps := 2000000) only [go_sem]) (by kernel_rfl) (by simp -implicitDefEqProofs (maxSteps := 2000000) only [go_sem]) ?_
      simp -implicitDefEqProofs (maxSteps := 2000000) only [go_sem]
      refine call_of (l1Once_sat c1 3 k1 (by decide) (by decide)) (by simp -implicitDefEqProofs (maxSteps := 2000000) only [go_sem, d3] <;> and_intros <;> rfl) (by kernel_rfl) (by simp -implicitDefEqProofs (maxSteps := 2000000) only [go_sem, d3]) ?_
      simp -implicitDefEqProofs (maxSteps := 2000000) only [go_sem, d3]
      refine call_of (l1Once_sat (byC c1) 4 k2 (by decide) (by decide)) (by simp -implicitDefEqProofs (maxSteps := 2000000) only [go_sem, d4] <;> and_intros <;> rfl) (by kernel_rfl) (by simp -implicitDefEqProofs (maxSteps := 2000000) only [go_sem, d4]) ?_
      simp -implicitDefEqProofs (maxSteps := 2000000) only [go_sem, d4]
      refine awp_loop Nat (fun k => mkSt [(0, .one (.vad 0 0)), (4, .one (.vad 1000 0)), (5, .one (.vad 1192 0)), (6, .sc (.int .i64 k))] [(0, sCur (frD (byC (byC c1)) k).2), (1000, zQ2), (1192, [.sc (.int .i64 q.vc), .ref 960 2 0 q.atoms.length, .ref 961 1 0 (q.free.length + (frD (byC (byC c1)) k).1.length)])] [(960, (2, ris 999 q.atoms)), (961, (1, ints (q.free ++ (frD (byC (byC c1)) k).1)))] 12000)
        (fun k => k ≤ N) (fun k => N - k) 0 (by omega) (le_st' _ _ [⟨960, some _, false, 2, _⟩, ⟨961, some _, false, 1, _⟩] [] _ (by simp -implicitDefEqProofs (maxSteps := 2000000) only [go_sem, frD, List.length_nil, List.append_nil, Nat.add_zero] <;> and_intros <;> rfl) (by simp -implicitDefEqProofs (maxSteps := 2000000) only [go_sem, frD, List.length_nil, List.append_nil, Nat.add_zero] <;> and_intros <;> rfl) (by simp -implicitDefEqProofs (maxSteps := 2000000) only [go_sem, frD, List.length_nil, List.append_nil, Nat.add_zero] <;> and_intros <;> rfl) (by rfl)) ?_
      rintro k h1
      obtain ⟨m1, m2⟩ := hF k
      by_cases c5 : k < N
      · have d5 : decide (((k : Nat) : Int) < q.vc) = true := decide_eq_true (by omega)
        have wk : IntKind.i64.wrap ((k : Int) + 1) = ((k + 1 : Nat) : Int) := i64_succ (by omega)
        rcases d6 : onV (frD (byC (byC c1)) k).2 3
        · have e1 : frD (byC (byC c1)) (k + 1) = ((frD (byC (byC c1)) k).1, byC (frD (byC (byC c1)) k).2) := by rw [frD, d6]; rfl
          simp -implicitDefEqProofs (maxSteps := 2000000) only [go_sem, d5]
          refine call_of (l1Once_sat (frD (byC (byC c1)) k).2 3 m1 (by decide) (by decide)) (by simp -implicitDefEqProofs (maxSteps := 2000000) only [go_sem, d6] <;> and_intros <;> rfl) (by kernel_rfl) (by simp -implicitDefEqProofs (maxSteps := 2000000) only [go_sem, d6]) ?_
          simp -implicitDefEqProofs (maxSteps := 2000000) only [go_sem, d6]
          rw [wk]
          exact ⟨k + 1, c5, by omega, (le_st' _ _ [⟨960, some _, false, 2, _⟩, ⟨961, some _, false, 1, _⟩] [] _ (by simp -implicitDefEqProofs (maxSteps := 2000000) only [go_sem, e1] <;> and_intros <;> rfl) (by simp -implicitDefEqProofs (maxSteps := 2000000) only [go_sem, e1] <;> and_intros <;> rfl) (by simp -implicitDefEqProofs (maxSteps := 2000000) only [go_sem, e1] <;> and_intros <;> rfl) (by rfl))⟩
        · have e1 : frD (byC (byC c1)) (k + 1) = ((frD (byC (byC c1)) k).1 ++ [(k : Int)], byC (frD (byC (byC c1)) k).2) := by rw [frD, d6]; rfl
          have et : List.take (q.free.length + (frD (byC (byC c1)) k).1.length) (q.free ++ (frD (byC (byC c1)) k).1) = q.free ++ (frD (byC (byC c1)) k).1 := List.take_of_length_le (by rw [List.length_append]; exact Nat.le_refl _)
          simp -implicitDefEqProofs (maxSteps := 2000000) only [go_sem, d5]
          refine call_of (l1Once_sat (frD (byC (byC c1)) k).2 3 m1 (by decide) (by decide)) (by simp -implicitDefEqProofs (maxSteps := 2000000) only [go_sem, d6, et] <;> and_intros <;> rfl) (by kernel_rfl) (by simp -implicitDefEqProofs (maxSteps := 2000000) only [go_sem, d6, et]) ?_
          simp -implicitDefEqProofs (maxSteps := 2000000) only [go_sem, d6, et]
          repeat (refine And.intro (by omega) ?_)
          rw [wk]
          refine ⟨k + 1, c5, by omega, ?_⟩
          exact (le_st' _ _ [⟨960, some _, false, 2, _⟩, ⟨961, some _, false, 1, _⟩] [] _ (by simp -implicitDefEqProofs (maxSteps := 2000000) only [go_sem, e1, et, List.append_assoc, Nat.add_assoc, repP, List.set_cons_zero, List.length_append, List.length_singleton] <;> and_intros <;> rfl) (by simp -implicitDefEqProofs (maxSteps := 2000000) only [go_sem, e1, et, List.append_assoc, Nat.add_assoc, repP, List.set_cons_zero, List.length_append, List.length_singleton] <;> and_intros <;> rfl) (by simp -implicitDefEqProofs (maxSteps := 2000000) only [go_sem, e1, et, List.append_assoc, Nat.add_assoc, repP, List.set_cons_zero, List.length_append, List.length_singleton] <;> and_intros <;> rfl) (by rfl))
      · obtain rfl : k = N := by omega
        have d5 : decide (((k : Nat) : Int) < q.vc) = false := decide_eq_false (by omega)
        simp -implicitDefEqProofs (maxSteps := 2000000) only [go_sem, d5]
        and_intros <;> first | rfl | (rw [List.length_append])
  · obtain ⟨q, hq, s1⟩ := l11Known_ex c0 (byC c1) kb
    have k2 := byC_ok kb
    rcases d4 : onV (byC (byC c1)) 4
    · have d4 : onV (byC (byC c1)) 4 = false := d4
      refine ⟨q, byC (byC (byC c1)), hq.more (by decide), byC_ok k2, ?_⟩
      refine sat_of_body mixed Tryz.func34 rfl (by kernel_rfl) (by kernel_rfl) (rs := [.cell 4 31]) rfl rfl rfl ?_
      simp -implicitDefEqProofs (maxSteps := 2000000) only [go_sem]
      refine call_of (s0) (by simp -implicitDefEqProofs (maxSteps := 2000000) only [go_sem]) (by kernel_rfl) (by simp -implicitDefEqProofs (maxSteps := 2000000) only [go_sem]) ?_
      simp -implicitDefEqProofs (maxSteps := 2000000) only [go_sem]
      refine call_of (l1Once_sat c1 3 k1 (by decide) (by decide)) (by simp -implicitDefEqProofs (maxSteps := 2000000) only [go_sem, d3] <;> and_intros <;> rfl) (by kernel_rfl) (by simp -implicitDefEqProofs (maxSteps := 2000000) only [go_sem, d3]) ?_
      simp -implicitDefEqProofs (maxSteps := 2000000) only [go_sem, d3]
      refine call_of (s1) ?_ ?_ ?_ ?_
      · simp -implicitDefEqProofs (maxSteps := 2000000) only [go_sem]
      · kernel_rfl
      · simp -implicitDefEqProofs (maxSteps := 2000000) only [go_sem]
      simp -implicitDefEqProofs (maxSteps := 2000000) only [go_sem]
      refine call_of (l1Once_sat (byC (byC c1)) 4 k2 (by decide) (by decide)) (by simp -implicitDefEqProofs (maxSteps := 2000000) only [go_sem, d4] <;> and_intros <;> rfl) (by kernel_rfl) (by simp -implicitDefEqProofs (maxSteps := 2000000) only [go_sem, d4]) ?_
      simp -implicitDefEqProofs (maxSteps := 2000000) only [go_sem, d4]
      and_intros <;> rfl
    · have d4 : onV (byC (byC c1)) 4 = true := d4
      have hF := frD_ok (byC_ok k2)
      obtain ⟨N, hN⟩ : ∃ N : Nat, N = q.vc.toNat := ⟨_, rfl⟩
      have hvc := hq.vc
      have hfr := hq.free
      have hna := hq.n
      obtain ⟨o1, o2⟩ := hF N
      refine ⟨⟨q.vc, q.atoms, q.free ++ (frD (byC (byC (byC c1))) N).1⟩, (frD (byC (byC (byC c1))) N).2, ⟨by simp only; omega, by simp only; omega, hq.first, (hq.more (by decide)).all, by simp only [List.length_append]; omega⟩, o1, ?_⟩
      refine sat_of_body mixed Tryz.func34 rfl (by kernel_rfl) (by kernel_rfl) (rs := [.cell 4 31]) rfl rfl rfl ?_
      simp -implicitDefEqProofs (maxSteps := 2000000) only [go_sem]
      refine call_of (s0) (by simp -implicitDefEqProofs (maxSteps := 2000000) only [go_sem]) (by kernel_rfl) (by simp -implicitDefEqProofs (maxSteps := 2000000) only [go_sem]) ?_
      simp -implicitDefEqProofs (maxSteps := 2000000) only [go_sem]
      refine call_of (l1Once_sat c1 3 k1 (by decide) (by decide)) (by simp -implicitDefEqProofs (maxSteps := 2000000) only [go_sem, d3] <;> and_intros <;> rfl) (by kernel_rfl) (by simp -implicitDefEqProofs (maxSteps := 2000000) only [go_sem, d3]) ?_
      simp -implicitDefEqProofs (maxSteps := 2000000) only [go_sem, d3]
      refine call_of (s1) ?_ ?_ ?_ ?_
      · simp -implicitDefEqProofs (maxSteps := 2000000) only [go_sem]
      · kernel_rfl
      · simp -implicitDefEqProofs (maxSteps := 2000000) only [go_sem]
      simp -implicitDefEqProofs (maxSteps := 2000000) only [go_sem]
      refine call_of (l1Once_sat (byC (byC c1)) 4 k2 (by decide) (by decide)) (by simp -implicitDefEqProofs (maxSteps := 2000000) only [go_sem, d4] <;> and_intros <;> rfl) (by kernel_rfl) (by simp -implicitDefEqProofs (maxSteps := 2000000) only [go_sem, d4]) ?_
      simp -implicitDefEqProofs (maxSteps := 2000000) only [go_sem, d4]
      refine awp_loop Nat (fun k => mkSt [(0, .one (.vad 0 0)), (4, .one (.vad 1000 0)), (5, .one (.vad 1192 0)), (6, .sc (.int .i64 k))] [(0, sCur (frD (byC (byC (byC c1))) k).2), (1000, zQ2), (1192, [.sc (.int .i64 q.vc), .ref 960 2 0 q.atoms.length, .ref 961 1 0 (q.free.length + (frD (byC (byC (byC c1))) k).1.length)])] [(960, (2, ris 999 q.atoms)), (961, (1, ints (q.free ++ (frD (byC (byC (byC c1))) k).1)))] 12000)
        (fun k => k ≤ N) (fun k => N - k) 0 (by omega) (le_st' _ _ [⟨960, some _, false, 2, _⟩, ⟨961, some _, false, 1, _⟩] [] _ (by simp -implicitDefEqProofs (maxSteps := 2000000) only [go_sem, frD, List.length_nil, List.append_nil, Nat.add_zero] <;> and_intros <;> rfl) (by simp -implicitDefEqProofs (maxSteps := 2000000) only [go_sem, frD, List.length_nil, List.append_nil, Nat.add_zero] <;> and_intros <;> rfl) (by simp -implicitDefEqProofs (maxSteps := 2000000) only [go_sem, frD, List.length_nil, List.append_nil, Nat.add_zero] <;> and_intros <;> rfl) (by rfl)) ?_
      rintro k h1
      obtain ⟨m1, m2⟩ := hF k
      by_cases c5 : k < N
      · have d5 : decide (((k : Nat) : Int) < q.vc) = true := decide_eq_true (by omega)
        have wk : IntKind.i64.wrap ((k : Int) + 1) = ((k + 1 : Nat) : Int) := i64_succ (by omega)
        rcases d6 : onV (frD (byC (byC (byC c1))) k).2 3
        · have e1 : frD (byC (byC (byC c1))) (k + 1) = ((frD (byC (byC (byC c1))) k).1, byC (frD (byC (byC (byC c1))) k).2) := by rw [frD, d6]; rfl
          simp -implicitDefEqProofs (maxSteps := 2000000) only [go_sem, d5]
          refine call_of (l1Once_sat (frD (byC (byC (byC c1))) k).2 3 m1 (by decide) (by decide)) (by simp -implicitDefEqProofs (maxSteps := 2000000) only [go_sem, d6] <;> and_intros <;> rfl) (by kernel_rfl) (by simp -implicitDefEqProofs (maxSteps := 2000000) only [go_sem, d6]) ?_
          simp -implicitDefEqProofs (maxSteps := 2000000) only [go_sem, d6]
          rw [wk]
          exact ⟨k + 1, c5, by omega, (le_st' _ _ [⟨960, some _, false, 2, _⟩, ⟨961, some _, false, 1, _⟩] [] _ (by simp -implicitDefEqProofs (maxSteps := 2000000) only [go_sem, e1] <;> and_intros <;> rfl) (by simp -implicitDefEqProofs (maxSteps := 2000000) only [go_sem, e1] <;> and_intros <;> rfl) (by simp -implicitDefEqProofs (maxSteps := 2000000) only [go_sem, e1] <;> and_intros <;> rfl) (by rfl))⟩
        · have e1 : frD (byC (byC (byC c1))) (k + 1) = ((frD (byC (byC (byC c1))) k).1 ++ [(k : Int)], byC (frD (byC (byC (byC c1))) k).2) := by rw [frD, d6]; rfl
          have et : List.take (q.free.length + (frD (byC (byC (byC c1))) k).1.length) (q.free ++ (frD (byC (byC (byC c1))) k).1) = q.free ++ (frD (byC (byC (byC c1))) k).1 := List.take_of_length_le (by rw [List.length_append]; exact Nat.le_refl _)
          simp -implicitDefEqProofs (maxSteps := 2000000) only [go_sem, d5]
          refine call_of (l1Once_sat (frD (byC (byC (byC c1))) k).2 3 m1 (by decide) (by decide)) (by simp -implicitDefEqProofs (maxSteps := 2000000) only [go_sem, d6, et] <;> and_intros <;> rfl) (by kernel_rfl) (by simp -implicitDefEqProofs (maxSteps := 2000000) only [go_sem, d6, et]) ?_
          simp -implicitDefEqProofs (maxSteps := 2000000) only [go_sem, d6, et]
          repeat (refine And.intro (by omega) ?_)
          rw [wk]
          refine ⟨k + 1, c5, by omega, ?_⟩
          exact (le_st' _ _ [⟨960, some _, false, 2, _⟩, ⟨961, some _, false, 1, _⟩] [] _ (by simp -implicitDefEqProofs (maxSteps := 2000000) only [go_sem, e1, et, List.append_assoc, Nat.add_assoc, repP, List.set_cons_zero, List.length_append, List.length_singleton] <;> and_intros <;> rfl) (by simp -implicitDefEqProofs (maxSteps := 2000000) only [go_sem, e1, et, List.append_assoc, Nat.add_assoc, repP, List.set_cons_zero, List.length_append, List.length_singleton] <;> and_intros <;> rfl) (by simp -implicitDefEqProofs (maxSteps := 2000000) only [go_sem, e1, et, List.append_assoc, Nat.add_assoc, repP, List.set_cons_zero, List.length_append, List.length_singleton] <;> and_intros <;> rfl) (by rfl))
      · obtain rfl : k = N := by omega
        have d5 : decide (((k : Nat) : Int) < q.vc) = false := decide_eq_false (by omega)
        simp -implicitDefEqProofs (maxSteps := 2000000) only [go_sem, d5]
        and_intros <;> first | rfl | (rw [List.length_append])
end Go.Proofs.YtedciihjgbkjgaaGreat.A


/- QUERIES DRAWN, spoilt now and then. Conditions: none. -/
namespace Go.Proofs.YtedciihjgbkjgaaGreat.A
open Go
set_option linter.unusedSimpArgs false
set_option linter.unusedVariables false
set_option maxRecDepth 100000

theorem idxA_rin {st : St} {K : Eff → Prop} {e id i j s off len k : Nat} : idxA st e (.rin id i j s off len) k K = idxJ e (st.objs id) id i j s off len k K := by
  simp only [idxA, idxJ, Rows.cell]
  rcases st.objs id with _ | ⟨w, rows⟩
  · rfl
  · simp only
    rcases (List.getD rows i []).getD j .gone with _ | ⟨s', xs⟩ | _ <;> rfl
attribute [go_sem] idxA_rin
theorem rst_2s (s t : Nat) (a b : List RI) : rst (ris (s + 1) a ++ ris (t + 1) b) = ris 1 (a ++ b) := by
  have e : ∀ x y : Rows, rst (x ++ y) = rst x ++ rst y := fun x y => by simp [rst]
  rw [e, ris_rst s, ris_rst t, ris_append]
set_option maxHeartbeats 8000000 in
theorem l11Any_ex (c0 c : Cur) (hc : c.ok) : ∃ (q : Qu) (c' : Cur), QuD 201 q ∧ c'.ok ∧ Sat Tryz.prog 37 [lCur c, lRels (sigs c0)] [oQu q] [lCur c', g1] := by
  obtain ⟨q, c1, hq, k1, s0⟩ := l11Draw_ex c0 c hc
  have hv := hq.vc
  have hn := hq.n
  have hf := hq.free
  have h1 := hq.first
  have ha := hq.all
  have hm := hq.more (show 200 ≤ 201 by decide)
  rcases q with ⟨vc, ats, fr⟩
  simp only at hv hn hf h1 ha
  have k2 := byC_ok k1
  have ht := beV_lt c1 (n := 14) (by decide)
  by_cases t0 : beV c1 14 = 0
  · have d0 : (((beV c1 14 : Nat) : Int) == 0) = true := by rw [t0]; rfl
    have w1 : IntKind.i64.wrap (vc + 1) = vc + 1 := IntWalk.i64_in _ (by omega)
    have eL : ((((List.replicate 3 (0 : Int)).set 0 (-1)).set 1 (vc + 1)).set 2 5) = [-1, vc + 1, 5] := rfl
    have hb := mem_getD (l := ([-1, vc + 1, 5] : List Int)) 0 (beV_lt (byC c1) (n := 3) (by decide))
    refine ⟨⟨([-1, vc + 1, 5] : List Int).getD (beV (byC c1) 3) 0, ats, fr⟩, byC (byC c1), ⟨?_, by simp only; omega, h1, hm.all, by simp only; omega⟩, byC_ok k2, ?_⟩
    · simp only
      generalize ([-1, vc + 1, 5] : List Int).getD (beV (byC c1) 3) 0 = z at hb
      simp only [List.mem_cons, List.not_mem_nil, or_false] at hb
      omega
    refine sat_of_body mixed Tryz.func37 rfl (by kernel_rfl) (by kernel_rfl) (rs := [.cell 4 31]) rfl rfl rfl ?_
    simp -implicitDefEqProofs (maxSteps := 2000000) only [go_sem]
    refine call_of (s0) ?_ ?_ ?_ ?_
    · simp -implicitDefEqProofs (maxSteps := 2000000) only [go_sem]
    · kernel_rfl
    · simp -implicitDefEqProofs (maxSteps := 2000000) only [go_sem]
    simp -implicitDefEqProofs (maxSteps := 2000000) only [go_sem]
    refine call_of (l1Below_sat c1 14 k1 (by decide) (by decide)) (by simp -implicitDefEqProofs (maxSteps := 2000000) only [go_sem, d0, w1] <;> and_intros <;> rfl) (by kernel_rfl) (by simp -implicitDefEqProofs (maxSteps := 2000000) only [go_sem, d0, w1]) ?_
    simp -implicitDefEqProofs (maxSteps := 2000000) only [go_sem, d0, w1]
    refine call_of (l1PickInt_own (byC c1) [-1, vc + 1, 5] k2 (by simp) (by simp)) (by simp -implicitDefEqProofs (maxSteps := 2000000) only [go_sem, eL]) (by kernel_rfl) (by simp -implicitDefEqProofs (maxSteps := 2000000) only [go_sem, eL]) ?_
    simp -implicitDefEqProofs (maxSteps := 2000000) only [go_sem, eL]
    and_intros <;> rfl
  have d0 : (((beV c1 14 : Nat) : Int) == 0) = false := by rw [beq_eq_false_iff_ne]; omega
  by_cases t1 : beV c1 14 = 1
  · have d1 : (((beV c1 14 : Nat) : Int) == 1) = true := by rw [t1]; rfl
    have b3 := beV_lt (byC c1) (n := 6) (by decide)
    have w3 : IntKind.i64.wrap (((beV (byC c1) 6 : Nat) : Int) - 1) = ((beV (byC c1) 6 : Nat) : Int) - 1 := IntWalk.i64_in _ (by omega)
    have eL : ((List.replicate 2 (0 : Int)).set 0 0).set 1 0 = [0, 0] := rfl
    refine ⟨⟨vc, ats ++ [⟨((beV (byC c1) 6 : Nat) : Int) - 1, [0, 0]⟩], fr⟩, byC (byC c1), ⟨by simp only; omega, by simp only [List.length_append, List.length_singleton]; omega, ?_, fun x hx => ?_, by simp only; omega⟩, byC_ok k2, ?_⟩
    · simp only
      rw [List.getD_eq_getElem?_getD, List.getElem?_append_left (by omega), ← List.getD_eq_getElem?_getD]; exact h1
    · rcases List.mem_append.mp hx with hx | hx
      · have := ha x hx; omega
      · rw [List.mem_singleton.mp hx]; simp
    refine sat_of_body mixed Tryz.func37 rfl (by kernel_rfl) (by kernel_rfl) (rs := [.cell 4 31]) rfl rfl rfl ?_
    simp -implicitDefEqProofs (maxSteps := 2000000) only [go_sem]
    refine call_of (s0) ?_ ?_ ?_ ?_
    · simp -implicitDefEqProofs (maxSteps := 2000000) only [go_sem]
    · kernel_rfl
    · simp -implicitDefEqProofs (maxSteps := 2000000) only [go_sem]
    simp -implicitDefEqProofs (maxSteps := 2000000) only [go_sem]
    refine call_of (l1Below_sat c1 14 k1 (by decide) (by decide)) (by simp -implicitDefEqProofs (maxSteps := 2000000) only [go_sem, d0, d1] <;> and_intros <;> rfl) (by kernel_rfl) (by simp -implicitDefEqProofs (maxSteps := 2000000) only [go_sem, d0, d1]) ?_
    simp -implicitDefEqProofs (maxSteps := 2000000) only [go_sem, d0, d1]
    refine call_of (l1Below_sat (byC c1) 6 k2 (by decide) (by decide)) (by simp -implicitDefEqProofs (maxSteps := 2000000) only [go_sem, w3, eL] <;> and_intros <;> rfl) (by kernel_rfl) (by simp -implicitDefEqProofs (maxSteps := 2000000) only [go_sem, w3, eL]) ?_
    simp -implicitDefEqProofs (maxSteps := 2000000) only [go_sem, w3, eL]
    repeat (refine And.intro (by omega) ?_)
    first | (with_reducible refine tr_and ?_ ?_; focus kernel_rfl) | (with_reducible refine tr_only ?_; kernel_rfl) | skip
    and_intros <;> first | rfl | exact (rst_2s 0 _ ats _).symm
  have d1 : (((beV c1 14 : Nat) : Int) == 1) = false := by rw [beq_eq_false_iff_ne]; omega
  by_cases t2 : beV c1 14 = 2
  · have d2 : (((beV c1 14 : Nat) : Int) == 2) = true := by rw [t2]; rfl
    have eL : (((List.replicate 3 (0 : Int)).set 0 (-11)).set 1 4).set 2 3 = [-11, 4, 3] := rfl
    have hv0 : (0 : Int) < ats.length := by omega
    have hv1 : 0 < ats.length := by omega
    have hw0 : (0 : Int) < (ats.getD 0 default).l.length := by omega
    have hw1 : 0 < (ats.getD 0 default).l.length := by omega
    refine ⟨⟨vc, ats.set 0 ⟨(ats.getD 0 default).r, (ats.getD 0 default).l.set 0 (([-11, 4, 3] : List Int).getD (beV (byC c1) 3) 0)⟩, fr⟩, byC (byC c1), ⟨by simp only; omega, by simp only [List.length_set]; omega, ?_, fun x hx => ?_, by simp only; omega⟩, byC_ok k2, ?_⟩
    · simp only
      rw [getD_set_same hv1]; simp only [List.length_set]; exact h1
    · rcases List.mem_or_eq_of_mem_set hx with hx | rfl
      · have := ha x hx; omega
      · have := ha _ (mem_getD default hv1); simp only [List.length_set]; omega
    refine sat_of_body mixed Tryz.func37 rfl (by kernel_rfl) (by kernel_rfl) (rs := [.cell 4 31]) rfl rfl rfl ?_
    simp -implicitDefEqProofs (maxSteps := 2000000) only [go_sem]
    refine call_of (s0) ?_ ?_ ?_ ?_
    · simp -implicitDefEqProofs (maxSteps := 2000000) only [go_sem]
    · kernel_rfl
    · simp -implicitDefEqProofs (maxSteps := 2000000) only [go_sem]
    simp -implicitDefEqProofs (maxSteps := 2000000) only [go_sem]
    refine call_of (l1Below_sat c1 14 k1 (by decide) (by decide)) (by simp -implicitDefEqProofs (maxSteps := 2000000) only [go_sem, d0, d1, d2, hv0, hv1] <;> and_intros <;> rfl) (by kernel_rfl) (by simp -implicitDefEqProofs (maxSteps := 2000000) only [go_sem, d0, d1, d2, hv0, hv1]) ?_
    simp -implicitDefEqProofs (maxSteps := 2000000) only [go_sem, d0, d1, d2, hv0, hv1]
    refine call_of (l1PickInt_own (byC c1) [-11, 4, 3] k2 (by decide) (by decide)) (by simp -implicitDefEqProofs (maxSteps := 2000000) only [go_sem, eL, hv0, hv1, hw0, hw1]) (by kernel_rfl) (by simp -implicitDefEqProofs (maxSteps := 2000000) only [go_sem, eL, hv0, hv1, hw0, hw1]) ?_
    simp -implicitDefEqProofs (maxSteps := 2000000) only [go_sem, eL, hv0, hv1, hw0, hw1]
    refine And.intro (by decide) ?_
    simp -implicitDefEqProofs (maxSteps := 2000000) only [go_sem, hv0, hv1, hw0, hw1]
    first | (with_reducible refine tr_and ?_ ?_; focus kernel_rfl) | (with_reducible refine tr_only ?_; kernel_rfl) | skip
    and_intros <;> rfl
  have d2 : (((beV c1 14 : Nat) : Int) == 2) = false := by rw [beq_eq_false_iff_ne]; omega
  by_cases t3 : beV c1 14 = 3
  · have d3 : (((beV c1 14 : Nat) : Int) == 3) = true := by rw [t3]; rfl
    refine ⟨⟨vc, ats, fr ++ [((beV (byC c1) 5 : Nat) : Int)]⟩, byC (byC c1), ⟨by simp only; omega, by simp only; omega, h1, hm.all, by simp only [List.length_append, List.length_singleton]; omega⟩, byC_ok k2, ?_⟩
    refine sat_of_body mixed Tryz.func37 rfl (by kernel_rfl) (by kernel_rfl) (rs := [.cell 4 31]) rfl rfl rfl ?_
    simp -implicitDefEqProofs (maxSteps := 2000000) only [go_sem]
    refine call_of (s0) ?_ ?_ ?_ ?_
    · simp -implicitDefEqProofs (maxSteps := 2000000) only [go_sem]
    · kernel_rfl
    · simp -implicitDefEqProofs (maxSteps := 2000000) only [go_sem]
    simp -implicitDefEqProofs (maxSteps := 2000000) only [go_sem]
    refine call_of (l1Below_sat c1 14 k1 (by decide) (by decide)) (by simp -implicitDefEqProofs (maxSteps := 2000000) only [go_sem, d0, d1, d2, d3] <;> and_intros <;> rfl) (by kernel_rfl) (by simp -implicitDefEqProofs (maxSteps := 2000000) only [go_sem, d0, d1, d2, d3]) ?_
    simp -implicitDefEqProofs (maxSteps := 2000000) only [go_sem, d0, d1, d2, d3]
    refine call_of (l1Below_sat (byC c1) 5 k2 (by decide) (by decide)) (by simp -implicitDefEqProofs (maxSteps := 2000000) only [go_sem] <;> and_intros <;> rfl) (by kernel_rfl) (by simp -implicitDefEqProofs (maxSteps := 2000000) only [go_sem]) ?_
    simp -implicitDefEqProofs (maxSteps := 2000000) only [go_sem]
    repeat (refine And.intro (by omega) ?_)
    first | (with_reducible refine tr_and ?_ ?_; focus kernel_rfl) | (with_reducible refine tr_only ?_; kernel_rfl) | skip
    and_intros <;> rfl
  · have d3 : (((beV c1 14 : Nat) : Int) == 3) = false := by rw [beq_eq_false_iff_ne]; omega
    refine ⟨⟨vc, ats, fr⟩, byC c1, hm, k2, ?_⟩
    refine sat_of_body mixed Tryz.func37 rfl (by kernel_rfl) (by kernel_rfl) (rs := [.cell 4 31]) rfl rfl rfl ?_
    simp -implicitDefEqProofs (maxSteps := 2000000) only [go_sem]
    refine call_of (s0) ?_ ?_ ?_ ?_
    · simp -implicitDefEqProofs (maxSteps := 2000000) only [go_sem]
    · kernel_rfl
    · simp -implicitDefEqProofs (maxSteps := 2000000) only [go_sem]
    simp -implicitDefEqProofs (maxSteps := 2000000) only [go_sem]
    refine call_of (l1Below_sat c1 14 k1 (by decide) (by decide)) (by simp -implicitDefEqProofs (maxSteps := 2000000) only [go_sem, d0, d1, d2, d3] <;> and_intros <;> rfl) (by kernel_rfl) (by simp -implicitDefEqProofs (maxSteps := 2000000) only [go_sem, d0, d1, d2, d3]) ?_
    simp -implicitDefEqProofs (maxSteps := 2000000) only [go_sem, d0, d1, d2, d3]
    and_intros <;> rfl
end Go.Proofs.YtedciihjgbkjgaaGreat.A


/- DATABASES DRAWN, SPOILT NOW AND THEN. Conditions: none. -/
namespace Go.Proofs.YtedciihjgbkjgaaGreat.A
open Go
set_option linter.unusedSimpArgs false
set_option linter.unusedVariables false
set_option maxRecDepth 100000

theorem frz_2s (s t : Nat) (a b : List RI) : frz (ris s a ++ ris t b) = ris 0 (a ++ b) := by
  have e : ∀ x y : Rows, frz (x ++ y) = frz x ++ frz y := fun x y => by simp [frz]
  rw [e, ris_frz, ris_frz, ris_append]
theorem take_set1 {α : Type} {l : List α} {i : Nat} {x : α} : List.take l.length (l.set i x) = l.set i x := List.take_of_length_le (by rw [List.length_set]; exact Nat.le_refl _)
theorem take_two (s t : Nat) (a : List RI) (x : RI) : List.take (a.length + 1) (ris s a ++ ris t [x]) = ris s a ++ ris t [x] := List.take_of_length_le (by simp [ris])
theorem l4Any_ex (c : Cur) (hc : c.ok) : ∃ (d : Db) (c' : Cur), DbS d 13 ∧ c'.ok ∧ Sat Tryz.prog 36 [lCur c] [lDb d] [lCur c'] := by
  obtain ⟨d, c1, h1, h2, h3, s0⟩ := l4Db_ex c hc
  have hl : d.rels.length = 4 := by rw [h2]; exact sigs_len c
  have hr : ∀ x ∈ d.rels, 1 ≤ x.ar ∧ x.ar ≤ 3 := fun x hx => (sigs_ok c x (by rw [← h2]; exact hx)).1
  have hk := byC_ok h3
  have hf := h1.facts
  clear h2
  rcases d with ⟨rs, fs⟩
  simp only at hl hr hf
  have ht := beV_lt c1 (n := 14) (by decide)
  by_cases t0 : beV c1 14 = 0
  · have d0 : (((beV c1 14 : Nat) : Int) == 0) = true := by rw [t0]; rfl
    obtain ⟨f, c2, f1, f2, f3⟩ := l3Any_ex (byC c1) rs hk (by omega) (by omega) hr
    refine ⟨⟨rs, fs ++ [f]⟩, c2, ⟨by simp only; omega, h1.names, by simp only [List.length_append, List.length_singleton]; omega, fun x hx => ?_⟩, f2, ?_⟩
    · rcases List.mem_append.mp hx with hx | hx
      · exact h1.vals x hx
      · rw [List.mem_singleton.mp hx]; exact f1
    refine sat_of_bodyB Tryz.func36 rfl (by kernel_rfl) (rs := [.cell 2 27]) rfl rfl rfl ?_
    refine bwp_seq mixed (by kernel_rfl) ?_
    simp -implicitDefEqProofs (maxSteps := 2000000) only [go_sem]
    refine bwp_seq mixed (by kernel_rfl) ?_
    simp -implicitDefEqProofs (maxSteps := 2000000) only [go_sem]
    refine call_of (s0) (by simp -implicitDefEqProofs (maxSteps := 2000000) only [go_sem]) (by kernel_rfl) (by simp -implicitDefEqProofs (maxSteps := 2000000) only [go_sem]) ?_
    simp -implicitDefEqProofs (maxSteps := 2000000) only [go_sem]
    refine bwp_seqB (bwp_seq mixed (by kernel_rfl) ?_)
    simp -implicitDefEqProofs (maxSteps := 2000000) only [go_sem]
    refine call_of (l1Below_sat c1 14 h3 (by decide) (by decide)) (by simp -implicitDefEqProofs (maxSteps := 2000000) only [go_sem] <;> and_intros <;> rfl) (by kernel_rfl) (by simp -implicitDefEqProofs (maxSteps := 2000000) only [go_sem]) ?_
    simp -implicitDefEqProofs (maxSteps := 2000000) only [go_sem]
    refine bwp_le (st' := mkSt [(0, .one (.vad 0 0)), (2, .one (.vad 1000 0)), (3, .one (.vad 1192 0)), (7, .sc (.int .i64 ((beV c1 14 : Nat) : Int)))] [(0, sCur (byC c1)), (1000, yDb), (1192, [.im 3 (rels rs), .ref 961 2 0 fs.length])] [(961, (2, ris 999 fs))] 9000) (le_st' _ _ [⟨961, some _, false, 2, _⟩] [1128] _ (by simp -implicitDefEqProofs (maxSteps := 2000000) only [go_sem, rels_frz] <;> and_intros <;> first | rfl | exact List.mem_singleton_self _ | decide | (refine ⟨_, rfl, Eq.symm ?_⟩; simp -implicitDefEqProofs (maxSteps := 2000000) only [go_sem, rels_frz]; done) | (refine ⟨_, rfl, Eq.symm ?_⟩; simp -implicitDefEqProofs (maxSteps := 2000000) only [go_sem, rels_frz]; rfl)) (by simp -implicitDefEqProofs (maxSteps := 2000000) only [go_sem, rels_frz] <;> and_intros <;> first | rfl | exact List.mem_singleton_self _ | decide | (refine ⟨_, rfl, Eq.symm ?_⟩; simp -implicitDefEqProofs (maxSteps := 2000000) only [go_sem, rels_frz]; done) | (refine ⟨_, rfl, Eq.symm ?_⟩; simp -implicitDefEqProofs (maxSteps := 2000000) only [go_sem, rels_frz]; rfl)) (by simp -implicitDefEqProofs (maxSteps := 2000000) only [go_sem, rels_frz] <;> and_intros <;> rfl) (by rfl)) ?_
    refine bwp_awp mixed (by kernel_rfl) ?_
    simp -implicitDefEqProofs (maxSteps := 2000000) only [go_sem, d0]
    refine call_of (f3) ?_ ?_ ?_ ?_
    · simp -implicitDefEqProofs (maxSteps := 2000000) only [go_sem]
    · kernel_rfl
    · simp -implicitDefEqProofs (maxSteps := 2000000) only [go_sem]
    simp -implicitDefEqProofs (maxSteps := 2000000) only [go_sem]
    refine ⟨by omega, ?_⟩
    refine tr_and (by kernel_rfl) ?_
    refine bwp_le (st' := mkSt [(2, .one (.vad 1000 0)), (3, .one (.vad 1192 0))] [(0, sCur c2), (1000, yDb), (1192, sDb ⟨rs, fs ++ [f]⟩)] [] 20000) (le_st' _ _ [] [9576] _ (by simp -implicitDefEqProofs (maxSteps := 2000000) only [go_sem, rels_frz, repD1, List.set_cons_zero, take_two, frz_2s] <;> and_intros <;> first | rfl | exact List.mem_singleton_self _ | decide | (refine ⟨_, rfl, Eq.symm ?_⟩; simp -implicitDefEqProofs (maxSteps := 2000000) only [go_sem, rels_frz, repD1, List.set_cons_zero, take_two, frz_2s]; done) | (refine ⟨_, rfl, Eq.symm ?_⟩; simp -implicitDefEqProofs (maxSteps := 2000000) only [go_sem, rels_frz, repD1, List.set_cons_zero, take_two, frz_2s]; rfl)) (by simp -implicitDefEqProofs (maxSteps := 2000000) only [go_sem, rels_frz, repD1, List.set_cons_zero, take_two, frz_2s] <;> and_intros <;> first | rfl | exact List.mem_singleton_self _ | decide | (refine ⟨_, rfl, Eq.symm ?_⟩; simp -implicitDefEqProofs (maxSteps := 2000000) only [go_sem, rels_frz, repD1, List.set_cons_zero, take_two, frz_2s]; done) | (refine ⟨_, rfl, Eq.symm ?_⟩; simp -implicitDefEqProofs (maxSteps := 2000000) only [go_sem, rels_frz, repD1, List.set_cons_zero, take_two, frz_2s]; rfl)) (by simp -implicitDefEqProofs (maxSteps := 2000000) only [go_sem, rels_frz, repD1, List.set_cons_zero, take_two, frz_2s] <;> and_intros <;> rfl) (by rfl)) ?_
    refine bwp_awp mixed (by kernel_rfl) ?_
    simp -implicitDefEqProofs (maxSteps := 2000000) only [go_sem]
    and_intros <;> rfl
  have d0 : (((beV c1 14 : Nat) : Int) == 0) = false := by rw [beq_eq_false_iff_ne]; omega
  by_cases t1 : beV c1 14 = 1
  · have d1 : (((beV c1 14 : Nat) : Int) == 1) = true := by rw [t1]; rfl
    have hb := beV_lt (byC c1) (n := 4) (by decide)
    have hb2 : beV (byC c1) 4 ≤ rs.length := by omega
    refine ⟨⟨rs.take (beV (byC c1) 4), fs⟩, byC (byC c1), ⟨by simp only [List.length_take]; omega, fun x hx => h1.names x (List.mem_of_mem_take hx), by simp only; omega, h1.vals⟩, byC_ok hk, ?_⟩
    refine sat_of_bodyB Tryz.func36 rfl (by kernel_rfl) (rs := [.cell 2 27]) rfl rfl rfl ?_
    refine bwp_seq mixed (by kernel_rfl) ?_
    simp -implicitDefEqProofs (maxSteps := 2000000) only [go_sem]
    refine bwp_seq mixed (by kernel_rfl) ?_
    simp -implicitDefEqProofs (maxSteps := 2000000) only [go_sem]
    refine call_of (s0) (by simp -implicitDefEqProofs (maxSteps := 2000000) only [go_sem]) (by kernel_rfl) (by simp -implicitDefEqProofs (maxSteps := 2000000) only [go_sem]) ?_
    simp -implicitDefEqProofs (maxSteps := 2000000) only [go_sem]
    refine bwp_seqB (bwp_seq mixed (by kernel_rfl) ?_)
    simp -implicitDefEqProofs (maxSteps := 2000000) only [go_sem]
    refine call_of (l1Below_sat c1 14 h3 (by decide) (by decide)) (by simp -implicitDefEqProofs (maxSteps := 2000000) only [go_sem] <;> and_intros <;> rfl) (by kernel_rfl) (by simp -implicitDefEqProofs (maxSteps := 2000000) only [go_sem]) ?_
    simp -implicitDefEqProofs (maxSteps := 2000000) only [go_sem]
    refine bwp_awp mixed (by kernel_rfl) ?_
    simp -implicitDefEqProofs (maxSteps := 2000000) only [go_sem, d0, d1]
    refine call_of (l1Below_sat (byC c1) 4 hk (by decide) (by decide)) (by simp -implicitDefEqProofs (maxSteps := 2000000) only [go_sem, hb2] <;> and_intros <;> rfl) (by kernel_rfl) (by simp -implicitDefEqProofs (maxSteps := 2000000) only [go_sem, hb2]) ?_
    simp -implicitDefEqProofs (maxSteps := 2000000) only [go_sem, hb2]
    repeat (refine ⟨by omega, ?_⟩)
    first | (with_reducible refine tr_and ?_ ?_; focus kernel_rfl) | (with_reducible refine tr_only ?_; kernel_rfl) | skip
    refine bwp_le (st' := mkSt [(2, .one (.vad 1000 0)), (3, .one (.vad 1192 0))] [(0, sCur (byC (byC c1))), (1000, yDb), (1192, sDb ⟨rs.take (beV (byC c1) 4), fs⟩)] [] 20000) (le_st' _ _ [] [1128, 1129] _ (by simp -implicitDefEqProofs (maxSteps := 2000000) only [go_sem, rels_frz, Nat.sub_zero] <;> and_intros <;> first | rfl | exact List.mem_singleton_self _ | decide | (refine ⟨_, rfl, Eq.symm ?_⟩; simp -implicitDefEqProofs (maxSteps := 2000000) only [go_sem, rels_frz, Nat.sub_zero]; done) | (refine ⟨_, rfl, Eq.symm ?_⟩; simp -implicitDefEqProofs (maxSteps := 2000000) only [go_sem, rels_frz, Nat.sub_zero]; rfl)) (by simp -implicitDefEqProofs (maxSteps := 2000000) only [go_sem, rels_frz, Nat.sub_zero] <;> and_intros <;> first | rfl | exact List.mem_singleton_self _ | decide | (refine ⟨_, rfl, Eq.symm ?_⟩; simp -implicitDefEqProofs (maxSteps := 2000000) only [go_sem, rels_frz, Nat.sub_zero]; done) | (refine ⟨_, rfl, Eq.symm ?_⟩; simp -implicitDefEqProofs (maxSteps := 2000000) only [go_sem, rels_frz, Nat.sub_zero]; rfl)) (by simp -implicitDefEqProofs (maxSteps := 2000000) only [go_sem, rels_frz, Nat.sub_zero] <;> and_intros <;> rfl) (by rfl)) ?_
    refine bwp_awp mixed (by kernel_rfl) ?_
    simp -implicitDefEqProofs (maxSteps := 2000000) only [go_sem]
    and_intros <;> rfl
  have d1 : (((beV c1 14 : Nat) : Int) == 1) = false := by rw [beq_eq_false_iff_ne]; omega
  by_cases t2 : beV c1 14 = 2
  · have d2 : (((beV c1 14 : Nat) : Int) == 2) = true := by rw [t2]; rfl
    have hb := beV_lt (byC c1) (n := 4) (by decide)
    have hb2 : beV (byC c1) 4 < rs.length := by omega
    have hn := anyN_ok ⟨beV (byC (byC c1)) 6, beV_lt _ (by decide)⟩
    refine ⟨⟨rs.set (beV (byC c1) 4) (anyR (byC (byC c1))), fs⟩, byC (byC (byC (byC (byC c1)))), ⟨by simp only [List.length_set]; omega, fun x hx => ?_, by simp only; omega, h1.vals⟩, byC_ok (byC_ok (byC_ok (byC_ok hk))), ?_⟩
    · rcases List.mem_or_eq_of_mem_set hx with hx | rfl
      · exact h1.names x hx
      · exact hn
    refine sat_of_bodyB Tryz.func36 rfl (by kernel_rfl) (rs := [.cell 2 27]) rfl rfl rfl ?_
    refine bwp_seq mixed (by kernel_rfl) ?_
    simp -implicitDefEqProofs (maxSteps := 2000000) only [go_sem]
    refine bwp_seq mixed (by kernel_rfl) ?_
    simp -implicitDefEqProofs (maxSteps := 2000000) only [go_sem]
    refine call_of (s0) (by simp -implicitDefEqProofs (maxSteps := 2000000) only [go_sem]) (by kernel_rfl) (by simp -implicitDefEqProofs (maxSteps := 2000000) only [go_sem]) ?_
    simp -implicitDefEqProofs (maxSteps := 2000000) only [go_sem]
    refine bwp_seqB (bwp_seq mixed (by kernel_rfl) ?_)
    simp -implicitDefEqProofs (maxSteps := 2000000) only [go_sem]
    refine call_of (l1Below_sat c1 14 h3 (by decide) (by decide)) (by simp -implicitDefEqProofs (maxSteps := 2000000) only [go_sem] <;> and_intros <;> rfl) (by kernel_rfl) (by simp -implicitDefEqProofs (maxSteps := 2000000) only [go_sem]) ?_
    simp -implicitDefEqProofs (maxSteps := 2000000) only [go_sem]
    refine bwp_awp mixed (by kernel_rfl) ?_
    simp -implicitDefEqProofs (maxSteps := 2000000) only [go_sem, d0, d1, d2]
    refine call_of (l1Below_sat (byC c1) 4 hk (by decide) (by decide)) (by simp -implicitDefEqProofs (maxSteps := 2000000) only [go_sem] <;> and_intros <;> rfl) (by kernel_rfl) (by simp -implicitDefEqProofs (maxSteps := 2000000) only [go_sem]) ?_
    simp -implicitDefEqProofs (maxSteps := 2000000) only [go_sem]
    refine call_of (l2Any_sat (byC (byC c1)) (byC_ok hk)) (by simp -implicitDefEqProofs (maxSteps := 2000000) only [go_sem, hb2] <;> and_intros <;> rfl) (by kernel_rfl) (by simp -implicitDefEqProofs (maxSteps := 2000000) only [go_sem, hb2]) ?_
    simp -implicitDefEqProofs (maxSteps := 2000000) only [go_sem, hb2]
    first | (with_reducible refine tr_and ?_ ?_; focus kernel_rfl) | (with_reducible refine tr_only ?_; kernel_rfl) | skip
    refine bwp_le (st' := mkSt [(2, .one (.vad 1000 0)), (3, .one (.vad 1192 0))] [(0, sCur (byC (byC (byC (byC (byC c1)))))), (1000, yDb), (1192, sDb ⟨rs.set (beV (byC c1) 4) (anyR (byC (byC c1))), fs⟩)] [] 20000) (le_st' _ _ [] [1128, 1129] _ (by simp -implicitDefEqProofs (maxSteps := 2000000) only [go_sem, rels_frz, take_set1] <;> and_intros <;> first | rfl | exact List.mem_singleton_self _ | decide | (refine ⟨_, rfl, Eq.symm ?_⟩; simp -implicitDefEqProofs (maxSteps := 2000000) only [go_sem, rels_frz, take_set1]; done) | (refine ⟨_, rfl, Eq.symm ?_⟩; simp -implicitDefEqProofs (maxSteps := 2000000) only [go_sem, rels_frz, take_set1]; rfl)) (by simp -implicitDefEqProofs (maxSteps := 2000000) only [go_sem, rels_frz, take_set1] <;> and_intros <;> first | rfl | exact List.mem_singleton_self _ | decide | (refine ⟨_, rfl, Eq.symm ?_⟩; simp -implicitDefEqProofs (maxSteps := 2000000) only [go_sem, rels_frz, take_set1]; done) | (refine ⟨_, rfl, Eq.symm ?_⟩; simp -implicitDefEqProofs (maxSteps := 2000000) only [go_sem, rels_frz, take_set1]; rfl)) (by simp -implicitDefEqProofs (maxSteps := 2000000) only [go_sem, rels_frz, take_set1] <;> and_intros <;> rfl) (by rfl)) ?_
    refine bwp_awp mixed (by kernel_rfl) ?_
    simp -implicitDefEqProofs (maxSteps := 2000000) only [go_sem]
    and_intros <;> rfl
  · have d2 : (((beV c1 14 : Nat) : Int) == 2) = false := by rw [beq_eq_false_iff_ne]; omega
    refine ⟨⟨rs, fs⟩, byC c1, ⟨by simp only; omega, h1.names, by simp only; omega, h1.vals⟩, hk, ?_⟩
    refine sat_of_bodyB Tryz.func36 rfl (by kernel_rfl) (rs := [.cell 2 27]) rfl rfl rfl ?_
    refine bwp_seq mixed (by kernel_rfl) ?_
    simp -implicitDefEqProofs (maxSteps := 2000000) only [go_sem]
    refine bwp_seq mixed (by kernel_rfl) ?_
    simp -implicitDefEqProofs (maxSteps := 2000000) only [go_sem]
    refine call_of (s0) (by simp -implicitDefEqProofs (maxSteps := 2000000) only [go_sem]) (by kernel_rfl) (by simp -implicitDefEqProofs (maxSteps := 2000000) only [go_sem]) ?_
    simp -implicitDefEqProofs (maxSteps := 2000000) only [go_sem]
    refine bwp_seqB (bwp_seq mixed (by kernel_rfl) ?_)
    simp -implicitDefEqProofs (maxSteps := 2000000) only [go_sem]
    refine call_of (l1Below_sat c1 14 h3 (by decide) (by decide)) (by simp -implicitDefEqProofs (maxSteps := 2000000) only [go_sem] <;> and_intros <;> rfl) (by kernel_rfl) (by simp -implicitDefEqProofs (maxSteps := 2000000) only [go_sem]) ?_
    simp -implicitDefEqProofs (maxSteps := 2000000) only [go_sem]
    refine bwp_awp mixed (by kernel_rfl) ?_
    simp -implicitDefEqProofs (maxSteps := 2000000) only [go_sem, d0, d1, d2]
    refine bwp_le (st' := mkSt [(2, .one (.vad 1000 0)), (3, .one (.vad 1192 0))] [(0, sCur (byC c1)), (1000, yDb), (1192, sDb ⟨rs, fs⟩)] [] 20000) (le_st' _ _ [] [1128, 1129] _ (by simp -implicitDefEqProofs (maxSteps := 2000000) only [go_sem, rels_frz] <;> and_intros <;> first | rfl | exact List.mem_singleton_self _ | decide | (refine ⟨_, rfl, Eq.symm ?_⟩; simp -implicitDefEqProofs (maxSteps := 2000000) only [go_sem, rels_frz]; done) | (refine ⟨_, rfl, Eq.symm ?_⟩; simp -implicitDefEqProofs (maxSteps := 2000000) only [go_sem, rels_frz]; rfl)) (by simp -implicitDefEqProofs (maxSteps := 2000000) only [go_sem, rels_frz] <;> and_intros <;> first | rfl | exact List.mem_singleton_self _ | decide | (refine ⟨_, rfl, Eq.symm ?_⟩; simp -implicitDefEqProofs (maxSteps := 2000000) only [go_sem, rels_frz]; done) | (refine ⟨_, rfl, Eq.symm ?_⟩; simp -implicitDefEqProofs (maxSteps := 2000000) only [go_sem, rels_frz]; rfl)) (by simp -implicitDefEqProofs (maxSteps := 2000000) only [go_sem, rels_frz] <;> and_intros <;> rfl) (by rfl)) ?_
    refine bwp_awp mixed (by kernel_rfl) ?_
    simp -implicitDefEqProofs (maxSteps := 2000000) only [go_sem]
    and_intros <;> rfl
end Go.Proofs.YtedciihjgbkjgaaGreat.A


/- DATABASES AND QUERIES DRAWN. Conditions: none. -/
namespace Go.Proofs.YtedciihjgbkjgaaGreat.A
open Go
set_option linter.unusedSimpArgs false
set_option linter.unusedVariables false
set_option maxRecDepth 100000

set_option maxHeartbeats 8000000 in
theorem l12Both_ex (b : List Int) (h : b.length ≤ 1048576) : ∃ (c' : Cur) (d : Db) (q : Qu), DbS d 13 ∧ QuD 201 q ∧ c'.ok ∧ Sat Tryz.prog 18 [lBys b] [lCur c', lDb d, oQu q] [g1] := by
  have k0 := curN_ok h
  obtain ⟨d, c1, hd, hr, k1, s1⟩ := l4Db_ex (curN b) k0
  obtain ⟨q, c2, hq, k2, s2⟩ := l11Draw_ex (curN b) c1 k1
  have k3 := byC_ok k2
  have hd' : DbS d 13 := ⟨hd.rels, hd.names, by have := hd.facts; omega, hd.vals⟩
  have ht := beV_lt c2 (n := 20) (by decide)
  have s3 := l1Below_sat c2 20 k2 (by decide) (by decide)
  by_cases t0 : beV c2 20 = 0
  · have d0 : (((beV c2 20 : Nat) : Int) == 0) = true := by rw [t0]; rfl
    obtain ⟨d2, c4, hd2, k4, s4⟩ := l4Any_ex (byC c2) k3
    refine ⟨c4, d2, q, hd2, hq.more (by decide), k4, ?_⟩
    clear hd hd' hd2
    rw [← hr] at s2
    refine sat_of_bodyB Tryz.func18 rfl (by kernel_rfl) (rs := [.tmp 2, .cell 3 27, .cell 4 31]) rfl rfl rfl ?_
    refine bwp_seq mixed (by kernel_rfl) ?_
    simp -implicitDefEqProofs (maxSteps := 2000000) only [go_sem]
    refine bwp_seq mixed (by kernel_rfl) ?_
    simp -implicitDefEqProofs (maxSteps := 2000000) only [go_sem]
    refine call_of (l1New_sat b (by omega)) (by simp -implicitDefEqProofs (maxSteps := 2000000) only [go_sem]) (by kernel_rfl) (by simp -implicitDefEqProofs (maxSteps := 2000000) only [go_sem]) ?_
    simp -implicitDefEqProofs (maxSteps := 2000000) only [go_sem]
    refine bwp_seq mixed (by kernel_rfl) ?_
    simp -implicitDefEqProofs (maxSteps := 2000000) only [go_sem]
    refine call_of (s1) (by simp -implicitDefEqProofs (maxSteps := 2000000) only [go_sem]) (by kernel_rfl) (by simp -implicitDefEqProofs (maxSteps := 2000000) only [go_sem]) ?_
    simp -implicitDefEqProofs (maxSteps := 2000000) only [go_sem]
    refine bwp_le (st' := mkSt [(3, .one (.vad 1064 0)), (4, .one (.vad 1128 0)), (5, .one (.vad 1256 0)), (6, .one (.vad 1512 0))] [(1064, yDb), (1128, zQ2), (1256, sCur c1), (1512, sDb d)] [] 4000) (le_st' _ _ [] [1448, 1449] _ (by simp -implicitDefEqProofs (maxSteps := 2000000) only [go_sem, rels_frz] <;> and_intros <;> first | rfl | exact List.mem_singleton_self _ | decide | (refine ⟨_, rfl, Eq.symm ?_⟩; simp -implicitDefEqProofs (maxSteps := 2000000) only [go_sem, rels_frz]; done) | (refine ⟨_, rfl, Eq.symm ?_⟩; simp -implicitDefEqProofs (maxSteps := 2000000) only [go_sem, rels_frz]; rfl)) (by simp -implicitDefEqProofs (maxSteps := 2000000) only [go_sem, rels_frz] <;> and_intros <;> first | rfl | exact List.mem_singleton_self _ | decide | (refine ⟨_, rfl, Eq.symm ?_⟩; simp -implicitDefEqProofs (maxSteps := 2000000) only [go_sem, rels_frz]; done) | (refine ⟨_, rfl, Eq.symm ?_⟩; simp -implicitDefEqProofs (maxSteps := 2000000) only [go_sem, rels_frz]; rfl)) (by simp -implicitDefEqProofs (maxSteps := 2000000) only [go_sem, rels_frz] <;> and_intros <;> rfl) (by rfl)) ?_
    refine bwp_awp mixed (by kernel_rfl) ?_
    simp -implicitDefEqProofs (maxSteps := 2000000) only [go_sem]
    refine call_of (s2) ?_ ?_ ?_ ?_
    · simp -implicitDefEqProofs (maxSteps := 2000000) only [go_sem]
    · kernel_rfl
    · simp -implicitDefEqProofs (maxSteps := 2000000) only [go_sem]
    simp -implicitDefEqProofs (maxSteps := 2000000) only [go_sem]
    refine call_of (s3) (by simp -implicitDefEqProofs (maxSteps := 2000000) only [go_sem, d0] <;> and_intros <;> rfl) (by kernel_rfl) (by simp -implicitDefEqProofs (maxSteps := 2000000) only [go_sem, d0]) ?_
    simp -implicitDefEqProofs (maxSteps := 2000000) only [go_sem, d0]
    refine call_of (s4) ?_ ?_ ?_ ?_
    · simp -implicitDefEqProofs (maxSteps := 2000000) only [go_sem]
    · kernel_rfl
    · simp -implicitDefEqProofs (maxSteps := 2000000) only [go_sem]
    simp -implicitDefEqProofs (maxSteps := 2000000) only [go_sem]
    first | (with_reducible refine tr_and ?_ ?_; focus kernel_rfl) | (with_reducible refine tr_only ?_; kernel_rfl) | skip
    and_intros <;> rfl
  have d0 : (((beV c2 20 : Nat) : Int) == 0) = false := by rw [beq_eq_false_iff_ne]; omega
  by_cases t1 : beV c2 20 = 1
  · have d1 : (((beV c2 20 : Nat) : Int) == 1) = true := by rw [t1]; rfl
    obtain ⟨q2, c4, hq2, k4, s4⟩ := l11Any_ex (curN b) (byC c2) k3
    refine ⟨c4, d, q2, hd', hq2, k4, ?_⟩
    clear hd hd'
    rw [← hr] at s2 s4
    refine sat_of_bodyB Tryz.func18 rfl (by kernel_rfl) (rs := [.tmp 2, .cell 3 27, .cell 4 31]) rfl rfl rfl ?_
    refine bwp_seq mixed (by kernel_rfl) ?_
    simp -implicitDefEqProofs (maxSteps := 2000000) only [go_sem]
    refine bwp_seq mixed (by kernel_rfl) ?_
    simp -implicitDefEqProofs (maxSteps := 2000000) only [go_sem]
    refine call_of (l1New_sat b (by omega)) (by simp -implicitDefEqProofs (maxSteps := 2000000) only [go_sem]) (by kernel_rfl) (by simp -implicitDefEqProofs (maxSteps := 2000000) only [go_sem]) ?_
    simp -implicitDefEqProofs (maxSteps := 2000000) only [go_sem]
    refine bwp_seq mixed (by kernel_rfl) ?_
    simp -implicitDefEqProofs (maxSteps := 2000000) only [go_sem]
    refine call_of (s1) (by simp -implicitDefEqProofs (maxSteps := 2000000) only [go_sem]) (by kernel_rfl) (by simp -implicitDefEqProofs (maxSteps := 2000000) only [go_sem]) ?_
    simp -implicitDefEqProofs (maxSteps := 2000000) only [go_sem]
    refine bwp_le (st' := mkSt [(3, .one (.vad 1064 0)), (4, .one (.vad 1128 0)), (5, .one (.vad 1256 0)), (6, .one (.vad 1512 0))] [(1064, yDb), (1128, zQ2), (1256, sCur c1), (1512, sDb d)] [] 4000) (le_st' _ _ [] [1448, 1449] _ (by simp -implicitDefEqProofs (maxSteps := 2000000) only [go_sem, rels_frz] <;> and_intros <;> first | rfl | exact List.mem_singleton_self _ | decide | (refine ⟨_, rfl, Eq.symm ?_⟩; simp -implicitDefEqProofs (maxSteps := 2000000) only [go_sem, rels_frz]; done) | (refine ⟨_, rfl, Eq.symm ?_⟩; simp -implicitDefEqProofs (maxSteps := 2000000) only [go_sem, rels_frz]; rfl)) (by simp -implicitDefEqProofs (maxSteps := 2000000) only [go_sem, rels_frz] <;> and_intros <;> first | rfl | exact List.mem_singleton_self _ | decide | (refine ⟨_, rfl, Eq.symm ?_⟩; simp -implicitDefEqProofs (maxSteps := 2000000) only [go_sem, rels_frz]; done) | (refine ⟨_, rfl, Eq.symm ?_⟩; simp -implicitDefEqProofs (maxSteps := 2000000) only [go_sem, rels_frz]; rfl)) (by simp -implicitDefEqProofs (maxSteps := 2000000) only [go_sem, rels_frz] <;> and_intros <;> rfl) (by rfl)) ?_
    refine bwp_awp mixed (by kernel_rfl) ?_
    simp -implicitDefEqProofs (maxSteps := 2000000) only [go_sem]
    refine call_of (s2) ?_ ?_ ?_ ?_
    · simp -implicitDefEqProofs (maxSteps := 2000000) only [go_sem]
    · kernel_rfl
    · simp -implicitDefEqProofs (maxSteps := 2000000) only [go_sem]
    simp -implicitDefEqProofs (maxSteps := 2000000) only [go_sem]
    refine call_of (s3) (by simp -implicitDefEqProofs (maxSteps := 2000000) only [go_sem, d0, d1] <;> and_intros <;> rfl) (by kernel_rfl) (by simp -implicitDefEqProofs (maxSteps := 2000000) only [go_sem, d0, d1]) ?_
    simp -implicitDefEqProofs (maxSteps := 2000000) only [go_sem, d0, d1]
    refine call_of (s4) ?_ ?_ ?_ ?_
    · simp -implicitDefEqProofs (maxSteps := 2000000) only [go_sem]
    · kernel_rfl
    · simp -implicitDefEqProofs (maxSteps := 2000000) only [go_sem]
    simp -implicitDefEqProofs (maxSteps := 2000000) only [go_sem]
    first | (with_reducible refine tr_and ?_ ?_; focus kernel_rfl) | (with_reducible refine tr_only ?_; kernel_rfl) | skip
    and_intros <;> rfl
  · have d1 : (((beV c2 20 : Nat) : Int) == 1) = false := by rw [beq_eq_false_iff_ne]; omega
    refine ⟨byC c2, d, q, hd', hq.more (by decide), k3, ?_⟩
    clear hd hd'
    rw [← hr] at s2
    refine sat_of_bodyB Tryz.func18 rfl (by kernel_rfl) (rs := [.tmp 2, .cell 3 27, .cell 4 31]) rfl rfl rfl ?_
    refine bwp_seq mixed (by kernel_rfl) ?_
    simp -implicitDefEqProofs (maxSteps := 2000000) only [go_sem]
    refine bwp_seq mixed (by kernel_rfl) ?_
    simp -implicitDefEqProofs (maxSteps := 2000000) only [go_sem]
    refine call_of (l1New_sat b (by omega)) (by simp -implicitDefEqProofs (maxSteps := 2000000) only [go_sem]) (by kernel_rfl) (by simp -implicitDefEqProofs (maxSteps := 2000000) only [go_sem]) ?_
    simp -implicitDefEqProofs (maxSteps := 2000000) only [go_sem]
    refine bwp_seq mixed (by kernel_rfl) ?_
    simp -implicitDefEqProofs (maxSteps := 2000000) only [go_sem]
    refine call_of (s1) (by simp -implicitDefEqProofs (maxSteps := 2000000) only [go_sem]) (by kernel_rfl) (by simp -implicitDefEqProofs (maxSteps := 2000000) only [go_sem]) ?_
    simp -implicitDefEqProofs (maxSteps := 2000000) only [go_sem]
    refine bwp_le (st' := mkSt [(3, .one (.vad 1064 0)), (4, .one (.vad 1128 0)), (5, .one (.vad 1256 0)), (6, .one (.vad 1512 0))] [(1064, yDb), (1128, zQ2), (1256, sCur c1), (1512, sDb d)] [] 4000) (le_st' _ _ [] [1448, 1449] _ (by simp -implicitDefEqProofs (maxSteps := 2000000) only [go_sem, rels_frz] <;> and_intros <;> first | rfl | exact List.mem_singleton_self _ | decide | (refine ⟨_, rfl, Eq.symm ?_⟩; simp -implicitDefEqProofs (maxSteps := 2000000) only [go_sem, rels_frz]; done) | (refine ⟨_, rfl, Eq.symm ?_⟩; simp -implicitDefEqProofs (maxSteps := 2000000) only [go_sem, rels_frz]; rfl)) (by simp -implicitDefEqProofs (maxSteps := 2000000) only [go_sem, rels_frz] <;> and_intros <;> first | rfl | exact List.mem_singleton_self _ | decide | (refine ⟨_, rfl, Eq.symm ?_⟩; simp -implicitDefEqProofs (maxSteps := 2000000) only [go_sem, rels_frz]; done) | (refine ⟨_, rfl, Eq.symm ?_⟩; simp -implicitDefEqProofs (maxSteps := 2000000) only [go_sem, rels_frz]; rfl)) (by simp -implicitDefEqProofs (maxSteps := 2000000) only [go_sem, rels_frz] <;> and_intros <;> rfl) (by rfl)) ?_
    refine bwp_awp mixed (by kernel_rfl) ?_
    simp -implicitDefEqProofs (maxSteps := 2000000) only [go_sem]
    refine call_of (s2) ?_ ?_ ?_ ?_
    · simp -implicitDefEqProofs (maxSteps := 2000000) only [go_sem]
    · kernel_rfl
    · simp -implicitDefEqProofs (maxSteps := 2000000) only [go_sem]
    simp -implicitDefEqProofs (maxSteps := 2000000) only [go_sem]
    refine call_of (s3) (by simp -implicitDefEqProofs (maxSteps := 2000000) only [go_sem, d0, d1] <;> and_intros <;> rfl) (by kernel_rfl) (by simp -implicitDefEqProofs (maxSteps := 2000000) only [go_sem, d0, d1]) ?_
    simp -implicitDefEqProofs (maxSteps := 2000000) only [go_sem, d0, d1]
    first | (with_reducible refine tr_and ?_ ?_; focus kernel_rfl) | (with_reducible refine tr_only ?_; kernel_rfl) | skip
    and_intros <;> rfl
end Go.Proofs.YtedciihjgbkjgaaGreat.A


/- ALL MAXIMAL INDEPENDENT SETS: the plain law. Conditions: none. (No program in sight but the names.) -/
namespace Go.Proofs.YtedciihjgbkjgaaGreat.A
open Go
set_option linter.unusedSimpArgs false
set_option linter.unusedVariables false

end Go.Proofs.YtedciihjgbkjgaaGreat.A


/- ALL MAXIMAL INDEPENDENT SETS: the two programs. Conditions: none. -/
namespace Go.Proofs.YtedciihjgbkjgaaGreat.A
open Go
set_option linter.unusedSimpArgs false
set_option linter.unusedVariables false
set_option maxRecDepth 100000

theorem ints_nilf : (ints [] = frz []) = True := eq_true rfl
attribute [go_sem] ints_nilf
end Go.Proofs.YtedciihjgbkjgaaGreat.A


/- ALL MAXIMAL INDEPENDENT SETS: the program's search. Conditions: none. -/
namespace Go.Proofs.YtedciihjgbkjgaaGreat.A
open Go
set_option linter.unusedSimpArgs false
set_option linter.unusedVariables false
set_option maxRecDepth 100000

end Go.Proofs.YtedciihjgbkjgaaGreat.A


/- ALL MAXIMAL INDEPENDENT SETS: the program's function. Conditions: none. -/
namespace Go.Proofs.YtedciihjgbkjgaaGreat.A
open Go
set_option linter.unusedSimpArgs false
set_option linter.unusedVariables false
set_option maxRecDepth 100000

end Go.Proofs.YtedciihjgbkjgaaGreat.A


/- SETS DRAWN; what the laws compare by. Conditions: none. -/
namespace Go.Proofs.YtedciihjgbkjgaaGreat.A
open Go
set_option linter.unusedSimpArgs false
set_option linter.unusedVariables false
set_option maxRecDepth 100000

end Go.Proofs.YtedciihjgbkjgaaGreat.A


/- THE LIBRARY'S Repeat at one number. Conditions: none. -/
namespace Go.Proofs.YtedciihjgbkjgaaGreat.A
open Go
set_option linter.unusedSimpArgs false
set_option linter.unusedVariables false
set_option maxRecDepth 100000

abbrev lU64 (n : Int) : LV := .one (.sc (.int .u64 n))
theorem ints_allSc (a : List Int) : allSc (ints a) = true := by simp [allSc, ints_eq]
attribute [go_sem] ints_allSc
theorem mul64_sat {n : Nat} (hn : n ≤ 4) : Sat Tryz.prog 145 [lU64 1, lU64 n] [lU64 0, lU64 n] [g1, g1] := by
  obtain rfl | rfl | rfl | rfl | rfl : n = 0 ∨ n = 1 ∨ n = 2 ∨ n = 3 ∨ n = 4 := by omega
  all_goals
    refine sat_of_body mixed Tryz.func145 rfl (by kernel_rfl) (by kernel_rfl) (rs := [.tmp 4, .tmp 5]) rfl rfl rfl ?_
    simp -implicitDefEqProofs (maxSteps := 2000000) only [go_sem]
    exact ⟨by kernel_rfl, by kernel_rfl⟩
theorem mul_sat {n : Nat} (hn : n ≤ 4) : Sat Tryz.prog 135 [lU64 1, lU64 n] [lU64 0, lU64 n] [g1, g1] := by
  refine sat_of_body mixed Tryz.func135 rfl (by kernel_rfl) (by kernel_rfl) (rs := [.tmp 4, .tmp 5]) rfl rfl rfl ?_
  simp -implicitDefEqProofs (maxSteps := 2000000) only [go_sem]
  refine call_of (mul64_sat hn) (by simp -implicitDefEqProofs (maxSteps := 2000000) only [go_sem]) (by kernel_rfl) (by simp -implicitDefEqProofs (maxSteps := 2000000) only [go_sem]) ?_
  simp -implicitDefEqProofs (maxSteps := 2000000) only [go_sem]
theorem u64_of {n : Nat} (hn : n ≤ 4) : IntKind.u64.wrap (n : Int) = n := by
  obtain rfl | rfl | rfl | rfl | rfl : n = 0 ∨ n = 1 ∨ n = 2 ∨ n = 3 ∨ n = 4 := by omega
  all_goals rfl
theorem rep1 {α : Type} (a : α) : List.replicate 1 a = [a] := rfl
theorem rep_range {x : Int} {n k : Nat} (hk : k ≤ n) : setRange (List.replicate k x ++ List.replicate (n - k) 0) k ((List.take k (List.replicate k x ++ List.replicate (n - k) 0)).take (n - k)) = List.replicate (k + min k (n - k)) x ++ List.replicate (n - (k + min k (n - k))) 0 := by
  have h1 : List.take k (List.replicate k x ++ List.replicate (n - k) 0) = List.replicate k x := by
    rw [List.take_append_of_le_length (by simp), List.take_replicate, Nat.min_self]
  rw [h1, List.take_replicate, setRange, h1, List.length_replicate, Nat.min_comm (n - k) k, List.replicate_append_replicate]
  congr 1
  rw [List.drop_append, List.drop_replicate, List.drop_replicate, List.length_replicate]
  rw [show k - (k + min k (n - k)) = 0 by omega, List.replicate_zero, List.nil_append]
  congr 1; omega
theorem repeat_sat (x : Int) {n : Nat} (hn : n ≤ 4) : Sat Tryz.prog 118 [lInts [x], lInt n] [oInts (List.replicate n x)] [g1, g1] := by
  refine sat_of_body mixed Tryz.func118 rfl (by kernel_rfl) (by kernel_rfl) (rs := [.tmp 4]) rfl rfl rfl ?_
  have w0 : IntKind.u64.wrap ((1 : Nat) : Int) = 1 := rfl
  have w1 := u64_of hn
  have w2 : IntKind.i64.wrap (n : Int) = n := IntWalk.i64_in _ (by omega)
  have c0 : decide ((n : Int) < 0) = false := decide_eq_false (by omega)
  have c1 : decide ((n : Int) > 9223372036854775807) = false := decide_eq_false (by omega)
  simp -implicitDefEqProofs (maxSteps := 2000000) only [go_sem, c0, w0, w1]
  refine call_of (mul_sat hn) (by simp -implicitDefEqProofs (maxSteps := 2000000) only [go_sem, c1, w2]) (by kernel_rfl) (by simp -implicitDefEqProofs (maxSteps := 2000000) only [go_sem, c1, w2]) ?_
  simp -implicitDefEqProofs (maxSteps := 2000000) only [go_sem, c1, w2]
  refine ⟨by omega, by omega, ?_⟩
  refine awp_loop (Nat × List Int) (fun k => mkSt [(7, .one (.ref 960 1 0 n)), (8, .sc (.int .i64 k.1))] [] [(960, (1, ints k.2))] 2000)
    (fun k => (k.1 ≤ n ∧ (k.1 = 0 → n = 0)) ∧ k.2 = List.replicate k.1 x ++ List.replicate (n - k.1) 0) (fun k => n - k.1) (min 1 n, List.replicate (min 1 n) x ++ List.replicate (n - min 1 n) 0) ⟨⟨by show min 1 n ≤ n; omega, by show min 1 n = 0 → n = 0; omega⟩, rfl⟩ ?_ ?_
  · rcases n with _ | m
    · exact (le_st' _ _ [⟨960, some _, false, 1, _⟩] [] _ (by simp -implicitDefEqProofs (maxSteps := 2000000) only [go_sem, Nat.min_zero, List.replicate_zero] <;> and_intros <;> rfl) (by simp -implicitDefEqProofs (maxSteps := 2000000) only [go_sem, Nat.min_zero, List.replicate_zero] <;> and_intros <;> rfl) (by simp -implicitDefEqProofs (maxSteps := 2000000) only [go_sem, Nat.min_zero, List.replicate_zero] <;> and_intros <;> rfl) (by rfl))
    · rw [show min 1 (m + 1) = 1 by omega]
      exact (le_st' _ _ [⟨960, some _, false, 1, _⟩] [] _ (by simp -implicitDefEqProofs (maxSteps := 2000000) only [go_sem, rep1, List.length_replicate, List.drop_replicate, show min 1 (m + 1) = 1 by omega, ints_rep] <;> and_intros <;> rfl) (by simp -implicitDefEqProofs (maxSteps := 2000000) only [go_sem, rep1, List.length_replicate, List.drop_replicate, show min 1 (m + 1) = 1 by omega, ints_rep] <;> and_intros <;> rfl) (by simp -implicitDefEqProofs (maxSteps := 2000000) only [go_sem, rep1, List.length_replicate, List.drop_replicate, show min 1 (m + 1) = 1 by omega, ints_rep] <;> and_intros <;> rfl) (by rfl))
  · rintro ⟨k, L⟩ ⟨⟨h1, h2⟩, h3⟩
    simp only at h1 h2 h3
    have hl : L.length = n := by rw [h3]; simp; omega
    have hr := rep_range (x := x) h1
    rw [← h3, show List.take k L = List.replicate k x by rw [h3, List.take_append_of_le_length (by simp), List.take_replicate, Nat.min_self]] at hr
    by_cases c2 : k < n
    · have hL : L.take n = L := List.take_of_length_le (by omega)
      simp -implicitDefEqProofs (maxSteps := 2000000) only [go_sem, c2, hl, hL]
      have hk : List.take k L = List.replicate k x := by rw [h3, List.take_append_of_le_length (by simp), List.take_replicate, Nat.min_self]
      have w3 : IntKind.i64.wrap ((k : Int) + ((min k (n - k) : Nat) : Int)) = ((k + min k (n - k) : Nat) : Int) := by rw [IntWalk.i64_in _ (by omega)]; rfl
      refine ⟨h1, by omega, by omega, h1, by omega, tr_and (by kernel_rfl) ⟨(k + min k (n - k), setRange L k (List.take (n - k) (List.replicate k x))), ⟨⟨by simp only; omega, by simp only; omega⟩, hr⟩, by simp only; omega, ?_⟩⟩
      exact (le_st' _ _ [⟨960, some _, false, 1, _⟩] [] _ (by simp -implicitDefEqProofs (maxSteps := 2000000) only [go_sem, Nat.sub_zero, hk, List.length_replicate, w3, List.length_take, Nat.min_comm (n - k) k, hl] <;> and_intros <;> rfl) (by simp -implicitDefEqProofs (maxSteps := 2000000) only [go_sem, Nat.sub_zero, hk, List.length_replicate, w3, List.length_take, Nat.min_comm (n - k) k, hl] <;> and_intros <;> rfl) (by simp -implicitDefEqProofs (maxSteps := 2000000) only [go_sem, Nat.sub_zero, hk, List.length_replicate, w3, List.length_take, Nat.min_comm (n - k) k, hl] <;> and_intros <;> rfl) (by rfl))
    · obtain rfl : k = n := by omega
      have hL : L.take k = L := List.take_of_length_le (by omega)
      simp -implicitDefEqProofs (maxSteps := 2000000) only [go_sem, c2, hl, hL]
      rw [h3, Nat.sub_self, List.replicate_zero, List.append_nil]
      exact ⟨rfl, rfl⟩
theorem unknown_sat {n : Nat} (hn : n ≤ 4) : Sat Tryz.prog 96 [lInt n] [oInts (List.replicate n (-1))] [g1] := by
  refine sat_of_body mixed Tryz.func96 rfl (by kernel_rfl) (by kernel_rfl) (rs := [.tmp 2]) rfl rfl rfl ?_
  simp -implicitDefEqProofs (maxSteps := 2000000) only [go_sem]
  refine call_of (repeat_sat (-1) hn) (by simp -implicitDefEqProofs (maxSteps := 2000000) only [go_sem]) (callOk_still (by kernel_rfl) (by simp only [List.all_cons, List.all_nil, LV.still, LV.leaves, Leaf.still, ints_still, ris_still, eds_still, rels_still, iss_still, ems_still, Bool.and_self, Bool.and_true])) (by simp -implicitDefEqProofs (maxSteps := 2000000) only [go_sem]) ?_
  simp -implicitDefEqProofs (maxSteps := 2000000) only [go_sem]
  first | done | rfl | exact ⟨rfl, rfl⟩ | exact ⟨rfl, rfl, rfl⟩ | (refine tr_and ?_ ?_ <;> first | rfl | exact ⟨rfl, rfl⟩ | kernel_rfl)
theorem l12None_sat {n : Nat} (hn : n ≤ 4) : Sat Tryz.prog 31 [lInt n] [oInts (List.replicate n (-1))] [g1] := by
  refine sat_of_body mixed Tryz.func31 rfl (by kernel_rfl) (by kernel_rfl) (rs := [.tmp 2]) rfl rfl rfl ?_
  simp -implicitDefEqProofs (maxSteps := 2000000) only [go_sem]
  refine awp_loop Nat (fun k => mkSt [(0, .sc (.int .i64 n)), (3, .one (.ref 960 1 0 k))] [] [(960, (1, ints (List.replicate k (-1))))] 2000)
    (fun k => k ≤ n) (fun k => n - k) 0 (by omega) (le_st' _ _ [⟨960, some _, false, 1, _⟩] [] _ (by simp -implicitDefEqProofs (maxSteps := 2000000) only [go_sem, List.replicate_zero] <;> and_intros <;> rfl) (by simp -implicitDefEqProofs (maxSteps := 2000000) only [go_sem, List.replicate_zero] <;> and_intros <;> rfl) (by simp -implicitDefEqProofs (maxSteps := 2000000) only [go_sem, List.replicate_zero] <;> and_intros <;> rfl) (by rfl)) ?_
  rintro k h1
  by_cases c2 : k < n
  · simp -implicitDefEqProofs (maxSteps := 2000000) only [go_sem, c2, List.take_replicate, Nat.min_self, List.length_replicate]
    refine ⟨by omega, k + 1, c2, by omega, ?_⟩
    rw [show List.replicate (k + 1) (-1 : Int) = List.replicate k (-1) ++ [-1] from List.replicate_succ']
    exact (le_st' _ _ [⟨960, some _, false, 1, _⟩] [] _ (by simp -implicitDefEqProofs (maxSteps := 2000000) only [go_sem, List.length_replicate] <;> and_intros <;> rfl) (by simp -implicitDefEqProofs (maxSteps := 2000000) only [go_sem, List.length_replicate] <;> and_intros <;> rfl) (by simp -implicitDefEqProofs (maxSteps := 2000000) only [go_sem, List.length_replicate] <;> and_intros <;> rfl) (by rfl))
  · obtain rfl : k = n := by omega
    simp -implicitDefEqProofs (maxSteps := 2000000) only [go_sem, c2, List.take_replicate, Nat.min_self, List.length_replicate]
    first | done | rfl | exact ⟨rfl, rfl⟩ | exact ⟨rfl, rfl, rfl⟩ | (refine tr_and ?_ ?_ <;> first | rfl | exact ⟨rfl, rfl⟩ | kernel_rfl)
end Go.Proofs.YtedciihjgbkjgaaGreat.A


/- EMBEDDINGS: one fact against one atom, the two programs. Conditions: none. -/
namespace Go.Proofs.YtedciihjgbkjgaaGreat.A
open Go
set_option linter.unusedSimpArgs false
set_option linter.unusedVariables false
set_option maxRecDepth 100000

theorem isVariable_sat (t : Int) : Sat Tryz.prog 116 [lInt t] [lBool (decide (0 ≤ t))] [g1] := by
  refine sat_of_body mixed Tryz.func116 rfl (by kernel_rfl) (by kernel_rfl) (rs := [.tmp 2]) rfl rfl rfl ?_
  simp -implicitDefEqProofs (maxSteps := 2000000) only [go_sem]
  first | done | rfl | exact ⟨rfl, rfl⟩ | exact ⟨rfl, rfl, rfl⟩ | (refine tr_and ?_ ?_ <;> first | rfl | exact ⟨rfl, rfl⟩ | kernel_rfl)
theorem constantTerm_sat (t : Int) (h : -1000 ≤ t ∧ t ≤ 1000) : Sat Tryz.prog 117 [lInt t] [lInt (-1 - t)] [g1] := by
  refine sat_of_body mixed Tryz.func117 rfl (by kernel_rfl) (by kernel_rfl) (rs := [.tmp 2]) rfl rfl rfl ?_
  have w : IntKind.i64.wrap (-1 - t) = -1 - t := IntWalk.i64_in _ (by omega)
  simp -implicitDefEqProofs (maxSteps := 2000000) only [go_sem, w]
  first | done | rfl | exact ⟨rfl, rfl⟩ | exact ⟨rfl, rfl, rfl⟩ | (refine tr_and ?_ ?_ <;> first | rfl | exact ⟨rfl, rfl⟩ | kernel_rfl)
theorem set_same {x : List Int} {t : Nat} {f : Int} (h : x.getD t 0 = f) : x.set t f = x := by
  refine List.ext_getElem? fun k => ?_
  rw [List.getElem?_set]
  split
  · rename_i e
    subst e
    split
    · rename_i hk
      rw [← h, List.getD_eq_getElem?_getD, List.getElem?_eq_getElem hk]; rfl
    · rename_i hk
      rw [List.getElem?_eq_none (by omega)]
  · rfl
theorem unify_sat (vs ts fs : List Int) (h1 : vs.length ≤ 1048576) (h2 : ts.length ≤ fs.length) (h3 : fs.length ≤ 1048576) (ht : tsOk vs.length ts) :
    Sat Tryz.prog 95 [lInts vs, lInts ts, lInts fs] [oInts ((uniS ts fs vs ts.length).getD []), lBool (uniS ts fs vs ts.length).isSome] [g1, g1, g1] := by
  refine sat_of_body mixed Tryz.func95 rfl (by kernel_rfl) (by kernel_rfl) (rs := [.tmp 6, .tmp 7]) rfl rfl rfl ?_
  simp -implicitDefEqProofs (maxSteps := 2000000) only [go_sem]
  refine call_of (slicesClone_sat vs h1) (by simp -implicitDefEqProofs (maxSteps := 2000000) only [go_sem]) (callOk_still (by kernel_rfl) (by simp only [List.all_cons, List.all_nil, LV.still, LV.leaves, Leaf.still, ints_still, ris_still, eds_still, rels_still, iss_still, ems_still, Bool.and_self, Bool.and_true])) (by simp -implicitDefEqProofs (maxSteps := 2000000) only [go_sem]) ?_
  simp -implicitDefEqProofs (maxSteps := 2000000) only [go_sem]
  refine awp_loop (Nat × List Int) (fun x => mkSt [(2, .one (.im 1 (ints fs))), (8, .one (.ref 960 1 0 vs.length)), (13, .one (.im 1 (ints ts))), (14, .sc (.int .i64 ts.length)), (15, .sc (.int .i64 x.1))] [] [(960, (1, ints x.2))] 2000)
    (fun x => x.1 ≤ ts.length ∧ uniS ts fs vs x.1 = some x.2) (fun x => ts.length - x.1) (0, vs) ⟨by simp, rfl⟩ (le_st' _ _ [⟨960, some _, false, 1, _⟩] [] _ (by simp -implicitDefEqProofs (maxSteps := 2000000) only [go_sem] <;> and_intros <;> rfl) (by simp -implicitDefEqProofs (maxSteps := 2000000) only [go_sem] <;> and_intros <;> rfl) (by simp -implicitDefEqProofs (maxSteps := 2000000) only [go_sem] <;> and_intros <;> rfl) (by rfl)) ?_
  rintro ⟨k, x⟩ ⟨h4, h5⟩
  simp only at h4 h5
  have hx := uniS_len h5
  by_cases c1 : k < ts.length
  · have c2 : k < fs.length := by omega
    obtain ⟨b1, b2⟩ := ht k c1
    have hs := uniS_step h5
    have wk : IntKind.i64.wrap ((k : Int) + 1) = ((k + 1 : Nat) : Int) := i64_succ (by omega)
    by_cases d1 : ts.getD k 0 < 0
    · have e1 : decide (0 ≤ ts.getD k 0) = false := decide_eq_false (by omega)
      by_cases d2 : -1 - ts.getD k 0 = fs.getD k 0
      · have e2 : (-1 - ts.getD k 0 != fs.getD k 0) = false := by rw [bne, d2]; simp
        rw [stepU, if_pos d1, if_pos d2] at hs
        simp -implicitDefEqProofs (maxSteps := 2000000) only [go_sem, c1]
        refine call_of (isVariable_sat (ts.getD k 0)) (by simp -implicitDefEqProofs (maxSteps := 2000000) only [go_sem, e1]) (by kernel_rfl) (by simp -implicitDefEqProofs (maxSteps := 2000000) only [go_sem, e1]) ?_
        simp -implicitDefEqProofs (maxSteps := 2000000) only [go_sem, e1]
        refine call_of (constantTerm_sat (ts.getD k 0) (by omega)) (by simp -implicitDefEqProofs (maxSteps := 2000000) only [go_sem, c2, e2]) (by kernel_rfl) (by simp -implicitDefEqProofs (maxSteps := 2000000) only [go_sem, c2, e2]) ?_
        simp -implicitDefEqProofs (maxSteps := 2000000) only [go_sem, c2, e2]
        first | (with_reducible refine tr_and ?_ ?_; focus kernel_rfl) | (with_reducible refine tr_only ?_; kernel_rfl) | skip
        rw [wk]
        exact ⟨(k + 1, x), ⟨c1, hs⟩, by simp; omega, (le_st' _ _ [⟨960, some _, false, 1, _⟩] [] _ (by simp -implicitDefEqProofs (maxSteps := 2000000) only [go_sem, hx] <;> and_intros <;> rfl) (by simp -implicitDefEqProofs (maxSteps := 2000000) only [go_sem, hx] <;> and_intros <;> rfl) (by simp -implicitDefEqProofs (maxSteps := 2000000) only [go_sem, hx] <;> and_intros <;> rfl) (by rfl))⟩
      · have e2 : (-1 - ts.getD k 0 != fs.getD k 0) = true := by rw [bne, Bool.not_eq_true', beq_eq_false_iff_ne]; exact d2
        rw [stepU, if_pos d1, if_neg d2] at hs
        rw [uniS_stop hs c1]
        simp -implicitDefEqProofs (maxSteps := 2000000) only [go_sem, c1]
        refine call_of (isVariable_sat (ts.getD k 0)) (by simp -implicitDefEqProofs (maxSteps := 2000000) only [go_sem, e1]) (by kernel_rfl) (by simp -implicitDefEqProofs (maxSteps := 2000000) only [go_sem, e1]) ?_
        simp -implicitDefEqProofs (maxSteps := 2000000) only [go_sem, e1]
        refine call_of (constantTerm_sat (ts.getD k 0) (by omega)) (by simp -implicitDefEqProofs (maxSteps := 2000000) only [go_sem, c2, e2]) (by kernel_rfl) (by simp -implicitDefEqProofs (maxSteps := 2000000) only [go_sem, c2, e2]) ?_
        simp -implicitDefEqProofs (maxSteps := 2000000) only [go_sem, c2, e2]
        first | (with_reducible refine tr_and ?_ ?_; focus kernel_rfl) | (with_reducible refine tr_only ?_; kernel_rfl) | skip
        first | done | rfl | exact ⟨rfl, rfl⟩ | exact ⟨rfl, rfl, rfl⟩ | (refine tr_and ?_ ?_ <;> first | rfl | exact ⟨rfl, rfl⟩ | kernel_rfl)
    · have e1 : decide (0 ≤ ts.getD k 0) = true := decide_eq_true (by omega)
      obtain ⟨t, et⟩ : ∃ t : Nat, ts.getD k 0 = t := ⟨(ts.getD k 0).toNat, by omega⟩
      have c3 : t < vs.length := by omega
      rw [et] at hs d1 b2 b1
      rw [stepU, if_neg d1, Int.toNat_natCast] at hs
      rw [et] at e1
      have c4 : t < x.length := by omega
      by_cases d3 : x.getD t 0 < 0
      · rw [if_pos d3] at hs
        have e3 : decide (x.getD t 0 < 0) = true := decide_eq_true d3
        simp -implicitDefEqProofs (maxSteps := 2000000) only [go_sem, c1, et]
        refine call_of (isVariable_sat t) (by simp -implicitDefEqProofs (maxSteps := 2000000) only [go_sem, e1, c2, c3, c4, e3, hx]) (by kernel_rfl) (by simp -implicitDefEqProofs (maxSteps := 2000000) only [go_sem, e1, c2, c3, c4, e3, hx]) ?_
        simp -implicitDefEqProofs (maxSteps := 2000000) only [go_sem, e1, c2, c3, c4, e3, hx]
        rw [wk]
        exact ⟨(k + 1, x.set t (fs.getD k 0)), ⟨c1, hs⟩, by simp; omega, (le_st' _ _ [⟨960, some _, false, 1, _⟩] [] _ (by simp -implicitDefEqProofs (maxSteps := 2000000) only [go_sem, hx] <;> and_intros <;> rfl) (by simp -implicitDefEqProofs (maxSteps := 2000000) only [go_sem, hx] <;> and_intros <;> rfl) (by simp -implicitDefEqProofs (maxSteps := 2000000) only [go_sem, hx] <;> and_intros <;> rfl) (by rfl))⟩
      · rw [if_neg d3] at hs
        have e3 : decide (x.getD t 0 < 0) = false := decide_eq_false d3
        by_cases d4 : x.getD t 0 = fs.getD k 0
        · rw [if_pos d4] at hs
          have e4 : (x.getD t 0 != fs.getD k 0) = false := by rw [bne, d4]; simp
          simp -implicitDefEqProofs (maxSteps := 2000000) only [go_sem, c1, et]
          refine call_of (isVariable_sat t) (by simp -implicitDefEqProofs (maxSteps := 2000000) only [go_sem, e1, c2, c3, c4, e3, e4, hx]) (by kernel_rfl) (by simp -implicitDefEqProofs (maxSteps := 2000000) only [go_sem, e1, c2, c3, c4, e3, e4, hx]) ?_
          simp -implicitDefEqProofs (maxSteps := 2000000) only [go_sem, e1, c2, c3, c4, e3, e4, hx]
          first | (with_reducible refine tr_and ?_ ?_; focus kernel_rfl) | (with_reducible refine tr_only ?_; kernel_rfl) | skip
          rw [wk]
          exact ⟨(k + 1, x), ⟨c1, hs⟩, by simp; omega, (le_st' _ _ [⟨960, some _, false, 1, _⟩] [] _ (by simp -implicitDefEqProofs (maxSteps := 2000000) only [go_sem, hx] <;> and_intros <;> rfl) (by simp -implicitDefEqProofs (maxSteps := 2000000) only [go_sem, hx] <;> and_intros <;> rfl) (by simp -implicitDefEqProofs (maxSteps := 2000000) only [go_sem, hx] <;> and_intros <;> rfl) (by rfl))⟩
        · rw [if_neg d4] at hs
          have e4 : (x.getD t 0 != fs.getD k 0) = true := by rw [bne, Bool.not_eq_true', beq_eq_false_iff_ne]; exact d4
          rw [uniS_stop hs c1]
          simp -implicitDefEqProofs (maxSteps := 2000000) only [go_sem, c1, et]
          refine call_of (isVariable_sat t) (by simp -implicitDefEqProofs (maxSteps := 2000000) only [go_sem, e1, c2, c3, c4, e3, e4, hx]) (by kernel_rfl) (by simp -implicitDefEqProofs (maxSteps := 2000000) only [go_sem, e1, c2, c3, c4, e3, e4, hx]) ?_
          simp -implicitDefEqProofs (maxSteps := 2000000) only [go_sem, e1, c2, c3, c4, e3, e4, hx]
          first | (with_reducible refine tr_and ?_ ?_; focus kernel_rfl) | (with_reducible refine tr_only ?_; kernel_rfl) | skip
          first | done | rfl | exact ⟨rfl, rfl⟩ | exact ⟨rfl, rfl, rfl⟩ | (refine tr_and ?_ ?_ <;> first | rfl | exact ⟨rfl, rfl⟩ | kernel_rfl)
  · obtain rfl : k = ts.length := by omega
    rw [h5]
    simp -implicitDefEqProofs (maxSteps := 2000000) only [go_sem, c1]
    exact ⟨hx.symm, by kernel_rfl⟩
theorem l12Meet_sat (a f : RI) (vs : List Int) (h1 : vs.length ≤ 1048576) (h2 : f.l.length ≤ 1048576) (hl : f.r = a.r → f.l.length = a.l.length) (ht : tsOk vs.length a.l) :
    Sat Tryz.prog 56 [lRI a, lRI f, lInts vs] [oInts (meetV a f vs), lBool (meet a f vs).isSome] [g2, g2, g1] := by
  refine sat_of_body mixed Tryz.func56 rfl (by kernel_rfl) (by kernel_rfl) (rs := [.tmp 6, .tmp 7]) rfl rfl rfl ?_
  rcases a with ⟨ar, ts⟩
  rcases f with ⟨fr, fs⟩
  simp only at h2 hl ht
  unfold meetV meet
  simp only
  simp -implicitDefEqProofs (maxSteps := 2000000) only [go_sem]
  refine ⟨by omega, ?_⟩
  by_cases d0 : fr = ar
  case neg =>
    rw [if_neg d0, if_neg d0]
    have e0 : (fr != ar) = true := by rw [bne, Bool.not_eq_true', beq_eq_false_iff_ne]; exact d0
    simp -implicitDefEqProofs (maxSteps := 2000000) only [go_sem, e0]
    first | done | rfl | exact ⟨rfl, rfl⟩ | exact ⟨rfl, rfl, rfl⟩ | (refine tr_and ?_ ?_ <;> first | rfl | exact ⟨rfl, rfl⟩ | kernel_rfl)
  subst d0
  have hl := hl rfl
  rw [if_pos rfl, if_pos rfl]
  have e0 : (fr != fr) = false := by rw [bne]; simp
  have e1 : ((fs.length : Int) != (ts.length : Int)) = false := by rw [bne, hl]; simp
  simp -implicitDefEqProofs (maxSteps := 2000000) only [go_sem, e0, e1]
  refine awp_loop (Nat × List Int) (fun x => mkSt [(3, .one (.vad 1000 0)), (4, .one (.vad 1064 0)), (8, .one (.ref 960 1 0 vs.length)), (9, .sc (.int .i64 x.1))] [(1000, sRI ⟨fr, ts⟩), (1064, sRI ⟨fr, fs⟩)] [(960, (1, ints x.2))] 4000)
    (fun x => x.1 ≤ ts.length ∧ uniS ts fs vs x.1 = some x.2) (fun x => ts.length - x.1) (0, vs) ⟨by simp, rfl⟩ (le_st' _ _ [⟨960, some _, false, 1, _⟩] [] _ (by simp -implicitDefEqProofs (maxSteps := 2000000) only [go_sem] <;> and_intros <;> rfl) (by simp -implicitDefEqProofs (maxSteps := 2000000) only [go_sem] <;> and_intros <;> rfl) (by simp -implicitDefEqProofs (maxSteps := 2000000) only [go_sem] <;> and_intros <;> rfl) (by rfl)) ?_
  rintro ⟨k, x⟩ ⟨h4, h5⟩
  simp only at h4 h5
  have hx := uniS_len h5
  have hL : List.take vs.length x = x := List.take_of_length_le (by omega)
  by_cases c1 : k < ts.length
  · have c2 : k < fs.length := by omega
    obtain ⟨b1, b2⟩ := ht k c1
    have hs := uniS_step h5
    have wk : IntKind.i64.wrap ((k : Int) + 1) = ((k + 1 : Nat) : Int) := i64_succ (by omega)
    by_cases d1 : ts.getD k 0 < 0
    · have e1 : decide (ts.getD k 0 < 0) = true := decide_eq_true d1
      have w1 : IntKind.i64.wrap (-1 - ts.getD k 0) = -1 - ts.getD k 0 := IntWalk.i64_in _ (by omega)
      by_cases d2 : -1 - ts.getD k 0 = fs.getD k 0
      · have e2 : (-1 - ts.getD k 0 != fs.getD k 0) = false := by rw [bne, d2]; simp
        rw [stepU, if_pos d1, if_pos d2] at hs
        simp -implicitDefEqProofs (maxSteps := 2000000) only [go_sem, c1, c2, e1, e2, w1]
        rw [wk]
        exact ⟨(k + 1, x), ⟨c1, hs⟩, by simp; omega, (le_st' _ _ [⟨960, some _, false, 1, _⟩] [] _ (by simp -implicitDefEqProofs (maxSteps := 2000000) only [go_sem, hx] <;> and_intros <;> rfl) (by simp -implicitDefEqProofs (maxSteps := 2000000) only [go_sem, hx] <;> and_intros <;> rfl) (by simp -implicitDefEqProofs (maxSteps := 2000000) only [go_sem, hx] <;> and_intros <;> rfl) (by rfl))⟩
      · have e2 : (-1 - ts.getD k 0 != fs.getD k 0) = true := by rw [bne, Bool.not_eq_true', beq_eq_false_iff_ne]; exact d2
        rw [stepU, if_pos d1, if_neg d2] at hs
        rw [uniS_stop hs c1, uniL_stop h5 hs c1]
        simp -implicitDefEqProofs (maxSteps := 2000000) only [go_sem, c1, c2, e1, e2, w1]
        exact ⟨⟨hx.symm, rfl⟩, by kernel_rfl⟩
    · have e1 : decide (ts.getD k 0 < 0) = false := decide_eq_false d1
      obtain ⟨t, et⟩ : ∃ t : Nat, ts.getD k 0 = t := ⟨(ts.getD k 0).toNat, by omega⟩
      have c3 : t < vs.length := by omega
      have c4 : t < x.length := by omega
      rw [et] at hs d1 b2 b1 e1
      rw [stepU, if_neg d1, Int.toNat_natCast] at hs
      by_cases d3 : x.getD t 0 < 0
      · rw [if_pos d3] at hs
        have e3 : decide (x.getD t 0 ≥ 0) = false := decide_eq_false (by omega)
        simp -implicitDefEqProofs (maxSteps := 2000000) only [go_sem, c1, et, e1, c2, c3, c4, e3, hx]
        first | (with_reducible refine tr_and ?_ ?_; focus kernel_rfl) | (with_reducible refine tr_only ?_; kernel_rfl) | skip
        rw [wk]
        exact ⟨(k + 1, x.set t (fs.getD k 0)), ⟨c1, hs⟩, by simp; omega, (le_st' _ _ [⟨960, some _, false, 1, _⟩] [] _ (by simp -implicitDefEqProofs (maxSteps := 2000000) only [go_sem, hx] <;> and_intros <;> rfl) (by simp -implicitDefEqProofs (maxSteps := 2000000) only [go_sem, hx] <;> and_intros <;> rfl) (by simp -implicitDefEqProofs (maxSteps := 2000000) only [go_sem, hx] <;> and_intros <;> rfl) (by rfl))⟩
      · rw [if_neg d3] at hs
        have e3 : decide (x.getD t 0 ≥ 0) = true := decide_eq_true (by omega)
        by_cases d4 : x.getD t 0 = fs.getD k 0
        · rw [if_pos d4] at hs
          have e4 : (x.getD t 0 != fs.getD k 0) = false := by rw [bne, d4]; simp
          simp -implicitDefEqProofs (maxSteps := 2000000) only [go_sem, c1, et, e1, c2, c3, c4, e3, e4, hx]
          first | (with_reducible refine tr_and ?_ ?_; focus kernel_rfl) | (with_reducible refine tr_only ?_; kernel_rfl) | skip
          simp -implicitDefEqProofs (maxSteps := 2000000) only [go_sem, c1, et, e1, c2, c3, c4, e3, e4, hx, set_same d4]
          rw [wk]
          exact ⟨(k + 1, x), ⟨c1, hs⟩, by simp; omega, (le_st' _ _ [⟨960, some _, false, 1, _⟩] [] _ (by simp -implicitDefEqProofs (maxSteps := 2000000) only [go_sem, hx, set_same d4] <;> and_intros <;> rfl) (by simp -implicitDefEqProofs (maxSteps := 2000000) only [go_sem, hx, set_same d4] <;> and_intros <;> rfl) (by simp -implicitDefEqProofs (maxSteps := 2000000) only [go_sem, hx, set_same d4] <;> and_intros <;> rfl) (by rfl))⟩
        · rw [if_neg d4] at hs
          have e4 : (x.getD t 0 != fs.getD k 0) = true := by rw [bne, Bool.not_eq_true', beq_eq_false_iff_ne]; exact d4
          rw [uniS_stop hs c1, uniL_stop h5 hs c1]
          simp -implicitDefEqProofs (maxSteps := 2000000) only [go_sem, c1, et, e1, c2, c3, c4, e3, e4, hx]
          first | (with_reducible refine tr_and ?_ ?_; focus kernel_rfl) | (with_reducible refine tr_only ?_; kernel_rfl) | skip
          first | exact ⟨hx.symm, by kernel_rfl⟩ | exact ⟨⟨hx.symm, rfl⟩, by kernel_rfl⟩ | exact ⟨hx.symm, rfl⟩ | rfl | exact ⟨rfl, by kernel_rfl⟩
  · obtain rfl : k = ts.length := by omega
    rw [h5, uniL_some h5]
    simp -implicitDefEqProofs (maxSteps := 2000000) only [go_sem, c1]
    exact ⟨hx.symm, by kernel_rfl⟩
end Go.Proofs.YtedciihjgbkjgaaGreat.A


/- EMBEDDINGS: the reference's search. Conditions: none. -/
namespace Go.Proofs.YtedciihjgbkjgaaGreat.A
open Go
set_option linter.unusedSimpArgs false
set_option linter.unusedVariables false
set_option maxRecDepth 100000

/-- What the search leans on: the facts' and atoms' lengths. -/
structure FitE (d : Db) (q : Qu) (n : Nat) : Prop where
  facts : d.facts.length ≤ 14
  atoms : q.atoms.length ≤ 3
  small : n ≤ 4
  vals : ∀ i, i < d.facts.length → (d.facts.getD i default).l.length ≤ 1048576
  lens : ∀ k i, k < q.atoms.length → i < d.facts.length → (d.facts.getD i default).r = (q.atoms.getD k default).r → (d.facts.getD i default).l.length = (q.atoms.getD k default).l.length
  terms : ∀ k, k < q.atoms.length → tsOk n (q.atoms.getD k default).l
theorem goodFact_len {l : List Rel} {f : RI} (h : goodFact l f = true) (hl : goodRels l = true) : f.l.length ≤ 3 := by
  unfold goodFact at h
  simp only [Bool.and_eq_true, beq_iff_eq] at h
  obtain ⟨h1, h2, _⟩ := h
  have h1 := inB_of h1
  have : f.r.toNat < l.length := by omega
  unfold goodRels at hl
  rw [Bool.and_eq_true] at hl
  have h3 := upTo_at hl.1 this
  unfold relOk goodRel at h3
  simp only [Bool.and_eq_true] at h3
  have h4 := inB_of h3.1.2.2.2.1
  omega
theorem fitE {d : Db} {q : Qu} (h : queryFor d q = true) : FitE d q q.vc.toNat := by
  have h1 := goodDb_len (queryFor_db h)
  have h2 := goodQu_parts (queryFor_qu h)
  have hr : goodRels d.rels = true := by
    have := queryFor_db h
    unfold goodDb at this
    rw [Bool.and_eq_true] at this
    exact this.1
  refine ⟨h1, h2.2.2, by omega, fun i hi => ?_, fun k i hk hi e => meet_lens h hk hi e, fun k hk => tsOk_at (queryFor_qu h) hk⟩
  have := goodFact_len (goodDb_fact (queryFor_db h) hi) hr
  omega
theorem l12Walk_sat (d : Db) (q : Qu) {n : Nat} (F : FitE d q n) : ∀ (m : Nat) (vs fs : List Int), m ≤ q.atoms.length → vs.length = n → fs.length + m ≤ 3 →
    Sat Tryz.prog 30 [lDb d, lQu q, lInt ((q.atoms.length - m : Nat) : Int), lInts vs, lInts fs] [oEms (walkE d.facts q.atoms m vs fs)] [g2, g3, g1, g1, g1]
  | 0, vs, fs, h1, h2, h3 => by
    have := F.small
    refine sat_of_body mixed Tryz.func30 rfl (by kernel_rfl) (by kernel_rfl) (rs := [.tmp 10]) rfl rfl rfl ?_
    unfold walkE
    rw [Nat.sub_zero]
    simp -implicitDefEqProofs (maxSteps := 2000000) only [go_sem]
    repeat (refine ⟨by omega, ?_⟩)
    first | done | rfl | exact ⟨rfl, rfl⟩ | exact ⟨rfl, rfl, rfl⟩ | (refine tr_and ?_ ?_ <;> first | rfl | exact ⟨rfl, rfl⟩ | kernel_rfl)
  | m + 1, vs, fs, h1, h2, h3 => by
    have f1 := F.facts
    have f2 := F.atoms
    have f3 := F.small
    refine sat_of_body mixed Tryz.func30 rfl (by kernel_rfl) (by kernel_rfl) (rs := [.tmp 10]) rfl rfl rfl ?_
    rw [walkE_succ]
    obtain ⟨j, hj⟩ : ∃ j, j = q.atoms.length - (m + 1) := ⟨_, rfl⟩
    have hj2 : q.atoms.length - m = j + 1 := by omega
    rw [← hj]
    have c0 : j < q.atoms.length := by omega
    have ne : ((j : Int) == (q.atoms.length : Int)) = false := by rw [beq_eq_false_iff_ne]; omega
    have wj : IntKind.i64.wrap ((j : Int) + 1) = ((j + 1 : Nat) : Int) := i64_succ (by omega)
    simp -implicitDefEqProofs (maxSteps := 2000000) only [go_sem, ne]
    refine awp_loop Nat (fun k => mkSt [(2, .sc (.int .i64 j)), (3, .one (.im 1 (ints vs))), (4, .one (.im 1 (ints fs))), (5, .one (.vad 1000 0)), (6, .one (.vad 1064 0)), (11, .one (.ref 960 2 0 (found (oneE d.facts q.atoms m vs fs) k).length)), (12, .sc (.int .i64 k))] [(1000, sDb d), (1064, sQu q)] [(960, (2, ems 999 (found (oneE d.facts q.atoms m vs fs) k)))] 4000)
      (fun k => k ≤ d.facts.length) (fun k => d.facts.length - k) 0 (by omega) (le_st' _ _ [⟨960, some _, false, 2, _⟩] [] _ (by simp -implicitDefEqProofs (maxSteps := 2000000) only [go_sem, found_zero] <;> and_intros <;> rfl) (by simp -implicitDefEqProofs (maxSteps := 2000000) only [go_sem, found_zero] <;> and_intros <;> rfl) (by simp -implicitDefEqProofs (maxSteps := 2000000) only [go_sem, found_zero] <;> and_intros <;> rfl) (by rfl)) ?_
    rintro k h4
    have hlen : (found (oneE d.facts q.atoms m vs fs) k).length ≤ 14 * 14 ^ m := by
      refine Nat.le_trans (found_len (b := 14 ^ m) (fun i => ?_) k) (Nat.mul_le_mul_right _ (by omega))
      unfold oneE
      split
      · exact walkE_len f1 m _ _
      · simp
    have hp := pow14E (m := m) (by omega)
    by_cases c1 : k < d.facts.length
    · have wk : IntKind.i64.wrap ((k : Int) + 1) = ((k + 1 : Nat) : Int) := i64_succ (by omega)
      have hat : atomAt q.atoms m = q.atoms.getD j default := by rw [atomAt, ← hj]
      rcases hm : meet (atomAt q.atoms m) (d.facts.getD k default) vs with _ | x
      · have ho := oneE_none (fs := fs) hm
        rw [hat] at hm
        simp -implicitDefEqProofs (maxSteps := 2000000) only [go_sem, c0, c1]
        refine call_of (l12Meet_sat (q.atoms.getD j default) (d.facts.getD k default) vs (by omega) (F.vals k c1) (F.lens j k c0 c1) (by rw [h2]; exact F.terms j c0)) (by simp -implicitDefEqProofs (maxSteps := 2000000) only [go_sem, hm, Option.isSome_none]) (callOk_still (by kernel_rfl) (by simp only [List.all_cons, List.all_nil, LV.still, LV.leaves, Leaf.still, ints_still, ris_still, eds_still, rels_still, iss_still, ems_still, Bool.and_self, Bool.and_true])) (by simp -implicitDefEqProofs (maxSteps := 2000000) only [go_sem, hm, Option.isSome_none]) ?_
        simp -implicitDefEqProofs (maxSteps := 2000000) only [go_sem, hm, Option.isSome_none]
        first | (with_reducible refine tr_and ?_ ?_; focus kernel_rfl) | (with_reducible refine tr_only ?_; kernel_rfl) | skip
        rw [wk]
        refine ⟨k + 1, c1, by omega, ?_⟩
        rw [found_succ, ho, List.append_nil]
        exact (le_st' _ _ [⟨960, some _, false, 2, _⟩] [] _ (by simp -implicitDefEqProofs (maxSteps := 2000000) only [go_sem] <;> and_intros <;> rfl) (by simp -implicitDefEqProofs (maxSteps := 2000000) only [go_sem] <;> and_intros <;> rfl) (by simp -implicitDefEqProofs (maxSteps := 2000000) only [go_sem] <;> and_intros <;> rfl) (by rfl))
      · have ho := oneE_some (fs := fs) hm
        have hv := meetV_eq hm
        have hxl := meet_len hm
        rw [hat] at hm hv
        have hl2 := walkE_len f1 (ats := q.atoms) m x (fs ++ [(k : Int)])
        have ih := l12Walk_sat d q F m x (fs ++ [(k : Int)]) (by omega) (by omega) (by simp; omega)
        rw [hj2] at ih
        simp -implicitDefEqProofs (maxSteps := 2000000) only [go_sem, c0, c1]
        refine call_of (l12Meet_sat (q.atoms.getD j default) (d.facts.getD k default) vs (by omega) (F.vals k c1) (F.lens j k c0 c1) (by rw [h2]; exact F.terms j c0)) (by simp -implicitDefEqProofs (maxSteps := 2000000) only [go_sem, hm, hv, Option.isSome_some, wj]) (callOk_still (by kernel_rfl) (by simp only [List.all_cons, List.all_nil, LV.still, LV.leaves, Leaf.still, ints_still, ris_still, eds_still, rels_still, iss_still, ems_still, Bool.and_self, Bool.and_true])) (by simp -implicitDefEqProofs (maxSteps := 2000000) only [go_sem, hm, hv, Option.isSome_some, wj]) ?_
        simp -implicitDefEqProofs (maxSteps := 2000000) only [go_sem, hm, hv, Option.isSome_some, wj]
        first | (with_reducible refine tr_and ?_ ?_; focus kernel_rfl) | (with_reducible refine tr_only ?_; kernel_rfl) | skip
        repeat (refine ⟨by omega, ?_⟩)
        refine call_of (ih) (by simp -implicitDefEqProofs (maxSteps := 2000000) only [go_sem]) (callOk_still (by kernel_rfl) (by simp only [List.all_cons, List.all_nil, LV.still, LV.leaves, Leaf.still, ints_still, ris_still, eds_still, rels_still, iss_still, ems_still, Bool.and_self, Bool.and_true])) (by simp -implicitDefEqProofs (maxSteps := 2000000) only [go_sem]) ?_
        simp -implicitDefEqProofs (maxSteps := 2000000) only [go_sem]
        split
        · refine ⟨by omega, tr_and (by kernel_rfl) ?_⟩
          rw [wk]
          refine ⟨k + 1, c1, by omega, ?_⟩
          rw [found_succ, ho]
          exact (le_st' _ _ [⟨960, some _, false, 2, _⟩] [] _ (by simp -implicitDefEqProofs (maxSteps := 2000000) only [go_sem] <;> and_intros <;> rfl) (by simp -implicitDefEqProofs (maxSteps := 2000000) only [go_sem] <;> and_intros <;> rfl) (by simp -implicitDefEqProofs (maxSteps := 2000000) only [go_sem] <;> and_intros <;> rfl) (by rfl))
        · refine ⟨by omega, tr_and (by kernel_rfl) ?_⟩
          rw [wk]
          refine ⟨k + 1, c1, by omega, ?_⟩
          rw [found_succ, ho]
          exact (le_st' _ _ [⟨960, some _, false, 2, _⟩] [] _ (by simp -implicitDefEqProofs (maxSteps := 2000000) only [go_sem] <;> and_intros <;> rfl) (by simp -implicitDefEqProofs (maxSteps := 2000000) only [go_sem] <;> and_intros <;> rfl) (by simp -implicitDefEqProofs (maxSteps := 2000000) only [go_sem] <;> and_intros <;> rfl) (by rfl))
    · obtain rfl : k = d.facts.length := by omega
      simp -implicitDefEqProofs (maxSteps := 2000000) only [go_sem, c1]
      kernel_rfl
end Go.Proofs.YtedciihjgbkjgaaGreat.A
