/- Packed by pack.py: D F1 D2 F3 LK FM FMQ FD FV FDraw FMR FE FSort FG FIns FG2 FDraw3 FW FC1 FDraw5 FDraw6 FU F7 FK FQ -/
import Derived.Test.YtedciihjgbkjgaaAT
import Derived.WideShapes
import Derived.Laws.Strings
import Derived.Test.YtedciihjgbkjgaaA40
import Derived.Test.YtedciihjgbkjgaaA41
import Derived.Test.YtedciihjgbkjgaaA43
import Derived.Lib.SlicesCompact

/- DATA OF THE PROGRAM, as lists, and how they lie in slices. Conditions: none. -/
namespace Go.Proofs.Ytedciihjgbkjgaa.A
open Go
set_option linter.unusedSimpArgs false
set_option linter.unusedVariables false

theorem mixed : Try.prog.follows .mixedOrders = true := by kernel_rfl

/-! #### numbers -/
def iv (a : List Int) : List Value := a.map (.int .i64)
def ints (a : List Int) : Rows := lift (iv a)
theorem iv_length (a : List Int) : (iv a).length = a.length := by simp [iv]
theorem ints_length (a : List Int) : (ints a).length = a.length := by simp [ints, lift, iv]
theorem ints_eq (a : List Int) : ints a = a.map fun n => [Cell.sc (.int .i64 n)] := by simp [ints, lift, iv]
theorem ints_get {a : List Int} {i : Nat} (h : i < a.length) : (ints a).getD i [] = [Cell.sc (.int .i64 (a.getD i 0))] := by
  simp [ints_eq, List.getD_eq_getElem?_getD, h]
theorem ints_frz (a : List Int) : frz (ints a) = ints a := frz_lift _
theorem ints_rst (a : List Int) : rst (ints a) = ints a := rst_lift _
theorem ints_stm (n : Nat) (a : List Int) : stm n (ints a) = ints a := stm_lift n _
theorem ints_flat (a : List Int) : flatB (ints a) = true := lift_flatB _
theorem ints_unlift (a : List Int) : lift (unlift (ints a)) = ints a := by unfold ints; rw [unlift_lift]
theorem ints_take (a : List Int) (k : Nat) : (ints a).take k = ints (a.take k) := by simp [ints_eq]
theorem ints_drop (a : List Int) (k : Nat) : (ints a).drop k = ints (a.drop k) := by simp [ints_eq]
theorem ints_append (a b : List Int) : ints a ++ ints b = ints (a ++ b) := by simp [ints_eq]
theorem ints_one (n : Int) : [[Cell.sc (.int .i64 n)]] = ints [n] := by simp [ints_eq]
theorem ints_nil : ints [] = [] := rfl
theorem ints_set (a : List Int) (i : Nat) (n : Int) : (ints a).set i [Cell.sc (.int .i64 n)] = ints (a.set i n) := by simp [ints_eq, List.map_set]
theorem ints_rep (n : Nat) (m : Int) : List.replicate n [Cell.sc (.int .i64 m)] = ints (List.replicate n m) := by simp [ints_eq]
theorem lift_iv (a : List Int) : lift (iv a) = ints a := rfl
theorem iv_get {a : List Int} {i : Nat} (h : i < a.length) : (iv a).getD i default = .int .i64 (a.getD i 0) := by
  simp [iv, List.getD_eq_getElem?_getD, h]
theorem iv_take (a : List Int) (k : Nat) : (iv a).take k = iv (a.take k) := by simp [iv]
theorem iv_drop (a : List Int) (k : Nat) : (iv a).drop k = iv (a.drop k) := by simp [iv]
theorem iv_set (a : List Int) (i : Nat) (n : Int) : (iv a).set i (.int .i64 n) = iv (a.set i n) := by simp [iv, List.map_set]
theorem iv_unlift (a : List Int) : unlift (ints a) = iv a := unlift_lift _
theorem cellR_ints {s id len w' : Nat} {a : List Int} {K : Cell → List (Nat × Option Obj') → Prop} : cellR s id 1 0 len (some (w', ints a)) K = (len = a.length ∧ K (.sl s (iv a)) [(id, none)]) := by
  unfold ints; rw [cellR_lift, iv_length]
theorem cell_im_ints {st : St} {s w : Nat} {a : List Int} {K : Cell → List (Nat × Option Obj') → Prop} : cellK st s (.im w (ints a)) K = (w = 1 ∧ K (.sl 0 (iv a)) []) := cell_im
theorem ints_still (a : List Int) : stillRows (ints a) = true := by simp [stillRows, ints_eq, Cell.still]
attribute [go_sem] iv_length ints_length ints_get ints_frz ints_rst ints_stm ints_flat ints_unlift ints_take ints_drop ints_append ints_one ints_set ints_rep lift_iv iv_get iv_take iv_drop iv_set iv_unlift cellR_ints cell_im_ints List.take_length List.drop_length
theorem ofNat_lt_0 {k : Nat} : (0 < k) = ((0 : Nat) < k) := rfl
theorem i64_succ {k : Nat} (h : k < 9223372036854775807) : IntKind.i64.wrap ((k : Int) + 1) = ((k + 1 : Nat) : Int) := by
  rw [IntWalk.i64_in _ (by omega)]; rfl
theorem drop_cons {α : Type} {a : List α} {k : Nat} (d : α) (h : k < a.length) : a.drop k = a.getD k d :: a.drop (k + 1) := by
  rw [List.drop_eq_getElem_cons h]; simp [List.getD_eq_getElem?_getD, h]
theorem take_snoc {α : Type} {a : List α} {k : Nat} (d : α) (h : k < a.length) : a.take (k + 1) = a.take k ++ [a.getD k d] := by
  rw [List.take_succ_eq_append_getElem h]; simp [List.getD_eq_getElem?_getD, h]
theorem take_set_snoc {α : Type} {a b : List α} {k : Nat} (d : α) (hl : b.length = a.length) (h : b.take k = a.take k) (hk : k < a.length) : (b.set k (a.getD k d)).take (k + 1) = a.take (k + 1) := by
  rw [take_snoc d (by simpa [hl] using hk), take_snoc d hk, List.take_set_of_le (by omega), h]
  simp [List.getD_eq_getElem?_getD, hl, hk]
theorem of_take {α : Type} {a b : List α} {k : Nat} (hl : b.length = a.length) (h : b.take k = a.take k) (hk : a.length ≤ k) : b = a := by
  rwa [List.take_of_length_le (by omega), List.take_of_length_le hk] at h
theorem cast_ne {a b : Nat} (h : ((a : Int) != b) = false) : a = b := by
  have : (a : Int) = b := by simpa using h
  omega
attribute [go_sem] Int.reduceToNat Int.reduceLE Int.reduceLT Int.reduceAdd Int.reduceSub Int.reduceBEq Int.reduceBNe Int.reduceEq Int.reduceMul
attribute [go_sem] List.length_set List.length_append List.length_replicate List.length_map Nat.zero_add Nat.add_zero
end Go.Proofs.Ytedciihjgbkjgaa.A


/- THE SMALLEST FUNCTIONS: lists of numbers. Conditions: none. -/
namespace Go.Proofs.Ytedciihjgbkjgaa.A
open Go
set_option linter.unusedSimpArgs false
set_option linter.unusedVariables false
set_option maxRecDepth 100000

theorem l1In_sat (x a b : Int) : Sat Try.prog 46 [.one (.sc (.int .i64 x)), .one (.sc (.int .i64 a)), .one (.sc (.int .i64 b))] [.one (.sc (.bool (decide (a ≤ x) && decide (x ≤ b))))] [.one .gone, .one .gone, .one .gone] := by
  refine sat_of_body mixed Try.func46 rfl (by kernel_rfl) (by kernel_rfl) (rs := [.tmp 6]) rfl rfl rfl ?_
  by_cases h1 : a ≤ x <;> by_cases h2 : x ≤ b <;> simp -implicitDefEqProofs (maxSteps := 2000000) only [go_sem, h1, h2, ge_iff_le, Bool.and_true, Bool.and_false]
theorem within_sat (x a b : Int) : Sat Try.prog 40 [.one (.sc (.int .i64 x)), .one (.sc (.int .i64 a)), .one (.sc (.int .i64 b))] [.one (.sc (.bool (decide (a ≤ x) && decide (x ≤ b))))] [.one .gone, .one .gone, .one .gone] := by
  refine sat_of_body mixed Try.func40 rfl (by kernel_rfl) (by kernel_rfl) (rs := [.tmp 6]) rfl rfl rfl ?_
  by_cases h1 : a ≤ x <;> by_cases h2 : x ≤ b <;> simp -implicitDefEqProofs (maxSteps := 2000000) only [go_sem, h1, h2, Bool.and_true, Bool.and_false]

def cmpInts : List Int → List Int → Int
  | [], [] => 0
  | [], _ :: _ => -1
  | _ :: _, [] => 1
  | a :: l, b :: m => if a < b then -1 else if a > b then 1 else cmpInts l m
theorem cmpInts_zero : ∀ {a b : List Int}, cmpInts a b = 0 ↔ a = b
  | [], [] => by simp [cmpInts]
  | [], _ :: _ => by simp [cmpInts]
  | _ :: _, [] => by simp [cmpInts]
  | a :: l, b :: m => by
    unfold cmpInts
    rcases Int.lt_trichotomy a b with h | h | h
    · simp [h]; omega
    · subst h; simp [cmpInts_zero]
    · rw [if_neg (by omega), if_pos h]; simp; omega
theorem cmp_beq (a b : List Int) : (cmpInts a b == 0) = decide (a = b) := by
  rw [Bool.eq_iff_iff]; simp [cmpInts_zero]
theorem cmp_bne (a b : List Int) : (cmpInts a b != 0) = !decide (a = b) := by rw [bne, cmp_beq]
attribute [go_sem] beq_self_eq_true bne_self_eq_false Bool.and_self Bool.true_and Bool.false_and Bool.and_true Bool.and_false Bool.not_true Bool.not_false Bool.true_or Bool.false_or Bool.or_true Bool.or_false
theorem l3Ints_sat (a b : List Int) (ha : a.length ≤ 9223372036854775807) : Sat Try.prog 63 [.one (.im 1 (ints a)), .one (.im 1 (ints b))] [.one (.sc (.int .i64 (cmpInts a b)))] [.one .gone, .one .gone] := by
  refine sat_of_body mixed Try.func63 rfl (by kernel_rfl) (by kernel_rfl) (rs := [.tmp 4]) rfl rfl rfl ?_
  simp -implicitDefEqProofs (maxSteps := 2000000) only [go_sem]
  refine awp_loop Nat (fun k => mkSt [(0, .one (.im 1 (ints a))), (1, .one (.im 1 (ints b))), (5, .sc (.int .i64 k))] [] [] 1000)
    (fun k => k ≤ a.length ∧ k ≤ b.length ∧ cmpInts (a.drop k) (b.drop k) = cmpInts a b) (fun k => a.length - k) 0 ⟨by omega, by omega, rfl⟩ (le_st _ _ [] [] _ rfl (by simp -implicitDefEqProofs (maxSteps := 2000000) only [go_sem] <;> rfl) trivial trivial) ?_
  rintro k ⟨h1, h2, h3⟩
  by_cases c1 : k < a.length
  · by_cases c2 : k < b.length
    · rw [drop_cons 0 c1, drop_cons 0 c2] at h3
      simp -implicitDefEqProofs (maxSteps := 2000000) only [go_sem, c1, c2]
      refine cond_split (fun d => ?_) fun d => ?_
      · simp -implicitDefEqProofs (maxSteps := 2000000) only [go_sem]
        rw [← h3, cmpInts, if_pos (by simpa using d)]
      simp -implicitDefEqProofs (maxSteps := 2000000) only [go_sem, c1, c2]
      refine cond_split (fun e => ?_) fun e => ?_
      · simp -implicitDefEqProofs (maxSteps := 2000000) only [go_sem]
        rw [← h3, cmpInts, if_neg (by simpa using d), if_pos (by simpa using e)]
      simp -implicitDefEqProofs (maxSteps := 2000000) only [go_sem]
      rw [i64_succ (by omega)]
      refine ⟨k + 1, ⟨c1, c2, ?_⟩, by omega, (le_st _ _ [] [] _ rfl (by simp -implicitDefEqProofs (maxSteps := 2000000) only [go_sem] <;> rfl) trivial trivial)⟩
      rw [← h3, cmpInts, if_neg (by simpa using d), if_neg (by simpa using e)]
    · obtain rfl : k = b.length := by omega
      rw [drop_cons 0 c1, List.drop_length] at h3
      simp -implicitDefEqProofs (maxSteps := 2000000) only [go_sem, c1, c2]
      refine cond_split (fun d => ?_) fun d => ?_
      · have := of_decide_eq_true d; omega
      simp -implicitDefEqProofs (maxSteps := 2000000) only [go_sem]
      refine cond_split (fun e => ?_) fun e => ?_
      · simp -implicitDefEqProofs (maxSteps := 2000000) only [go_sem]
        rw [← h3, cmpInts]
      · have := of_decide_eq_false e; omega
  · obtain rfl : k = a.length := by omega
    simp -implicitDefEqProofs (maxSteps := 2000000) only [go_sem, c1]
    refine cond_split (fun d => ?_) fun d => ?_
    · simp -implicitDefEqProofs (maxSteps := 2000000) only [go_sem]
      have d := of_decide_eq_true d
      rw [drop_cons 0 d, List.drop_length] at h3
      rw [← h3, cmpInts]
    · simp -implicitDefEqProofs (maxSteps := 2000000) only [go_sem]
      have d := of_decide_eq_false d
      obtain e : a.length = b.length := by omega
      refine cond_split (fun f => ?_) fun f => ?_
      · have := of_decide_eq_true f; omega
      simp -implicitDefEqProofs (maxSteps := 2000000) only [go_sem]
      rw [e, List.drop_length] at h3
      rw [← e, List.drop_length] at h3
      rw [← h3, cmpInts]

/-- Two lists, element by element. -/
theorem eqList_step {a b : List Int} {k : Nat} (h1 : k < a.length) (h2 : k < b.length) (h : a.take k = b.take k) (e : a.getD k 0 = b.getD k 0) : a.take (k + 1) = b.take (k + 1) := by
  rw [take_snoc 0 h1, take_snoc 0 h2, h, e]
theorem eqList_ne {a b : List Int} {k : Nat} (e : a.getD k 0 ≠ b.getD k 0) : a ≠ b := fun h => e (by rw [h])
theorem eqIntS_sat (a b : List Int) (ha : a.length ≤ 9223372036854775807) : Sat Try.prog 57 [.one (.im 1 (ints a)), .one (.im 1 (ints b))] [.one (.sc (.bool (decide (a = b))))] [.one .gone, .one .gone] := by
  refine sat_of_body mixed Try.func57 rfl (by kernel_rfl) (by kernel_rfl) (rs := [.tmp 4]) rfl rfl rfl ?_
  simp -implicitDefEqProofs (maxSteps := 2000000) only [go_sem]
  refine cond_split (fun d => ?_) fun d => ?_
  · simp -implicitDefEqProofs (maxSteps := 2000000) only [go_sem]
    have d : ¬ (a.length : Int) = b.length := by simpa using d
    rw [decide_eq_false (fun h => d (by rw [h]))]
  have d : a.length = b.length := cast_ne d
  simp -implicitDefEqProofs (maxSteps := 2000000) only [go_sem]
  refine awp_loop Nat (fun k => mkSt [(0, .one (.im 1 (ints a))), (1, .one (.im 1 (ints b))), (5, .sc (.int .i64 k))] [] [] 1000)
    (fun k => k ≤ a.length ∧ a.take k = b.take k) (fun k => a.length - k) 0 ⟨by omega, rfl⟩ (le_st _ _ [] [] _ rfl (by simp -implicitDefEqProofs (maxSteps := 2000000) only [go_sem] <;> rfl) trivial trivial) ?_
  rintro k ⟨h1, h2⟩
  by_cases c1 : k < a.length
  · have c2 : k < b.length := by omega
    simp -implicitDefEqProofs (maxSteps := 2000000) only [go_sem, c1, c2]
    refine cond_split (fun e => ?_) fun e => ?_
    · simp -implicitDefEqProofs (maxSteps := 2000000) only [go_sem]
      rw [decide_eq_false (eqList_ne (by simpa using e))]
    simp -implicitDefEqProofs (maxSteps := 2000000) only [go_sem]
    rw [i64_succ (by omega)]
    exact ⟨k + 1, ⟨c1, eqList_step c1 c2 h2 (by simpa using e)⟩, by omega, (le_st _ _ [] [] _ rfl (by simp -implicitDefEqProofs (maxSteps := 2000000) only [go_sem] <;> rfl) trivial trivial)⟩
  · simp -implicitDefEqProofs (maxSteps := 2000000) only [go_sem, c1]
    rw [List.take_of_length_le (by omega), List.take_of_length_le (by omega)] at h2
    rw [decide_eq_true h2]
/-- What is left of a measure of size. -/
def szl (a : List Int) (n : Int) : Int := if n - a.length < 0 then -1 else n - a.length
theorem szl_le {a : List Int} {n : Int} (h : -1 ≤ n ∧ n ≤ 1048576) : -1 ≤ szl a n ∧ szl a n ≤ 1048576 := by unfold szl; split <;> omega
theorem szl_len {a : List Int} {n : Int} (h : n ≤ 1048576) (h0 : ¬ szl a n < 0) : a.length ≤ 1048576 := by unfold szl at h0; split at h0 <;> omega
theorem szIntS_sat (a : List Int) (n : Int) (h : -1 ≤ n ∧ n ≤ 1048576) (ha : a.length ≤ 9223372036854775807) : Sat Try.prog 50 [.one (.im 1 (ints a)), .one (.sc (.int .i64 n))] [.one (.sc (.int .i64 (szl a n)))] [.one .gone, .one .gone] := by
  unfold szl
  refine sat_of_body mixed Try.func50 rfl (by kernel_rfl) (by kernel_rfl) (rs := [.tmp 4]) rfl rfl rfl ?_
  simp -implicitDefEqProofs (maxSteps := 2000000) only [go_sem]
  rw [IntWalk.i64_in _ (by omega)]
  refine cond_split (fun d => ?_) fun d => ?_
  · have d := of_decide_eq_true d
    simp -implicitDefEqProofs (maxSteps := 2000000) only [go_sem]
    rw [if_pos d]
  · have d := of_decide_eq_false d
    simp -implicitDefEqProofs (maxSteps := 2000000) only [go_sem]
    rw [if_neg d]
/-- A copy of a list of numbers. -/
theorem toIntS_sat (a : List Int) (ha : a.length ≤ 1048576) : Sat Try.prog 53 [.one (.im 1 (ints a))] [.one (.ow 1 (ints a))] [.one .gone] := by
  refine sat_of_body mixed Try.func53 rfl (by kernel_rfl) (by kernel_rfl) (rs := [.tmp 2]) rfl rfl rfl ?_
  simp -implicitDefEqProofs (maxSteps := 2000000) only [go_sem]
  refine ⟨by omega, ?_⟩
  refine awp_loop (Nat × List Int) (fun x => mkSt [(0, .one (.im 1 (ints a))), (3, .one (.ref 960 1 0 a.length)), (4, .sc (.int .i64 x.1))] [] [(960, (1, ints x.2))] 1000)
    (fun x => x.1 ≤ a.length ∧ x.2.length = a.length ∧ x.2.take x.1 = a.take x.1) (fun x => a.length - x.1) (0, List.replicate a.length 0) ⟨by simp, by simp, by simp⟩ (le_st _ _ [⟨960, some 1192, false, 1, _⟩] [] _ rfl (by simp -implicitDefEqProofs (maxSteps := 2000000) only [go_sem] <;> rfl) (by simp -implicitDefEqProofs (maxSteps := 2000000) only [go_sem] <;> rfl) (by simp -implicitDefEqProofs (maxSteps := 2000000) only [go_sem] <;> rfl)) ?_
  rintro ⟨k, b⟩ ⟨h1, h2, h3⟩
  simp only at h1 h2 h3
  by_cases c1 : k < a.length
  · simp -implicitDefEqProofs (maxSteps := 2000000) only [go_sem, c1, h2]
    rw [i64_succ (by omega)]
    exact ⟨(k + 1, b.set k (a.getD k 0)), ⟨c1, by simpa using h2, take_set_snoc 0 h2 h3 c1⟩, by simp; omega, (le_st _ _ [⟨960, some 960, false, 1, _⟩] [] _ rfl (by simp -implicitDefEqProofs (maxSteps := 2000000) only [go_sem] <;> rfl) (by simp -implicitDefEqProofs (maxSteps := 2000000) only [go_sem] <;> rfl) (by simp -implicitDefEqProofs (maxSteps := 2000000) only [go_sem] <;> rfl))⟩
  · obtain rfl := of_take h2 h3 (by omega)
    simp -implicitDefEqProofs (maxSteps := 2000000) only [go_sem, c1]
    rfl
end Go.Proofs.Ytedciihjgbkjgaa.A


/- DATA OF THE PROGRAM: relations, facts, atoms, edges, constraints, lists of lists. Conditions: none. -/
namespace Go.Proofs.Ytedciihjgbkjgaa.A
open Go
set_option linter.unusedSimpArgs false
set_option linter.unusedVariables false

theorem frz_map {α : Type} (c c' : α → List Cell) (h : ∀ a, (c a).map Cell.frz = c' a) (l : List α) : frz (l.map c) = l.map c' := by simp [frz, Function.comp_def, h]
theorem rst_map {α : Type} (c c' : α → List Cell) (h : ∀ a, (c a).map Cell.rst = c' a) (l : List α) : rst (l.map c) = l.map c' := by simp [rst, Function.comp_def, h]
theorem stm_map {α : Type} (n : Nat) (c c' : α → List Cell) (h : ∀ a, (c a).map (Cell.stm n) = c' a) (l : List α) : stm n (l.map c) = l.map c' := by simp [stm, Function.comp_def, h]
theorem get_map {α : Type} (d : α) (c : α → List Cell) {l : List α} {i : Nat} (h : i < l.length) : (l.map c).getD i [] = c (l.getD i d) := by
  simp [List.getD_eq_getElem?_getD, h]
theorem stm_append (n : Nat) (a b : Rows) : stm n (a ++ b) = stm n a ++ stm n b := by simp [stm]
theorem stm_set (n : Nat) (a : Rows) (i : Nat) (r : List Cell) : stm n (a.set i r) = (stm n a).set i (r.map (Cell.stm n)) := by simp [stm, List.map_set]
theorem stm_cons (n : Nat) (r : List Cell) (a : Rows) : stm n (r :: a) = r.map (Cell.stm n) :: stm n a := rfl
theorem stm_nil (n : Nat) : stm n [] = [] := rfl
theorem cstm_sc (n : Nat) (v : Value) : Cell.stm n (.sc v) = .sc v := rfl
theorem cstm_sl (n s : Nat) (xs : List Value) : Cell.stm n (.sl (s + 1) xs) = .sl n xs := rfl
theorem cstm_sl0 (n : Nat) (xs : List Value) : Cell.stm n (.sl 0 xs) = .sl 0 xs := rfl
attribute [go_sem] stm_append stm_set stm_cons stm_nil cstm_sc cstm_sl cstm_sl0

/-! #### relations -/
structure Rel where
  name : ByteArray
  ar : Int
  kl : Int
  deriving DecidableEq
instance : Inhabited Rel := ⟨⟨ByteArray.empty, 0, 0⟩⟩
def cRel (x : Rel) : List Cell := [.sc (.string x.name), .sc (.int .i64 x.ar), .sc (.int .i64 x.kl)]
def rels (l : List Rel) : Rows := l.map cRel
theorem rels_length (l : List Rel) : (rels l).length = l.length := by simp [rels]
theorem rels_get {l : List Rel} {i : Nat} (h : i < l.length) : (rels l).getD i [] = [.sc (.string (l.getD i default).name), .sc (.int .i64 (l.getD i default).ar), .sc (.int .i64 (l.getD i default).kl)] := get_map default cRel h
theorem rels_frz (l : List Rel) : frz (rels l) = rels l := frz_map _ _ (fun _ => rfl) l
theorem rels_rst (l : List Rel) : rst (rels l) = rels l := rst_map _ _ (fun _ => rfl) l
theorem rels_stm (n : Nat) (l : List Rel) : stm n (rels l) = rels l := stm_map n _ _ (fun _ => rfl) l
theorem rels_flat (l : List Rel) : flatB (rels l) = true := by simp [flatB, rels, cRel, Cell.flatB]
theorem rels_take (l : List Rel) (k : Nat) : (rels l).take k = rels (l.take k) := by simp [rels]
theorem rels_drop (l : List Rel) (k : Nat) : (rels l).drop k = rels (l.drop k) := by simp [rels]
theorem rels_append (a b : List Rel) : rels a ++ rels b = rels (a ++ b) := by simp [rels]
theorem rels_set (l : List Rel) (i : Nat) (s : ByteArray) (a k : Int) : (rels l).set i [.sc (.string s), .sc (.int .i64 a), .sc (.int .i64 k)] = rels (l.set i ⟨s, a, k⟩) := by simp [rels, List.map_set, cRel]
theorem rels_rep (n : Nat) (s : ByteArray) (a k : Int) : List.replicate n [Cell.sc (.string s), .sc (.int .i64 a), .sc (.int .i64 k)] = rels (List.replicate n ⟨s, a, k⟩) := by simp [rels, cRel]
theorem rels_nil : rels [] = [] := rfl
attribute [go_sem] rels_length rels_get rels_frz rels_rst rels_stm rels_flat rels_take rels_drop rels_append rels_set rels_rep

/-! #### facts and atoms -/
structure RI where
  r : Int
  l : List Int
  deriving DecidableEq
instance : Inhabited RI := ⟨⟨0, []⟩⟩
def cRI (s : Nat) (x : RI) : List Cell := [.sc (.int .i64 x.r), .sl s (iv x.l)]
def ris (s : Nat) (l : List RI) : Rows := l.map (cRI s)
theorem ris_length (s : Nat) (l : List RI) : (ris s l).length = l.length := by simp [ris]
theorem ris_get {s : Nat} {l : List RI} {i : Nat} (h : i < l.length) : (ris s l).getD i [] = [.sc (.int .i64 (l.getD i default).r), .sl s (iv (l.getD i default).l)] := get_map default (cRI s) h
theorem ris_frz (s : Nat) (l : List RI) : frz (ris s l) = ris 0 l := frz_map _ _ (fun _ => rfl) l
theorem ris_rst0 (l : List RI) : rst (ris 0 l) = ris 0 l := rst_map _ _ (fun _ => rfl) l
theorem ris_rst (s : Nat) (l : List RI) : rst (ris (s + 1) l) = ris 1 l := rst_map _ _ (fun _ => rfl) l
theorem ris_stm (n s : Nat) (l : List RI) : stm n (ris (s + 1) l) = ris n l := stm_map n _ _ (fun _ => rfl) l
theorem ris_flat (l : List RI) : flatB (ris 0 l) = true := by simp [flatB, ris, cRI, Cell.flatB]
theorem ris_take (s : Nat) (l : List RI) (k : Nat) : (ris s l).take k = ris s (l.take k) := by simp [ris]
theorem ris_drop (s : Nat) (l : List RI) (k : Nat) : (ris s l).drop k = ris s (l.drop k) := by simp [ris]
theorem ris_append (s : Nat) (a b : List RI) : ris s a ++ ris s b = ris s (a ++ b) := by simp [ris]
theorem ris_snoc (s : Nat) (a : List RI) (r : Int) (l : List Int) : ris s a ++ [[.sc (.int .i64 r), .sl s (iv l)]] = ris s (a ++ [⟨r, l⟩]) := by simp [ris, cRI]
theorem ris_one (s : Nat) (r : Int) (l : List Int) : [[Cell.sc (.int .i64 r), .sl s (iv l)]] = ris s [⟨r, l⟩] := by simp [ris, cRI]
theorem ris_set (s : Nat) (l : List RI) (i : Nat) (r : Int) (x : List Int) : (ris s l).set i [.sc (.int .i64 r), .sl s (iv x)] = ris s (l.set i ⟨r, x⟩) := by simp [ris, List.map_set, cRI]
theorem ris_setCell {s : Nat} {l : List RI} {i : Nat} (x : List Int) (h : i < l.length) : Rows.setCell (ris s l) i 1 (.sl s (iv x)) = ris s (l.set i ⟨(l.getD i default).r, x⟩) := by
  unfold Rows.setCell
  rw [ris_get h]
  exact ris_set s l i _ x
theorem take1 {α : Type} (d x : α) : List.take 1 ((List.replicate 1 d).set 0 x) = [x] := rfl
theorem take2 {α : Type} (d x y : α) : List.take 2 (((List.replicate 2 d).set 0 x).set 1 y) = [x, y] := rfl
attribute [go_sem] take1 take2 List.length_cons List.length_nil
theorem getD_set_same {α : Type} {l : List α} {i : Nat} {x d : α} (h : i < l.length) : (l.set i x).getD i d = x := by
  simp [List.getD_eq_getElem?_getD, h]
theorem ris_rep (s n : Nat) (r : Int) : List.replicate n [Cell.sc (.int .i64 r), .sl s []] = ris s (List.replicate n ⟨r, []⟩) := by simp [ris, cRI, iv]
theorem ris_nil (s : Nat) : ris s [] = [] := rfl
attribute [go_sem] ris_length ris_get ris_frz ris_rst0 ris_rst ris_stm ris_flat ris_take ris_drop ris_append ris_snoc ris_set ris_rep ris_setCell getD_set_same List.set_set

/-! #### lists of lists -/
def cIS (s : Nat) (x : List Int) : List Cell := [.sl s (iv x)]
def iss (s : Nat) (l : List (List Int)) : Rows := l.map (cIS s)
theorem iss_length (s : Nat) (l : List (List Int)) : (iss s l).length = l.length := by simp [iss]
theorem iss_get {s : Nat} {l : List (List Int)} {i : Nat} (h : i < l.length) : (iss s l).getD i [] = [.sl s (iv (l.getD i []))] := get_map [] (cIS s) h
theorem iss_frz (s : Nat) (l : List (List Int)) : frz (iss s l) = iss 0 l := frz_map _ _ (fun _ => rfl) l
theorem iss_rst0 (l : List (List Int)) : rst (iss 0 l) = iss 0 l := rst_map _ _ (fun _ => rfl) l
theorem iss_rst (s : Nat) (l : List (List Int)) : rst (iss (s + 1) l) = iss 1 l := rst_map _ _ (fun _ => rfl) l
theorem iss_stm (n s : Nat) (l : List (List Int)) : stm n (iss (s + 1) l) = iss n l := stm_map n _ _ (fun _ => rfl) l
theorem iss_flat (l : List (List Int)) : flatB (iss 0 l) = true := by simp [flatB, iss, cIS, Cell.flatB]
theorem iss_append (s : Nat) (a b : List (List Int)) : iss s a ++ iss s b = iss s (a ++ b) := by simp [iss]
theorem iss_take (s : Nat) (l : List (List Int)) (k : Nat) : (iss s l).take k = iss s (l.take k) := by simp [iss]
theorem iss_drop (s : Nat) (l : List (List Int)) (k : Nat) : (iss s l).drop k = iss s (l.drop k) := by simp [iss]
theorem iss_set (s : Nat) (l : List (List Int)) (i : Nat) (x : List Int) : (iss s l).set i [.sl s (iv x)] = iss s (l.set i x) := by simp [iss, List.map_set, cIS]
theorem iss_one (s : Nat) (x : List Int) : [[Cell.sl s (iv x)]] = iss s [x] := by simp [iss, cIS]
theorem iss_nil (s : Nat) : iss s [] = [] := rfl
attribute [go_sem] iss_length iss_get iss_frz iss_rst0 iss_rst iss_stm iss_flat iss_append iss_take iss_drop iss_set

/-! #### edges -/
structure Edge where
  a : Int
  b : Int
  deriving DecidableEq
instance : Inhabited Edge := ⟨⟨0, 0⟩⟩
def cEd (x : Edge) : List Cell := [.sc (.int .i64 x.a), .sc (.int .i64 x.b)]
def eds (l : List Edge) : Rows := l.map cEd
theorem eds_length (l : List Edge) : (eds l).length = l.length := by simp [eds]
theorem eds_get {l : List Edge} {i : Nat} (h : i < l.length) : (eds l).getD i [] = [.sc (.int .i64 (l.getD i default).a), .sc (.int .i64 (l.getD i default).b)] := get_map default cEd h
theorem eds_frz (l : List Edge) : frz (eds l) = eds l := frz_map _ _ (fun _ => rfl) l
theorem eds_rst (l : List Edge) : rst (eds l) = eds l := rst_map _ _ (fun _ => rfl) l
theorem eds_stm (n : Nat) (l : List Edge) : stm n (eds l) = eds l := stm_map n _ _ (fun _ => rfl) l
theorem eds_flat (l : List Edge) : flatB (eds l) = true := by simp [flatB, eds, cEd, Cell.flatB]
theorem eds_take (l : List Edge) (k : Nat) : (eds l).take k = eds (l.take k) := by simp [eds]
theorem eds_drop (l : List Edge) (k : Nat) : (eds l).drop k = eds (l.drop k) := by simp [eds]
theorem eds_append (a b : List Edge) : eds a ++ eds b = eds (a ++ b) := by simp [eds]
theorem eds_snoc (l : List Edge) (a b : Int) : eds l ++ [[.sc (.int .i64 a), .sc (.int .i64 b)]] = eds (l ++ [⟨a, b⟩]) := by simp [eds, cEd]
theorem eds_set (l : List Edge) (i : Nat) (a b : Int) : (eds l).set i [.sc (.int .i64 a), .sc (.int .i64 b)] = eds (l.set i ⟨a, b⟩) := by simp [eds, List.map_set, cEd]
theorem eds_rep (n : Nat) (a b : Int) : List.replicate n [Cell.sc (.int .i64 a), .sc (.int .i64 b)] = eds (List.replicate n ⟨a, b⟩) := by simp [eds, cEd]
theorem eds_nil : eds [] = [] := rfl
attribute [go_sem] eds_length eds_get eds_frz eds_rst eds_stm eds_flat eds_take eds_drop eds_append eds_snoc eds_set eds_rep

/-! #### embeddings -/
structure Emb where
  vs : List Int
  fs : List Int
  deriving DecidableEq
instance : Inhabited Emb := ⟨⟨[], []⟩⟩
def cEm (s : Nat) (x : Emb) : List Cell := [.sl s (iv x.vs), .sl s (iv x.fs)]
def ems (s : Nat) (l : List Emb) : Rows := l.map (cEm s)
theorem ems_length (s : Nat) (l : List Emb) : (ems s l).length = l.length := by simp [ems]
theorem ems_get {s : Nat} {l : List Emb} {i : Nat} (h : i < l.length) : (ems s l).getD i [] = [.sl s (iv (l.getD i default).vs), .sl s (iv (l.getD i default).fs)] := get_map default (cEm s) h
theorem ems_frz (s : Nat) (l : List Emb) : frz (ems s l) = ems 0 l := frz_map _ _ (fun _ => rfl) l
theorem ems_rst0 (l : List Emb) : rst (ems 0 l) = ems 0 l := rst_map _ _ (fun _ => rfl) l
theorem ems_rst (s : Nat) (l : List Emb) : rst (ems (s + 1) l) = ems 1 l := rst_map _ _ (fun _ => rfl) l
theorem ems_stm (n s : Nat) (l : List Emb) : stm n (ems (s + 1) l) = ems n l := stm_map n _ _ (fun _ => rfl) l
theorem ems_flat (l : List Emb) : flatB (ems 0 l) = true := by simp [flatB, ems, cEm, Cell.flatB]
theorem ems_take (s : Nat) (l : List Emb) (k : Nat) : (ems s l).take k = ems s (l.take k) := by simp [ems]
theorem ems_drop (s : Nat) (l : List Emb) (k : Nat) : (ems s l).drop k = ems s (l.drop k) := by simp [ems]
theorem ems_append (s : Nat) (a b : List Emb) : ems s a ++ ems s b = ems s (a ++ b) := by simp [ems]
theorem ems_one (s : Nat) (a b : List Int) : [[Cell.sl s (iv a), .sl s (iv b)]] = ems s [⟨a, b⟩] := by simp [ems, cEm]
theorem ems_set (s : Nat) (l : List Emb) (i : Nat) (a b : List Int) : (ems s l).set i [.sl s (iv a), .sl s (iv b)] = ems s (l.set i ⟨a, b⟩) := by simp [ems, List.map_set, cEm]
theorem ems_nil (s : Nat) : ems s [] = [] := rfl
theorem ems_still (s : Nat) (l : List Emb) : stillRows (ems (s + 1) l) = true := by simp [stillRows, ems, cEm, Cell.still]
theorem ems_set0 {s : Nat} {l : List Emb} {i : Nat} (x : List Int) (h : i < l.length) : Rows.setCell (ems s l) i 0 (.sl s (iv x)) = ems s (l.set i ⟨x, (l.getD i default).fs⟩) := by
  unfold Rows.setCell
  rw [ems_get h]
  exact ems_set s l i x _
theorem ems_set1 {s : Nat} {l : List Emb} {i : Nat} (x : List Int) (h : i < l.length) : Rows.setCell (ems s l) i 1 (.sl s (iv x)) = ems s (l.set i ⟨(l.getD i default).vs, x⟩) := by
  unfold Rows.setCell
  rw [ems_get h]
  exact ems_set s l i _ x
attribute [go_sem] ems_length ems_get ems_frz ems_rst0 ems_rst ems_stm ems_flat ems_take ems_drop ems_append ems_set ems_set0 ems_set1
theorem takeL1 (s : List Int) (x : Int) : List.take (s.length + 1) (s ++ [x]) = s ++ [x] := List.take_of_length_le (by simp)
attribute [go_sem] takeL1

theorem str_beq (a b : ByteArray) : (a.toList == b.toList) = decide (a = b) := by
  rw [ByteArray.toList_eq, ByteArray.toList_eq, Bool.eq_iff_iff, decide_eq_true_iff, beq_iff_eq]
  exact ⟨fun h => Go.WideShapes.bytes_inj h, fun h => by rw [h]⟩
theorem i64_pred {j : Nat} (h : j < 9223372036854775807) : IntKind.i64.wrap (((j + 1 : Nat) : Int) - 1) = (j : Int) := by
  rw [IntWalk.i64_in _ (by omega)]; omega
attribute [go_sem] str_beq
theorem tr_and {ops : List Oper} {tr : List Tr} {c : Prop} (h : trOk ops tr = true) (hc : c) : trOk ops tr = true ∧ c := ⟨h, hc⟩
theorem tr_only {ops : List Oper} {tr : List Tr} (h : trOk ops tr = true) : trOk ops tr = true := h
theorem callOk_still {handed lent : List Nat} {res upd : List LV} (h : (lent.all (fun i => !handed.contains i) && decide handed.Nodup) = true) (h2 : (res.all LV.still && upd.all LV.still) = true) : (callOk handed lent res upd && decide handed.Nodup) = true := by
  rw [Bool.and_eq_true] at h
  unfold callOk
  rw [h.1, h.2, h2]
  simp
theorem ris_still (s : Nat) (l : List RI) : stillRows (ris (s + 1) l) = true := by simp [stillRows, ris, cRI, Cell.still]
theorem eds_still (l : List Edge) : stillRows (eds l) = true := by simp [stillRows, eds, cEd, Cell.still]
theorem rels_still (l : List Rel) : stillRows (rels l) = true := by simp [stillRows, rels, cRel, Cell.still]
theorem iss_still (s : Nat) (l : List (List Int)) : stillRows (iss (s + 1) l) = true := by simp [stillRows, iss, cIS, Cell.still]
theorem le_st' {st : St} (slots : List (Nat × AV)) (vars : List (Nat × List SV)) (obs : List OE) (fro : List Nat) (next : Nat)
    (hs : eachL (fun p : Nat × AV => leAV st obs fro (st.slots p.1) p.2) slots) (hv : eachL (fun p : Nat × List SV => leVar st obs fro (st.vars p.1) p.2) vars) (ho : eachL (OE.okay st next) obs) (hn : namesOk slots vars obs fro next = true) :
    Le st (mkSt slots vars (obs.map fun e => (e.new, (e.w, e.rows))) next) := le_st slots vars obs fro next hn hs hv ho
abbrev lInt (n : Int) : LV := .one (.sc (.int .i64 n))
abbrev lBool (b : Bool) : LV := .one (.sc (.bool b))
abbrev lStr (s : ByteArray) : LV := .one (.sc (.string s))
abbrev lInts (a : List Int) : LV := .one (.im 1 (ints a))
abbrev oInts (a : List Int) : LV := .one (.ow 1 (ints a))
abbrev lISS (a : List (List Int)) : LV := .one (.im 1 (iss 0 a))
abbrev oISS (a : List (List Int)) : LV := .one (.ow 1 (iss 1 a))
abbrev lRels (a : List Rel) : LV := .one (.im 3 (rels a))
abbrev oRels (a : List Rel) : LV := .one (.ow 3 (rels a))
abbrev lRel (a : Rel) : LV := .agg [.sc (.string a.name), .sc (.int .i64 a.ar), .sc (.int .i64 a.kl)]
abbrev lRI (a : RI) : LV := .agg [.sc (.int .i64 a.r), .im 1 (ints a.l)]
abbrev oRI (a : RI) : LV := .agg [.sc (.int .i64 a.r), .ow 1 (ints a.l)]
abbrev lRIs (a : List RI) : LV := .one (.im 2 (ris 0 a))
abbrev oRIs (a : List RI) : LV := .one (.ow 2 (ris 1 a))
abbrev lEds (a : List Edge) : LV := .one (.im 2 (eds a))
abbrev oEds (a : List Edge) : LV := .one (.ow 2 (eds a))
structure Db where
  rels : List Rel
  facts : List RI
  deriving DecidableEq
structure Qu where
  vc : Int
  atoms : List RI
  free : List Int
  deriving DecidableEq
abbrev lDb (d : Db) : LV := .agg [.im 3 (A.rels d.rels), .im 2 (ris 0 d.facts)]
abbrev oDb (d : Db) : LV := .agg [.ow 3 (A.rels d.rels), .ow 2 (ris 1 d.facts)]
abbrev lQu (q : Qu) : LV := .agg [.sc (.int .i64 q.vc), .im 2 (ris 0 q.atoms), .im 1 (ints q.free)]
abbrev oQu (q : Qu) : LV := .agg [.sc (.int .i64 q.vc), .ow 2 (ris 1 q.atoms), .ow 1 (ints q.free)]
abbrev uQu (q : Qu) : LV := .agg [.gone, .ow 2 (ris 1 q.atoms), .ow 1 (ints q.free)]
abbrev uRI (a : RI) : LV := .agg [.gone, .ow 1 (ints a.l)]
abbrev sQu (q : Qu) : List SV := [.sc (.int .i64 q.vc), .im 2 (ris 0 q.atoms), .im 1 (ints q.free)]
abbrev sDb (d : Db) : List SV := [.im 3 (A.rels d.rels), .im 2 (ris 0 d.facts)]
abbrev sRI (a : RI) : List SV := [.sc (.int .i64 a.r), .im 1 (ints a.l)]
abbrev g1 : LV := .one .gone
abbrev g2 : LV := .agg [.gone, .gone]
abbrev g3 : LV := .agg [.gone, .gone, .gone]
end Go.Proofs.Ytedciihjgbkjgaa.A


/- ATOMS AND QUERIES: size, copy, comparison. Conditions: none. -/
namespace Go.Proofs.Ytedciihjgbkjgaa.A
open Go
set_option linter.unusedSimpArgs false
set_option linter.unusedVariables false
set_option maxRecDepth 100000

/-! #### measures of size -/
def szF {α : Type} (f : α → Int → Int) : List α → Int → Int
  | [], n => n
  | a :: l, n => if f a n < 0 then -1 else szF f l (f a n)
def szAll {α : Type} (f : α → Int → Int) (l : List α) (n : Int) : Int := if n - l.length < 0 then -1 else szF f l (n - l.length)
def SzOk {α : Type} (f : α → Int → Int) (P : α → Prop) : Prop := ∀ a n, -1 ≤ n ∧ n ≤ 1048576 → (-1 ≤ f a n ∧ f a n ≤ 1048576) ∧ (¬ f a n < 0 → P a)
theorem szF_ok {α : Type} {f : α → Int → Int} {P : α → Prop} (h : SzOk f P) : ∀ (l : List α) (n : Int), -1 ≤ n ∧ n ≤ 1048576 → (-1 ≤ szF f l n ∧ szF f l n ≤ 1048576) ∧ (¬ szF f l n < 0 → ∀ a ∈ l, P a)
  | [], n, hn => ⟨hn, fun _ => by simp⟩
  | a :: l, n, hn => by
    unfold szF
    have h1 := h a n hn
    split
    · exact ⟨by omega, fun h => absurd (by omega) h⟩
    · rename_i c
      have h2 := szF_ok h l (f a n) h1.1
      exact ⟨h2.1, fun h3 => by simp only [List.mem_cons, forall_eq_or_imp]; exact ⟨h1.2 c, h2.2 h3⟩⟩
theorem szAll_ok {α : Type} {f : α → Int → Int} {P : α → Prop} (h : SzOk f P) : SzOk (szAll f) (fun l => l.length ≤ 1048576 ∧ ∀ a ∈ l, P a) := by
  intro l n hn
  unfold szAll
  split
  · exact ⟨by omega, fun h => absurd (by omega) h⟩
  · have h2 := szF_ok h l (n - l.length) (by omega)
    exact ⟨h2.1, fun h3 => ⟨by omega, h2.2 h3⟩⟩
theorem szl_ok : SzOk szl (fun a => a.length ≤ 1048576) := fun a n h => ⟨szl_le h, fun c => szl_len h.2 c⟩
def szRI (a : RI) (n : Int) : Int := szl a.l n
def RI.ok (a : RI) : Prop := a.l.length ≤ 1048576
def RI.fit (a : RI) : Prop := a.l.length ≤ 9223372036854775807
theorem szRI_ok : SzOk szRI RI.ok := fun a n h => szl_ok a.l n h

theorem szAtom_sat (a : RI) (n : Int) (h : -1 ≤ n ∧ n ≤ 1048576) (h1 : a.fit) : Sat Try.prog 77 [lRI a, lInt n] [lInt (szRI a n)] [g2, g1] := by
  refine sat_of_body mixed Try.func77 rfl (by kernel_rfl) (by kernel_rfl) (rs := [.tmp 4]) rfl rfl rfl ?_
  simp -implicitDefEqProofs (maxSteps := 2000000) only [go_sem]
  refine call_of (szIntS_sat a.l n h h1) (by simp -implicitDefEqProofs (maxSteps := 2000000) only [go_sem]) (by kernel_rfl) (by simp -implicitDefEqProofs (maxSteps := 2000000) only [go_sem]) ?_
  simp -implicitDefEqProofs (maxSteps := 2000000) only [go_sem]
  refine cond_split (fun d => ?_) fun d => ?_
  · simp -implicitDefEqProofs (maxSteps := 2000000) only [go_sem]
    have d := of_decide_eq_true d
    have := (szl_ok a.l n h).1
    rw [szRI, show szl a.l n = -1 by omega]
  · simp -implicitDefEqProofs (maxSteps := 2000000) only [go_sem]
    rw [szRI]
theorem mem_getD {α : Type} {l : List α} {k : Nat} (d : α) (h : k < l.length) : l.getD k d ∈ l := by
  rw [List.getD_eq_getElem?_getD, List.getElem?_eq_getElem h]; exact List.getElem_mem h
theorem szAtomS_sat (a : List RI) (n : Int) (h : -1 ≤ n ∧ n ≤ 1048576) (h1 : a.length ≤ 9223372036854775807) (h2 : ∀ x ∈ a, x.fit) : Sat Try.prog 49 [lRIs a, lInt n] [lInt (szAll szRI a n)] [g1, g1] := by
  refine sat_of_body mixed Try.func49 rfl (by kernel_rfl) (by kernel_rfl) (rs := [.tmp 4]) rfl rfl rfl ?_
  simp -implicitDefEqProofs (maxSteps := 2000000) only [go_sem]
  rw [IntWalk.i64_in _ (by omega)]
  refine cond_split (fun d => ?_) fun d => ?_
  · simp -implicitDefEqProofs (maxSteps := 2000000) only [go_sem]
    have d := of_decide_eq_true d
    rw [szAll, if_pos d]
  have d := of_decide_eq_false d
  simp -implicitDefEqProofs (maxSteps := 2000000) only [go_sem]
  refine awp_loop (Nat × Int) (fun x => mkSt [(0, .one (.im 2 (ris 0 a))), (1, .sc (.int .i64 x.2)), (5, .sc (.int .i64 x.1))] [] [] 1000)
    (fun x => x.1 ≤ a.length ∧ (-1 ≤ x.2 ∧ x.2 ≤ 1048576) ∧ szF szRI (a.drop x.1) x.2 = szAll szRI a n) (fun x => a.length - x.1) (0, n - a.length) ⟨by simp, by simp; omega, by rw [szAll, if_neg d]; rfl⟩ (le_st _ _ [] [] _ rfl (by simp -implicitDefEqProofs (maxSteps := 2000000) only [go_sem] <;> rfl) trivial trivial) ?_
  rintro ⟨k, m⟩ ⟨c1, c2, c3⟩
  simp only at c1 c2 c3
  by_cases c : k < a.length
  · rw [drop_cons default c, szF] at c3
    have e := szRI_ok (a.getD k default) m c2
    simp -implicitDefEqProofs (maxSteps := 2000000) only [go_sem, c]
    refine call_of (szAtom_sat (a.getD k default) m c2 (h2 _ (mem_getD _ c))) (by simp -implicitDefEqProofs (maxSteps := 2000000) only [go_sem]) (by kernel_rfl) (by simp -implicitDefEqProofs (maxSteps := 2000000) only [go_sem]) ?_
    simp -implicitDefEqProofs (maxSteps := 2000000) only [go_sem]
    refine cond_split (fun f => ?_) fun f => ?_
    · simp -implicitDefEqProofs (maxSteps := 2000000) only [go_sem]
      rw [if_pos (of_decide_eq_true f)] at c3
      rw [← c3]
    simp -implicitDefEqProofs (maxSteps := 2000000) only [go_sem]
    rw [if_neg (of_decide_eq_false f)] at c3
    rw [i64_succ (by omega)]
    exact ⟨(k + 1, szRI (a.getD k default) m), ⟨c, e.1, c3⟩, by simp; omega, (le_st _ _ [] [] _ rfl (by simp -implicitDefEqProofs (maxSteps := 2000000) only [go_sem] <;> rfl) trivial trivial)⟩
  · simp -implicitDefEqProofs (maxSteps := 2000000) only [go_sem, c]
    rw [List.drop_of_length_le (by omega), szF] at c3
    rw [c3]
theorem toAtom_sat (a : RI) (h : a.ok) : Sat Try.prog 78 [lRI a] [oRI a] [g2] := by
  refine sat_of_body mixed Try.func78 rfl (by kernel_rfl) (by kernel_rfl) (rs := [.cell 2 52]) rfl rfl rfl ?_
  simp -implicitDefEqProofs (maxSteps := 2000000) only [go_sem]
  refine call_of (toIntS_sat a.l h) (by simp -implicitDefEqProofs (maxSteps := 2000000) only [go_sem]) (by kernel_rfl) (by simp -implicitDefEqProofs (maxSteps := 2000000) only [go_sem]) ?_
  simp -implicitDefEqProofs (maxSteps := 2000000) only [go_sem]
  rfl
theorem toAtomS_sat (a : List RI) (h : a.length ≤ 1048576) (hx : ∀ x ∈ a, x.ok) : Sat Try.prog 52 [lRIs a] [oRIs a] [g1] := by
  refine sat_of_body mixed Try.func52 rfl (by kernel_rfl) (by kernel_rfl) (rs := [.tmp 2]) rfl rfl rfl ?_
  simp -implicitDefEqProofs (maxSteps := 2000000) only [go_sem]
  refine ⟨by omega, ?_⟩
  refine awp_loop (Nat × List RI) (fun x => mkSt [(0, .one (.im 2 (ris 0 a))), (3, .one (.ref 960 2 0 a.length)), (4, .sc (.int .i64 x.1))] [] [(960, (2, ris 999 x.2))] 1000)
    (fun x => x.1 ≤ a.length ∧ x.2.length = a.length ∧ x.2.take x.1 = a.take x.1) (fun x => a.length - x.1) (0, List.replicate a.length ⟨0, []⟩) ⟨by simp, by simp, by simp⟩ (le_st _ _ [⟨960, some 1192, false, 2, _⟩] [] _ rfl (by simp -implicitDefEqProofs (maxSteps := 2000000) only [go_sem] <;> rfl) (by simp -implicitDefEqProofs (maxSteps := 2000000) only [go_sem] <;> rfl) (by simp -implicitDefEqProofs (maxSteps := 2000000) only [go_sem] <;> rfl)) ?_
  rintro ⟨k, b⟩ ⟨h1, h2, h3⟩
  simp only at h1 h2 h3
  by_cases c1 : k < a.length
  · simp -implicitDefEqProofs (maxSteps := 2000000) only [go_sem, c1, h2]
    refine call_of (toAtom_sat (a.getD k default) (hx _ (mem_getD _ c1))) (by simp -implicitDefEqProofs (maxSteps := 2000000) only [go_sem, h2, c1]) (by kernel_rfl) (by simp -implicitDefEqProofs (maxSteps := 2000000) only [go_sem, h2, c1]) ?_
    simp -implicitDefEqProofs (maxSteps := 2000000) only [go_sem, h2, c1]
    rw [i64_succ (by omega)]
    exact ⟨(k + 1, b.set k (a.getD k default)), ⟨c1, by simpa using h2, take_set_snoc default h2 h3 c1⟩, by simp; omega, (le_st _ _ [⟨960, some 960, false, 2, _⟩] [] _ rfl (by simp -implicitDefEqProofs (maxSteps := 2000000) only [go_sem] <;> rfl) (by simp -implicitDefEqProofs (maxSteps := 2000000) only [go_sem] <;> rfl) (by simp -implicitDefEqProofs (maxSteps := 2000000) only [go_sem] <;> rfl))⟩
  · obtain rfl := of_take h2 h3 (by omega)
    simp -implicitDefEqProofs (maxSteps := 2000000) only [go_sem, c1]
    rfl
def szQu (q : Qu) (n : Int) : Int := if szAll szRI q.atoms n < 0 then -1 else szl q.free (szAll szRI q.atoms n)
def Qu.ok (q : Qu) : Prop := (q.atoms.length ≤ 1048576 ∧ ∀ x ∈ q.atoms, x.ok) ∧ q.free.length ≤ 1048576
def Qu.fit (q : Qu) : Prop := (q.atoms.length ≤ 9223372036854775807 ∧ ∀ x ∈ q.atoms, x.fit) ∧ q.free.length ≤ 9223372036854775807
theorem RI.ok.fit {a : RI} (h : a.ok) : a.fit := by unfold RI.ok at h; unfold RI.fit; omega
theorem Qu.ok.fit {q : Qu} (h : q.ok) : q.fit := by
  unfold Qu.ok at h; unfold Qu.fit
  exact ⟨⟨by omega, fun x hx => (h.1.2 x hx).fit⟩, by omega⟩
theorem szQu_ok : SzOk szQu Qu.ok := by
  intro q n h
  unfold szQu Qu.ok
  have h1 := szAll_ok szRI_ok q.atoms n h
  split
  · exact ⟨by omega, fun h => absurd (by omega) h⟩
  · rename_i c
    have h2 := szl_ok q.free _ h1.1
    exact ⟨h2.1, fun h3 => ⟨h1.2 c, h2.2 h3⟩⟩
theorem szQuery_sat (q : Qu) (n : Int) (h : -1 ≤ n ∧ n ≤ 1048576) (hq : q.fit) : Sat Try.prog 21 [lQu q, lInt n] [lInt (szQu q n)] [g3, g1] := by
  refine sat_of_body mixed Try.func21 rfl (by kernel_rfl) (by kernel_rfl) (rs := [.tmp 4]) rfl rfl rfl ?_
  simp -implicitDefEqProofs (maxSteps := 2000000) only [go_sem]
  have h1 := (szAll_ok szRI_ok q.atoms n h).1
  refine call_of (szAtomS_sat q.atoms n h hq.1.1 hq.1.2) (by simp -implicitDefEqProofs (maxSteps := 2000000) only [go_sem]) (by kernel_rfl) (by simp -implicitDefEqProofs (maxSteps := 2000000) only [go_sem]) ?_
  simp -implicitDefEqProofs (maxSteps := 2000000) only [go_sem]
  refine cond_split (fun d => ?_) fun d => ?_
  · simp -implicitDefEqProofs (maxSteps := 2000000) only [go_sem]
    rw [szQu, if_pos (of_decide_eq_true d)]
  simp -implicitDefEqProofs (maxSteps := 2000000) only [go_sem]
  refine call_of (szIntS_sat q.free (szAll szRI q.atoms n) h1 hq.2) (by simp -implicitDefEqProofs (maxSteps := 2000000) only [go_sem]) (by kernel_rfl) (by simp -implicitDefEqProofs (maxSteps := 2000000) only [go_sem]) ?_
  simp -implicitDefEqProofs (maxSteps := 2000000) only [go_sem]
  rw [szQu, if_neg (of_decide_eq_false d)]
  refine cond_split (fun f => ?_) fun f => ?_
  · simp -implicitDefEqProofs (maxSteps := 2000000) only [go_sem]
    have := (szl_ok q.free _ h1).1
    have f := of_decide_eq_true f
    rw [show szl q.free (szAll szRI q.atoms n) = -1 by omega]
  · simp -implicitDefEqProofs (maxSteps := 2000000) only [go_sem]
theorem toQuery_sat (q : Qu) (hq : q.ok) : Sat Try.prog 23 [lQu q] [oQu q] [g3] := by
  refine sat_of_body mixed Try.func23 rfl (by kernel_rfl) (by kernel_rfl) (rs := [.cell 2 28]) rfl rfl rfl ?_
  simp -implicitDefEqProofs (maxSteps := 2000000) only [go_sem]
  refine call_of (toAtomS_sat q.atoms hq.1.1 hq.1.2) (by simp -implicitDefEqProofs (maxSteps := 2000000) only [go_sem]) (by kernel_rfl) (by simp -implicitDefEqProofs (maxSteps := 2000000) only [go_sem]) ?_
  simp -implicitDefEqProofs (maxSteps := 2000000) only [go_sem]
  refine call_of (toIntS_sat q.free hq.2) (by simp -implicitDefEqProofs (maxSteps := 2000000) only [go_sem]) (by kernel_rfl) (by simp -implicitDefEqProofs (maxSteps := 2000000) only [go_sem]) ?_
  simp -implicitDefEqProofs (maxSteps := 2000000) only [go_sem]
  rfl
theorem RI.eq_iff (a b : RI) : decide (a = b) = (decide (a.r = b.r) && decide (a.l = b.l)) := by cases a; cases b; simp
theorem Qu.eq_iff (a b : Qu) : decide (a = b) = (decide (a.vc = b.vc) && (decide (a.atoms = b.atoms) && decide (a.free = b.free))) := by cases a; cases b; simp
theorem eqAtom_sat (a b : RI) (h : a.fit) : Sat Try.prog 80 [lRI a, lRI b] [lBool (decide (a = b))] [g2, g2] := by
  refine sat_of_body mixed Try.func80 rfl (by kernel_rfl) (by kernel_rfl) (rs := [.tmp 4]) rfl rfl rfl ?_
  rw [RI.eq_iff]
  simp -implicitDefEqProofs (maxSteps := 2000000) only [go_sem]
  refine cond_split (fun d => ?_) fun d => ?_
  · have d : ¬ a.r = b.r := by simpa using d
    simp -implicitDefEqProofs (maxSteps := 2000000) only [go_sem, d, decide_false]
  have d : a.r = b.r := by simpa using d
  simp -implicitDefEqProofs (maxSteps := 2000000) only [go_sem, d, decide_true]
  refine call_of (eqIntS_sat a.l b.l h) (by simp -implicitDefEqProofs (maxSteps := 2000000) only [go_sem]) (by kernel_rfl) (by simp -implicitDefEqProofs (maxSteps := 2000000) only [go_sem]) ?_
  simp -implicitDefEqProofs (maxSteps := 2000000) only [go_sem]
  refine cond_split (fun e => ?_) fun e => ?_
  · have e : decide (a.l = b.l) = false := by simpa using e
    simp -implicitDefEqProofs (maxSteps := 2000000) only [go_sem, e]
  · have e : decide (a.l = b.l) = true := by simpa using e
    simp -implicitDefEqProofs (maxSteps := 2000000) only [go_sem, e]
theorem list_step {α : Type} (d : α) {a b : List α} {k : Nat} (h1 : k < a.length) (h2 : k < b.length) (h : a.take k = b.take k) (e : a.getD k d = b.getD k d) : a.take (k + 1) = b.take (k + 1) := by
  rw [take_snoc d h1, take_snoc d h2, h, e]
theorem list_ne {α : Type} {d : α} {a b : List α} {k : Nat} (e : a.getD k d ≠ b.getD k d) : a ≠ b := fun h => e (by rw [h])
theorem eqAtomS_sat (a b : List RI) (ha : a.length ≤ 9223372036854775807) (h : ∀ x ∈ a, x.fit) : Sat Try.prog 56 [lRIs a, lRIs b] [lBool (decide (a = b))] [g1, g1] := by
  refine sat_of_body mixed Try.func56 rfl (by kernel_rfl) (by kernel_rfl) (rs := [.tmp 4]) rfl rfl rfl ?_
  simp -implicitDefEqProofs (maxSteps := 2000000) only [go_sem]
  refine cond_split (fun d => ?_) fun d => ?_
  · simp -implicitDefEqProofs (maxSteps := 2000000) only [go_sem]
    have d : ¬ (a.length : Int) = b.length := by simpa using d
    rw [decide_eq_false (fun h => d (by rw [h]))]
  have d : a.length = b.length := cast_ne d
  simp -implicitDefEqProofs (maxSteps := 2000000) only [go_sem]
  refine awp_loop Nat (fun k => mkSt [(0, .one (.im 2 (ris 0 a))), (1, .one (.im 2 (ris 0 b))), (5, .sc (.int .i64 k))] [] [] 1000)
    (fun k => k ≤ a.length ∧ a.take k = b.take k) (fun k => a.length - k) 0 ⟨by omega, rfl⟩ (le_st _ _ [] [] _ rfl (by simp -implicitDefEqProofs (maxSteps := 2000000) only [go_sem] <;> rfl) trivial trivial) ?_
  rintro k ⟨h1, h2⟩
  by_cases c1 : k < a.length
  · have c2 : k < b.length := by omega
    simp -implicitDefEqProofs (maxSteps := 2000000) only [go_sem, c1, c2]
    refine call_of (eqAtom_sat (a.getD k default) (b.getD k default) (h _ (mem_getD _ c1))) (by simp -implicitDefEqProofs (maxSteps := 2000000) only [go_sem]) (by kernel_rfl) (by simp -implicitDefEqProofs (maxSteps := 2000000) only [go_sem]) ?_
    simp -implicitDefEqProofs (maxSteps := 2000000) only [go_sem]
    refine cond_split (fun e => ?_) fun e => ?_
    · simp -implicitDefEqProofs (maxSteps := 2000000) only [go_sem]
      rw [decide_eq_false (list_ne (d := default) (k := k) (by simpa using e))]
    simp -implicitDefEqProofs (maxSteps := 2000000) only [go_sem]
    rw [i64_succ (by omega)]
    exact ⟨k + 1, ⟨c1, list_step default c1 c2 h2 (by simpa using e)⟩, by omega, (le_st _ _ [] [] _ rfl (by simp -implicitDefEqProofs (maxSteps := 2000000) only [go_sem] <;> rfl) trivial trivial)⟩
  · simp -implicitDefEqProofs (maxSteps := 2000000) only [go_sem, c1]
    rw [List.take_of_length_le (by omega), List.take_of_length_le (by omega)] at h2
    rw [decide_eq_true h2]
theorem eqQuery_sat (a b : Qu) (h : a.fit) : Sat Try.prog 25 [lQu a, lQu b] [lBool (decide (a = b))] [g3, g3] := by
  refine sat_of_body mixed Try.func25 rfl (by kernel_rfl) (by kernel_rfl) (rs := [.tmp 4]) rfl rfl rfl ?_
  rw [Qu.eq_iff]
  simp -implicitDefEqProofs (maxSteps := 2000000) only [go_sem]
  refine cond_split (fun d => ?_) fun d => ?_
  · have d : ¬ a.vc = b.vc := by simpa using d
    simp -implicitDefEqProofs (maxSteps := 2000000) only [go_sem, d, decide_false]
  have d : a.vc = b.vc := by simpa using d
  simp -implicitDefEqProofs (maxSteps := 2000000) only [go_sem, d, decide_true]
  refine call_of (eqAtomS_sat a.atoms b.atoms h.1.1 h.1.2) (by simp -implicitDefEqProofs (maxSteps := 2000000) only [go_sem]) (by kernel_rfl) (by simp -implicitDefEqProofs (maxSteps := 2000000) only [go_sem]) ?_
  simp -implicitDefEqProofs (maxSteps := 2000000) only [go_sem]
  refine cond_split (fun e => ?_) fun e => ?_
  · have e : decide (a.atoms = b.atoms) = false := by simpa using e
    simp -implicitDefEqProofs (maxSteps := 2000000) only [go_sem, e]
  have e : decide (a.atoms = b.atoms) = true := by simpa using e
  simp -implicitDefEqProofs (maxSteps := 2000000) only [go_sem, e]
  refine call_of (eqIntS_sat a.free b.free h.2) (by simp -implicitDefEqProofs (maxSteps := 2000000) only [go_sem]) (by kernel_rfl) (by simp -implicitDefEqProofs (maxSteps := 2000000) only [go_sem]) ?_
  simp -implicitDefEqProofs (maxSteps := 2000000) only [go_sem]
  refine cond_split (fun f => ?_) fun f => ?_
  · have f : decide (a.free = b.free) = false := by simpa using f
    simp -implicitDefEqProofs (maxSteps := 2000000) only [go_sem, f]
  · have f : decide (a.free = b.free) = true := by simpa using f
    simp -implicitDefEqProofs (maxSteps := 2000000) only [go_sem, f]
end Go.Proofs.Ytedciihjgbkjgaa.A


/- WHAT A LAW READS: reading into structures of mine. Conditions: none. -/
namespace Go.Proofs.Ytedciihjgbkjgaa.A
open Go Go.ChangeShapes Go.WideShapes Go.ChangeAt Go.RowKit
set_option linter.unusedVariables false
variable {H : Type} {enc : TypeId × Value → H} {P : Program} {W : World}
theorem okWide_slice_ne {t e : TypeId} (ht : P.underlying t = some (.slice e)) {r : Reach} {base : Nat} {v : Value} (h : Value.okWide P W r base t v) : ∀ cs, v ≠ .agg cs := by
  obtain ⟨a, l, c, rfl⟩ := okWide_slice ht h
  intro cs h
  cases h
theorem readsC_map {t : TypeId} {α β : Type} {row : α → List Cell} {row' : β → List Cell} {g : α → Prop} {g' : β → Prop} (h : ReadsC enc P W t row g) (f : α → β) (h1 : ∀ a, row' (f a) = row a) (h2 : ∀ a, g a → g' (f a)) : ReadsC enc P W t row' g' := by
  intro n cs x hx
  obtain ⟨a, ha, hr⟩ := h n cs x hx
  exact ⟨f a, h2 a ha, by rw [h1]; exact hr⟩
theorem readsL_ints {t e : TypeId} (ht : P.underlying t = some (.slice e)) (hc : P.cellsOf e = 1) (he : P.underlying e = some (.int .i64)) : ReadsL enc P W t (fun a : List Int => Leaf.im 1 (ints a)) (fun a => a.length ≤ 9223372036854775807) := by
  intro n v x h
  obtain ⟨l, h1, h2⟩ := readsL_slice ht hc (by omega) (fun _ => rfl) (readsC_int he) n v x h
  exact ⟨l, h1.1, fun k => by show LeafRep W (lab0 W) k (Leaf.im 1 (ints l)) v; rw [ints_eq]; exact h2 k⟩
theorem readsL_rows {t e : TypeId} {w : Nat} {α : Type} {row : α → List Cell} {g : α → Prop} (h : ReadsC enc P W e row g) (ht : P.underlying t = some (.slice e)) (hc : P.cellsOf e = w) (hw : 0 < w) (hrow : ∀ a, (row a).length = w) (rows : List α → Rows) (hr : ∀ l, rows l = l.map row) : ReadsL enc P W t (fun l : List α => Leaf.im w (rows l)) (fun l => l.length ≤ 9223372036854775807 ∧ ∀ a ∈ l, g a) := by
  intro n v x hx
  obtain ⟨l, h1, h2⟩ := readsL_slice ht hc hw hrow h n v x hx
  exact ⟨l, h1, fun k => by show LeafRep W (lab0 W) k (Leaf.im w (rows l)) v; rw [hr]; exact h2 k⟩
end Go.Proofs.Ytedciihjgbkjgaa.A


/- MARKS AND MEMBERS: lists of numbers that a law writes and reads back. Conditions: none. -/
namespace Go.Proofs.Ytedciihjgbkjgaa.A
open Go
set_option linter.unusedSimpArgs false
set_option linter.unusedVariables false
set_option maxRecDepth 100000

theorem i64_plus {k : Int} {i : Nat} (h0 : 0 ≤ k) (h : k + i < 9223372036854775807) : IntKind.i64.wrap (k + i + 1) = k + ((i + 1 : Nat) : Int) := by
  rw [IntWalk.i64_in _ (by omega)]; omega
theorem plus0 (k : Int) : k + ((0 : Nat) : Int) = k := by simp
attribute [go_sem] Int.add_zero Int.ofNat_zero
/-- The numbers from k on. -/
def cnt : Int → Nat → List Int
  | _, 0 => []
  | k, n + 1 => k :: cnt (k + 1) n
theorem cnt_length : ∀ (k : Int) (n : Nat), (cnt k n).length = n
  | _, 0 => rfl
  | k, n + 1 => by rw [cnt, List.length_cons, cnt_length]
theorem cnt_get : ∀ {k : Int} {n i : Nat}, i < n → (cnt k n).getD i 0 = k + i
  | k, n + 1, 0, _ => by simp [cnt]
  | k, n + 1, i + 1, h => by
    rw [cnt, List.getD_cons_succ, cnt_get (by omega)]; omega
theorem cnt_full (k : Int) (n : Nat) : List.take n (cnt k n) = cnt k n := List.take_of_length_le (by rw [cnt_length]; omega)
attribute [go_sem] cnt_full
theorem markIntS_sat (a : List Int) (k : Int) (h : 0 ≤ k ∧ k + a.length ≤ 9223372036854775807) : Sat Try.prog 59 [oInts a, lInt k] [lInt (k + a.length)] [oInts (cnt k a.length), g1] := by
  refine sat_of_body mixed Try.func59 rfl (by kernel_rfl) (by kernel_rfl) (rs := [.tmp 4]) rfl rfl rfl ?_
  simp -implicitDefEqProofs (maxSteps := 2000000) only [go_sem]
  refine awp_loop (Nat × List Int) (fun x => mkSt [(0, .one (.ref 0 1 0 a.length)), (1, .sc (.int .i64 (k + x.1))), (5, .sc (.int .i64 x.1))] [] [(0, (1, ints x.2))] 1000)
    (fun x => x.1 ≤ a.length ∧ x.2.length = a.length ∧ x.2.take x.1 = (cnt k a.length).take x.1) (fun x => a.length - x.1) (0, a) ⟨by simp, rfl, rfl⟩ (le_st _ _ [⟨0, some 0, false, 1, _⟩] [] _ rfl (by simp -implicitDefEqProofs (maxSteps := 2000000) only [go_sem] <;> rfl) (by simp -implicitDefEqProofs (maxSteps := 2000000) only [go_sem] <;> rfl) (by simp -implicitDefEqProofs (maxSteps := 2000000) only [go_sem] <;> rfl)) ?_
  rintro ⟨i, b⟩ ⟨h1, h2, h3⟩
  simp only at h1 h2 h3
  by_cases c1 : i < a.length
  · simp -implicitDefEqProofs (maxSteps := 2000000) only [go_sem, c1, h2, List.length_take, Nat.min_self]
    rw [i64_succ (by omega), i64_plus h.1 (by omega)]
    refine ⟨(i + 1, b.set i (k + i)), ⟨c1, by simpa using h2, ?_⟩, by simp; omega, (le_st _ _ [⟨0, some 0, false, 1, _⟩] [] _ rfl (by simp -implicitDefEqProofs (maxSteps := 2000000) only [go_sem] <;> rfl) (by simp -implicitDefEqProofs (maxSteps := 2000000) only [go_sem] <;> rfl) (by simp -implicitDefEqProofs (maxSteps := 2000000) only [go_sem] <;> rfl))⟩
    have h4 := take_set_snoc (a := cnt k a.length) 0 (by rw [cnt_length]; exact h2) h3 (by rw [cnt_length]; exact c1)
    rwa [cnt_get c1] at h4
  · have hb : b = cnt k a.length := of_take (by rw [cnt_length]; exact h2) h3 (by rw [cnt_length]; omega)
    simp -implicitDefEqProofs (maxSteps := 2000000) only [go_sem, c1, h2, List.length_take, Nat.min_self]
    obtain rfl : i = a.length := by omega
    rw [hb]; exact ⟨rfl, rfl, rfl⟩
theorem heldIntS_sat (n : Nat) (k : Int) (h : 0 ≤ k ∧ k + n ≤ 9223372036854775807) : Sat Try.prog 61 [lInts (cnt k n), lInt k] [lInt (k + n)] [g1, g1] := by
  refine sat_of_body mixed Try.func61 rfl (by kernel_rfl) (by kernel_rfl) (rs := [.tmp 4]) rfl rfl rfl ?_
  simp -implicitDefEqProofs (maxSteps := 2000000) only [go_sem]
  refine awp_loop Nat (fun i => mkSt [(0, .one (.im 1 (ints (cnt k n)))), (1, .sc (.int .i64 (k + i))), (5, .sc (.int .i64 i))] [] [] 1000)
    (fun i => i ≤ n) (fun i => n - i) 0 (by omega) (le_st _ _ [] [] _ rfl (by simp -implicitDefEqProofs (maxSteps := 2000000) only [go_sem] <;> rfl) trivial trivial) ?_
  rintro i h1
  by_cases c1 : i < n
  · simp -implicitDefEqProofs (maxSteps := 2000000) only [go_sem, c1, cnt_length]
    rw [cnt_get c1]
    simp -implicitDefEqProofs (maxSteps := 2000000) only [go_sem]
    rw [i64_succ (by omega), i64_plus h.1 (by omega)]
    exact ⟨i + 1, c1, by omega, (le_st _ _ [] [] _ rfl (by simp -implicitDefEqProofs (maxSteps := 2000000) only [go_sem] <;> rfl) trivial trivial)⟩
  · obtain rfl : i = n := by omega
    simp -implicitDefEqProofs (maxSteps := 2000000) only [go_sem, c1, cnt_length]
/-- Where a number stands in a list, or -1. -/
def posI (x : Int) : List Int → Nat → Int
  | [], _ => -1
  | a :: l, k => if a = x then k else posI x l (k + 1)
theorem posI_mem (x : Int) : ∀ (l : List Int) (k : Nat), decide (0 ≤ posI x l k) = decide (x ∈ l)
  | [], k => by simp [posI]
  | a :: l, k => by
    unfold posI
    split
    · rename_i h; subst h; simp
    · rename_i h
      rw [posI_mem x l (k + 1)]
      have : ¬ x = a := fun e => h e.symm
      simp [this]
theorem l7Has_sat (a : List Int) (x : Int) (ha : a.length ≤ 9223372036854775807) : Sat Try.prog 48 [lInts a, lInt x] [lBool (decide (x ∈ a))] [g1, g1] := by
  refine sat_of_body mixed Try.func48 rfl (by kernel_rfl) (by kernel_rfl) (rs := [.tmp 4]) rfl rfl rfl ?_
  simp -implicitDefEqProofs (maxSteps := 2000000) only [go_sem]
  refine awp_loop Nat (fun k => mkSt [(0, .one (.im 1 (ints a))), (1, .sc (.int .i64 x)), (5, .sc (.int .i64 k))] [] [] 1000)
    (fun k => k ≤ a.length ∧ decide (x ∈ a.drop k) = decide (x ∈ a)) (fun k => a.length - k) 0 ⟨by omega, rfl⟩ (le_st _ _ [] [] _ rfl (by simp -implicitDefEqProofs (maxSteps := 2000000) only [go_sem] <;> rfl) trivial trivial) ?_
  rintro k ⟨h1, h2⟩
  by_cases c1 : k < a.length
  · rw [drop_cons 0 c1] at h2
    simp -implicitDefEqProofs (maxSteps := 2000000) only [go_sem, c1]
    refine cond_split (fun d => ?_) fun d => ?_
    · simp -implicitDefEqProofs (maxSteps := 2000000) only [go_sem]
      rw [← h2, decide_eq_true]
      have d : a.getD k 0 = x := by simpa using d
      rw [d]; simp
    simp -implicitDefEqProofs (maxSteps := 2000000) only [go_sem]
    rw [i64_succ (by omega)]
    refine ⟨k + 1, ⟨c1, ?_⟩, by omega, (le_st _ _ [] [] _ rfl (by simp -implicitDefEqProofs (maxSteps := 2000000) only [go_sem] <;> rfl) trivial trivial)⟩
    rw [← h2]
    have d : ¬ x = a.getD k 0 := fun e => by rw [e] at d; simp at d
    rw [Bool.eq_iff_iff, decide_eq_true_iff, decide_eq_true_iff, List.mem_cons]
    exact ⟨fun h => .inr h, fun h => h.resolve_left d⟩
  · simp -implicitDefEqProofs (maxSteps := 2000000) only [go_sem, c1]
    rw [List.drop_of_length_le (by omega)] at h2
    rw [← h2]
    rfl
theorem slicesIndex_sat (a : List Int) (x : Int) (ha : a.length ≤ 9223372036854775807) : Sat Try.prog 76 [lInts a, lInt x] [lInt (posI x a 0)] [g1, g1] := by
  refine sat_of_body mixed Try.func76 rfl (by kernel_rfl) (by kernel_rfl) (rs := [.tmp 4]) rfl rfl rfl ?_
  simp -implicitDefEqProofs (maxSteps := 2000000) only [go_sem]
  refine awp_loop Nat (fun k => mkSt [(0, .one (.im 1 (ints a))), (1, .sc (.int .i64 x)), (7, .sc (.int .i64 a.length)), (8, .sc (.int .i64 k))] [] [] 1000)
    (fun k => k ≤ a.length ∧ posI x (a.drop k) k = posI x a 0) (fun k => a.length - k) 0 ⟨by omega, rfl⟩ (le_st _ _ [] [] _ rfl (by simp -implicitDefEqProofs (maxSteps := 2000000) only [go_sem] <;> rfl) trivial trivial) ?_
  rintro k ⟨h1, h2⟩
  by_cases c1 : k < a.length
  · rw [drop_cons 0 c1, posI] at h2
    simp -implicitDefEqProofs (maxSteps := 2000000) only [go_sem, c1]
    refine cond_split (fun d => ?_) fun d => ?_
    · simp -implicitDefEqProofs (maxSteps := 2000000) only [go_sem]
      have d : a.getD k 0 = x := by have d := eq_of_beq d; exact d.symm
      rw [if_pos d] at h2
      rw [← h2]
    simp -implicitDefEqProofs (maxSteps := 2000000) only [go_sem]
    rw [if_neg (by intro e; rw [e] at d; simp at d)] at h2
    rw [i64_succ (by omega)]
    exact ⟨k + 1, ⟨c1, h2⟩, by omega, (le_st _ _ [] [] _ rfl (by simp -implicitDefEqProofs (maxSteps := 2000000) only [go_sem] <;> rfl) trivial trivial)⟩
  · simp -implicitDefEqProofs (maxSteps := 2000000) only [go_sem, c1]
    rw [List.drop_of_length_le (by omega), posI] at h2
    rw [← h2]
theorem slicesContains_sat (a : List Int) (x : Int) (ha : a.length ≤ 9223372036854775807) : Sat Try.prog 47 [lInts a, lInt x] [lBool (decide (x ∈ a))] [g1, g1] := by
  refine sat_of_body mixed Try.func47 rfl (by kernel_rfl) (by kernel_rfl) (rs := [.tmp 4]) rfl rfl rfl ?_
  simp -implicitDefEqProofs (maxSteps := 2000000) only [go_sem]
  refine call_of (slicesIndex_sat a x ha) (by simp -implicitDefEqProofs (maxSteps := 2000000) only [go_sem]) (by kernel_rfl) (by simp -implicitDefEqProofs (maxSteps := 2000000) only [go_sem]) ?_
  simp -implicitDefEqProofs (maxSteps := 2000000) only [go_sem]
  rw [posI_mem]
end Go.Proofs.Ytedciihjgbkjgaa.A


/- MARKS OF ATOMS AND QUERIES. Conditions: none. -/
namespace Go.Proofs.Ytedciihjgbkjgaa.A
open Go
set_option linter.unusedSimpArgs false
set_option linter.unusedVariables false
set_option maxRecDepth 100000

/-- How many numbers stand in rows. -/
def numRI : List RI → Nat
  | [] => 0
  | a :: l => 1 + a.l.length + numRI l
theorem numRI_nil : numRI [] = 0 := rfl
attribute [go_sem] numRI_nil
def markRI : List RI → Int → List RI
  | [], _ => []
  | a :: l, k => ⟨k, cnt (k + 1) a.l.length⟩ :: markRI l (k + 1 + a.l.length)
theorem markRI_length : ∀ (a : List RI) (k : Int), (markRI a k).length = a.length
  | [], _ => rfl
  | a :: l, k => by rw [markRI, List.length_cons, List.length_cons, markRI_length]
theorem numRI_take {a : List RI} {i : Nat} (h : i < a.length) : numRI (a.take (i + 1)) = numRI (a.take i) + 1 + (a.getD i default).l.length := by
  induction a generalizing i with
  | nil => simp at h
  | cons x a ih =>
    cases i with
    | zero => simp [numRI]
    | succ i =>
      have := ih (i := i) (by simpa using h)
      rw [List.take_succ_cons, List.take_succ_cons, numRI, numRI, this, List.getD_cons_succ]; omega
theorem numRI_le : ∀ {a : List RI} (i : Nat), numRI (a.take i) ≤ numRI a
  | [], i => by simp [numRI]
  | x :: a, 0 => by simp [numRI]
  | x :: a, i + 1 => by
    rw [List.take_succ_cons, numRI, numRI]
    have := numRI_le (a := a) i
    omega
theorem numRI_ok : ∀ {a : List RI}, (∀ x ∈ a, x.ok) → numRI a ≤ a.length * 1048577
  | [], _ => by simp [numRI]
  | x :: a, h => by
    have h1 := numRI_ok (a := a) fun y hy => h y (List.mem_cons_of_mem _ hy)
    have h2 := h x (List.mem_cons_self ..)
    unfold RI.ok at h2
    rw [numRI, List.length_cons]; omega
theorem markRI_get : ∀ {a : List RI} {k : Int} {i : Nat}, i < a.length → (markRI a k).getD i default = ⟨k + numRI (a.take i), cnt (k + numRI (a.take i) + 1) (a.getD i default).l.length⟩
  | x :: a, k, 0, _ => by simp [markRI, numRI]
  | x :: a, k, i + 1, h => by
    rw [markRI, List.getD_cons_succ, markRI_get (by simpa using h), List.getD_cons_succ, List.take_succ_cons, numRI]
    have e : k + 1 + (x.l.length : Int) + (numRI (a.take i) : Int) = k + ((1 + x.l.length + numRI (a.take i) : Nat) : Int) := by omega
    rw [e]
theorem drop_get {α : Type} {d : α} {a b : List α} {i : Nat} (hl : b.length = a.length) (h : b.drop i = a.drop i) (hi : i < a.length) : b.getD i d = a.getD i d := by
  rw [drop_cons d (by omega), drop_cons d hi] at h
  exact (List.cons.inj h).1
theorem drop_set {α : Type} {a b : List α} {i : Nat} (x : α) (h : b.drop i = a.drop i) : (b.set i x).drop (i + 1) = a.drop (i + 1) := by
  rw [List.drop_set_of_lt (by omega), ← List.drop_drop, ← List.drop_drop, h]
theorem take_set_to {α : Type} {a b : List α} {i : Nat} {x d : α} (hl : b.length = a.length) (h : b.take i = a.take i) (hi : i < a.length) (hx : a.getD i d = x) : (b.set i x).take (i + 1) = a.take (i + 1) := by
  rw [← hx]; exact take_set_snoc d hl h hi
theorem markAtomS_sat (a : List RI) (k : Int) (h : 0 ≤ k ∧ k + numRI a ≤ 9223372036854775807) (hl : a.length ≤ 9223372036854775807) : Sat Try.prog 58 [oRIs a, lInt k] [lInt (k + numRI a)] [oRIs (markRI a k), g1] := by
  refine sat_of_body mixed Try.func58 rfl (by kernel_rfl) (by kernel_rfl) (rs := [.tmp 4]) rfl rfl rfl ?_
  simp -implicitDefEqProofs (maxSteps := 2000000) only [go_sem]
  refine awp_loop (Nat × List RI) (fun x => mkSt [(0, .one (.ref 0 2 0 a.length)), (1, .sc (.int .i64 (k + numRI (a.take x.1)))), (5, .sc (.int .i64 x.1))] [] [(0, (2, ris 999 x.2))] 1000)
    (fun x => x.1 ≤ a.length ∧ x.2.length = a.length ∧ x.2.take x.1 = (markRI a k).take x.1 ∧ x.2.drop x.1 = a.drop x.1) (fun x => a.length - x.1) (0, a) ⟨by simp, rfl, rfl, rfl⟩ (le_st _ _ [⟨0, some 0, false, 2, _⟩] [] _ rfl (by simp -implicitDefEqProofs (maxSteps := 2000000) only [go_sem] <;> rfl) (by simp -implicitDefEqProofs (maxSteps := 2000000) only [go_sem] <;> rfl) (by simp -implicitDefEqProofs (maxSteps := 2000000) only [go_sem] <;> rfl)) ?_
  rintro ⟨i, b⟩ ⟨h1, h2, h3, h4⟩
  simp only at h1 h2 h3 h4
  by_cases c1 : i < a.length
  · have n1 := numRI_take c1
    have n2 := numRI_le (a := a) (i + 1)
    have e1 := drop_get (d := default) h2 h4 c1
    simp -implicitDefEqProofs (maxSteps := 2000000) only [go_sem, c1, h2, List.length_take, Nat.min_self]
    rw [IntWalk.i64_in _ (by omega)]
    refine call_of (markIntS_sat (b.getD i default).l (k + numRI (a.take i) + 1) (by rw [e1]; omega)) (by simp -implicitDefEqProofs (maxSteps := 2000000) only [go_sem, c1, h2, List.length_take, Nat.min_self]) (by kernel_rfl) (by simp -implicitDefEqProofs (maxSteps := 2000000) only [go_sem, c1, h2, List.length_take, Nat.min_self]) ?_
    simp -implicitDefEqProofs (maxSteps := 2000000) only [go_sem, c1, h2, List.length_take, Nat.min_self]
    rw [i64_succ (by omega), show k + (numRI (a.take i) : Int) + 1 + ((b.getD i default).l.length : Int) = k + (numRI (a.take (i + 1)) : Int) by rw [n1, e1]; omega]
    refine ⟨(i + 1, b.set i ⟨k + numRI (a.take i), cnt (k + numRI (a.take i) + 1) (b.getD i default).l.length⟩), ⟨c1, by simpa using h2, ?_, drop_set _ h4⟩, by simp; omega, (le_st _ _ [⟨0, some 0, false, 2, _⟩] [] _ rfl (by simp -implicitDefEqProofs (maxSteps := 2000000) only [go_sem, c1, h2] <;> rfl) (by simp -implicitDefEqProofs (maxSteps := 2000000) only [go_sem, c1, h2] <;> rfl) (by simp -implicitDefEqProofs (maxSteps := 2000000) only [go_sem, c1, h2] <;> rfl))⟩
    exact take_set_to (d := default) (by rw [markRI_length]; exact h2) h3 (by rw [markRI_length]; exact c1) (by rw [markRI_get c1, e1])
  · have hb : b = markRI a k := of_take (by rw [markRI_length]; exact h2) h3 (by rw [markRI_length]; omega)
    simp -implicitDefEqProofs (maxSteps := 2000000) only [go_sem, c1, h2, List.length_take, Nat.min_self]
    rw [List.take_of_length_le (by omega), hb]
    exact ⟨rfl, rfl, rfl⟩
theorem heldAtomS_sat (a : List RI) (k : Int) (h : 0 ≤ k ∧ k + numRI a ≤ 9223372036854775807) (hl : a.length ≤ 9223372036854775807) : Sat Try.prog 60 [lRIs (markRI a k), lInt k] [lInt (k + numRI a)] [g1, g1] := by
  refine sat_of_body mixed Try.func60 rfl (by kernel_rfl) (by kernel_rfl) (rs := [.tmp 4]) rfl rfl rfl ?_
  simp -implicitDefEqProofs (maxSteps := 2000000) only [go_sem]
  refine awp_loop Nat (fun i => mkSt [(0, .one (.im 2 (ris 0 (markRI a k)))), (1, .sc (.int .i64 (k + numRI (a.take i)))), (5, .sc (.int .i64 i))] [] [] 1000)
    (fun i => i ≤ a.length) (fun i => a.length - i) 0 (by omega) (le_st _ _ [] [] _ rfl (by simp -implicitDefEqProofs (maxSteps := 2000000) only [go_sem] <;> rfl) trivial trivial) ?_
  rintro i h1
  by_cases c1 : i < a.length
  · have n1 := numRI_take c1
    have n2 := numRI_le (a := a) (i + 1)
    have e1 := markRI_get (k := k) c1
    simp -implicitDefEqProofs (maxSteps := 2000000) only [go_sem, c1, markRI_length, e1]
    rw [IntWalk.i64_in _ (by omega)]
    refine call_of (heldIntS_sat (a.getD i default).l.length (k + numRI (a.take i) + 1) (by omega)) (by simp -implicitDefEqProofs (maxSteps := 2000000) only [go_sem, c1, markRI_length, e1]) (by kernel_rfl) (by simp -implicitDefEqProofs (maxSteps := 2000000) only [go_sem, c1, markRI_length, e1]) ?_
    simp -implicitDefEqProofs (maxSteps := 2000000) only [go_sem, c1, markRI_length, e1]
    refine cond_split (fun d => ?_) fun d => ?_
    · have := of_decide_eq_true d; omega
    simp -implicitDefEqProofs (maxSteps := 2000000) only [go_sem]
    rw [i64_succ (by omega), show k + (numRI (a.take i) : Int) + 1 + ((a.getD i default).l.length : Int) = k + (numRI (a.take (i + 1)) : Int) by rw [n1]; omega]
    refine ⟨i + 1, c1, by omega, (le_st _ _ [] [] _ rfl (by simp -implicitDefEqProofs (maxSteps := 2000000) only [go_sem] <;> rfl) trivial trivial)⟩
  · simp -implicitDefEqProofs (maxSteps := 2000000) only [go_sem, c1, markRI_length]
    rw [List.take_of_length_le (by omega)]
def numQu (q : Qu) : Nat := numRI q.atoms + q.free.length
def markQu (q : Qu) (k : Int) : Qu := ⟨q.vc, markRI q.atoms k, cnt (k + numRI q.atoms) q.free.length⟩
theorem numQu_ok {q : Qu} (h : q.ok) : numQu q ≤ 1048577 * 1048577 := by
  have h1 := numRI_ok h.1.2
  have h2 := h.2
  have h3 := h.1.1
  unfold numQu
  have : q.atoms.length * 1048577 ≤ 1048576 * 1048577 := Nat.mul_le_mul_right _ h3
  omega
theorem markQuery_sat (q : Qu) (k : Int) (h : 0 ≤ k ∧ k + numQu q ≤ 9223372036854775807) (hl : q.fit) : Sat Try.prog 26 [oQu q, lInt k] [lInt (k + numQu q)] [uQu (markQu q k), g1] := by
  refine sat_of_body mixed Try.func26 rfl (by kernel_rfl) (by kernel_rfl) (rs := [.tmp 4]) rfl rfl rfl ?_
  unfold numQu at h ⊢
  simp -implicitDefEqProofs (maxSteps := 2000000) only [go_sem]
  refine call_of (markAtomS_sat q.atoms k (by omega) hl.1.1) (by simp -implicitDefEqProofs (maxSteps := 2000000) only [go_sem]) (by kernel_rfl) (by simp -implicitDefEqProofs (maxSteps := 2000000) only [go_sem]) ?_
  simp -implicitDefEqProofs (maxSteps := 2000000) only [go_sem]
  refine call_of (markIntS_sat q.free (k + numRI q.atoms) (by omega)) (by simp -implicitDefEqProofs (maxSteps := 2000000) only [go_sem]) (by kernel_rfl) (by simp -implicitDefEqProofs (maxSteps := 2000000) only [go_sem]) ?_
  simp -implicitDefEqProofs (maxSteps := 2000000) only [go_sem]
  refine ⟨by rw [Int.natCast_add, Int.add_assoc], ⟨rfl, rfl⟩, rfl⟩
theorem heldQuery_sat (q : Qu) (k : Int) (h : 0 ≤ k ∧ k + numQu q ≤ 9223372036854775807) (hl : q.fit) : Sat Try.prog 27 [lQu (markQu q k), lInt k] [lInt (k + numQu q)] [g3, g1] := by
  refine sat_of_body mixed Try.func27 rfl (by kernel_rfl) (by kernel_rfl) (rs := [.tmp 4]) rfl rfl rfl ?_
  unfold numQu at h ⊢
  unfold markQu
  simp -implicitDefEqProofs (maxSteps := 2000000) only [go_sem]
  refine call_of (heldAtomS_sat q.atoms k (by omega) hl.1.1) (by simp -implicitDefEqProofs (maxSteps := 2000000) only [go_sem]) (by kernel_rfl) (by simp -implicitDefEqProofs (maxSteps := 2000000) only [go_sem]) ?_
  simp -implicitDefEqProofs (maxSteps := 2000000) only [go_sem]
  refine cond_split (fun d => ?_) fun d => ?_
  · have := of_decide_eq_true d; omega
  simp -implicitDefEqProofs (maxSteps := 2000000) only [go_sem]
  refine call_of (heldIntS_sat q.free.length (k + numRI q.atoms) (by omega)) (by simp -implicitDefEqProofs (maxSteps := 2000000) only [go_sem]) (by kernel_rfl) (by simp -implicitDefEqProofs (maxSteps := 2000000) only [go_sem]) ?_
  simp -implicitDefEqProofs (maxSteps := 2000000) only [go_sem]
  refine cond_split (fun d => ?_) fun d => ?_
  · have := of_decide_eq_true d; omega
  simp -implicitDefEqProofs (maxSteps := 2000000) only [go_sem]
  rw [Int.natCast_add, Int.add_assoc]
end Go.Proofs.Ytedciihjgbkjgaa.A


/- RELATIONS, FACTS AND DATABASES: size, copy, comparison, marks. Conditions: none. -/
namespace Go.Proofs.Ytedciihjgbkjgaa.A
open Go
set_option linter.unusedSimpArgs false
set_option linter.unusedVariables false
set_option maxRecDepth 100000

def szRel (a : Rel) (n : Int) : Int := if n - a.name.size < 0 then -1 else n - a.name.size
def Rel.ok (a : Rel) : Prop := a.name.size ≤ 1048576
def Rel.fit (a : Rel) : Prop := a.name.size ≤ 9223372036854775807
theorem szRel_ok : SzOk szRel Rel.ok := by
  intro a n h
  unfold szRel Rel.ok
  split
  · exact ⟨by omega, fun h => absurd (by omega) h⟩
  · exact ⟨by omega, fun h => by omega⟩
theorem Rel.eq_iff (a b : Rel) : decide (a = b) = (decide (a.name = b.name) && (decide (a.ar = b.ar) && decide (a.kl = b.kl))) := by cases a; cases b; simp
def szDb (d : Db) (n : Int) : Int := if szAll szRel d.rels n < 0 then -1 else szAll szRI d.facts (szAll szRel d.rels n)
def Db.ok (d : Db) : Prop := (d.rels.length ≤ 1048576 ∧ ∀ x ∈ d.rels, x.ok) ∧ (d.facts.length ≤ 1048576 ∧ ∀ x ∈ d.facts, x.ok)
def Db.fit (d : Db) : Prop := (d.rels.length ≤ 9223372036854775807 ∧ ∀ x ∈ d.rels, x.fit) ∧ (d.facts.length ≤ 9223372036854775807 ∧ ∀ x ∈ d.facts, x.fit)
theorem Rel.ok.fit {a : Rel} (h : a.ok) : a.fit := by unfold Rel.ok at h; unfold Rel.fit; omega
theorem Db.ok.fit {d : Db} (h : d.ok) : d.fit := by
  unfold Db.ok at h; unfold Db.fit
  exact ⟨⟨by omega, fun x hx => (h.1.2 x hx).fit⟩, by omega, fun x hx => (h.2.2 x hx).fit⟩
theorem szDb_ok : SzOk szDb Db.ok := by
  intro d n h
  unfold szDb Db.ok
  have h1 := szAll_ok szRel_ok d.rels n h
  split
  · exact ⟨by omega, fun h => absurd (by omega) h⟩
  · rename_i c
    have h2 := szAll_ok szRI_ok d.facts _ h1.1
    exact ⟨h2.1, fun h3 => ⟨h1.2 c, h2.2 h3⟩⟩
theorem Db.eq_iff (a b : Db) : decide (a = b) = (decide (a.rels = b.rels) && decide (a.facts = b.facts)) := by cases a; cases b; simp
end Go.Proofs.Ytedciihjgbkjgaa.A


/- VALID RELATIONS, FACTS AND DATABASES. Conditions: none. -/
namespace Go.Proofs.Ytedciihjgbkjgaa.A
open Go
set_option linter.unusedSimpArgs false
set_option linter.unusedVariables false
set_option maxRecDepth 100000

/-- Does something hold of all numbers below k. -/
def upTo (p : Nat → Bool) : Nat → Bool
  | 0 => true
  | k + 1 => upTo p k && p k
theorem upTo_false {p : Nat → Bool} {n k : Nat} (h : k < n) (hp : p k = false) : upTo p n = false := by
  induction n with
  | zero => omega
  | succ n ih =>
    unfold upTo
    by_cases e : k = n
    · subst e; simp [hp]
    · rw [ih (by omega)]; rfl
theorem upTo_step {p : Nat → Bool} {k : Nat} (h : upTo p k = true) (hp : p k = true) : upTo p (k + 1) = true := by rw [upTo, h, hp]; rfl
theorem upTo_at {p : Nat → Bool} {n k : Nat} (h : upTo p n = true) (hk : k < n) : p k = true := by
  rcases hp : p k
  · rw [upTo_false hk hp] at h; cases h
  · rfl
def inB (x a b : Int) : Bool := decide (a ≤ x) && decide (x ≤ b)
theorem inB_sat (x a b : Int) : Sat Try.prog 46 [lInt x, lInt a, lInt b] [lBool (inB x a b)] [g1, g1, g1] := l1In_sat x a b
theorem inW_sat (x a b : Int) : Sat Try.prog 40 [lInt x, lInt a, lInt b] [lBool (inB x a b)] [g1, g1, g1] := within_sat x a b
theorem inB_of {x a b : Int} (h : inB x a b = true) : a ≤ x ∧ x ≤ b := by
  unfold inB at h
  simpa using h
abbrev n0 (r : Rel) : Int := ((r.name.data.toList.getD 0 0).toNat : Int)
def goodRel (r : Rel) : Bool := ((r.name.size : Int) == 1) && (decide (n0 r ≥ 97) && (decide (n0 r ≤ 122) && (inB r.ar 1 3 && inB r.kl 0 r.ar)))
theorem specIsValidRelation_sat (r : Rel) : Sat Try.prog 75 [lRel r] [lBool (goodRel r)] [g3] := by
  refine sat_of_body mixed Try.func75 rfl (by kernel_rfl) (by kernel_rfl) (rs := [.tmp 2]) rfl rfl rfl ?_
  unfold goodRel
  rcases d1 : ((r.name.size : Int) == 1)
  · simp -implicitDefEqProofs (maxSteps := 2000000) only [go_sem, d1]
  have s1 : 0 < r.name.size := by have := eq_of_beq d1; omega
  rcases d2 : decide (n0 r ≥ 97)
  · simp -implicitDefEqProofs (maxSteps := 2000000) only [go_sem, d1, d2, s1]
  rcases d3 : decide (n0 r ≤ 122)
  · simp -implicitDefEqProofs (maxSteps := 2000000) only [go_sem, d1, d2, d3, s1]
  simp -implicitDefEqProofs (maxSteps := 2000000) only [go_sem, d1, d2, d3, s1]
  rcases d4 : inB r.ar 1 3
  · refine call_of (inB_sat r.ar 1 3) (by simp -implicitDefEqProofs (maxSteps := 2000000) only [go_sem, d4]) (by kernel_rfl) (by simp -implicitDefEqProofs (maxSteps := 2000000) only [go_sem, d4]) ?_
    simp -implicitDefEqProofs (maxSteps := 2000000) only [go_sem, d4]
  · refine call_of (inB_sat r.ar 1 3) (by simp -implicitDefEqProofs (maxSteps := 2000000) only [go_sem, d4]) (by kernel_rfl) (by simp -implicitDefEqProofs (maxSteps := 2000000) only [go_sem, d4]) ?_
    simp -implicitDefEqProofs (maxSteps := 2000000) only [go_sem, d4]
    refine call_of (inB_sat r.kl 0 r.ar) (by simp -implicitDefEqProofs (maxSteps := 2000000) only [go_sem]) (by kernel_rfl) (by simp -implicitDefEqProofs (maxSteps := 2000000) only [go_sem]) ?_
    simp -implicitDefEqProofs (maxSteps := 2000000) only [go_sem]
theorem implIsValidRelation_sat (r : Rel) : Sat Try.prog 86 [lRel r] [lBool (goodRel r)] [g3] := by
  refine sat_of_body mixed Try.func86 rfl (by kernel_rfl) (by kernel_rfl) (rs := [.tmp 2]) rfl rfl rfl ?_
  unfold goodRel
  rcases d1 : ((r.name.size : Int) == 1)
  · simp -implicitDefEqProofs (maxSteps := 2000000) only [go_sem, d1]
  have s1 : 0 < r.name.size := by have := eq_of_beq d1; omega
  rcases d2 : decide (n0 r ≥ 97)
  · simp -implicitDefEqProofs (maxSteps := 2000000) only [go_sem, d1, d2, s1]
  rcases d3 : decide (n0 r ≤ 122)
  · simp -implicitDefEqProofs (maxSteps := 2000000) only [go_sem, d1, d2, d3, s1]
  simp -implicitDefEqProofs (maxSteps := 2000000) only [go_sem, d1, d2, d3, s1]
  rcases d4 : inB r.ar 1 3
  · refine call_of (inW_sat r.ar 1 3) (by simp -implicitDefEqProofs (maxSteps := 2000000) only [go_sem, d4]) (by kernel_rfl) (by simp -implicitDefEqProofs (maxSteps := 2000000) only [go_sem, d4]) ?_
    simp -implicitDefEqProofs (maxSteps := 2000000) only [go_sem, d4]
  · refine call_of (inW_sat r.ar 1 3) (by simp -implicitDefEqProofs (maxSteps := 2000000) only [go_sem, d4]) (by kernel_rfl) (by simp -implicitDefEqProofs (maxSteps := 2000000) only [go_sem, d4]) ?_
    simp -implicitDefEqProofs (maxSteps := 2000000) only [go_sem, d4]
    refine call_of (inW_sat r.kl 0 r.ar) (by simp -implicitDefEqProofs (maxSteps := 2000000) only [go_sem]) (by kernel_rfl) (by simp -implicitDefEqProofs (maxSteps := 2000000) only [go_sem]) ?_
    simp -implicitDefEqProofs (maxSteps := 2000000) only [go_sem]
/-- Is the i-th relation valid, and behind the one before it. -/
def relOk (l : List Rel) (i : Nat) : Bool := goodRel (l.getD i default) && (decide (i = 0) || Op.bytesLess (l.getD (i - 1) default).name.toList (l.getD i default).name.toList)
def goodRels (l : List Rel) : Bool := upTo (relOk l) l.length && decide ((l.length : Int) ≤ 4)
theorem specAreValidRelations_sat (l : List Rel) (h : l.length ≤ 9223372036854775807) : Sat Try.prog 45 [lRels l] [lBool (goodRels l)] [g1] := by
  refine sat_of_body mixed Try.func45 rfl (by kernel_rfl) (by kernel_rfl) (rs := [.tmp 2]) rfl rfl rfl ?_
  simp -implicitDefEqProofs (maxSteps := 2000000) only [go_sem]
  refine awp_loop Nat (fun k => mkSt [(0, .one (.im 3 (rels l))), (3, .sc (.int .i64 k))] [] [] 1000)
    (fun k => k ≤ l.length ∧ upTo (relOk l) k = true) (fun k => l.length - k) 0 ⟨by omega, rfl⟩ (le_st _ _ [] [] _ rfl (by simp -implicitDefEqProofs (maxSteps := 2000000) only [go_sem] <;> rfl) trivial trivial) ?_
  rintro k ⟨h1, h2⟩
  by_cases c1 : k < l.length
  · rcases d1 : goodRel (l.getD k default)
    · have e : relOk l k = false := by rw [relOk, d1]; rfl
      rw [show goodRels l = false by rw [goodRels, upTo_false c1 e]; rfl]
      simp -implicitDefEqProofs (maxSteps := 2000000) only [go_sem, c1]
      refine call_of (specIsValidRelation_sat (l.getD k default)) (by simp -implicitDefEqProofs (maxSteps := 2000000) only [go_sem, d1, c1]) (by kernel_rfl) (by simp -implicitDefEqProofs (maxSteps := 2000000) only [go_sem, d1, c1]) ?_
      simp -implicitDefEqProofs (maxSteps := 2000000) only [go_sem, d1, c1]
    rcases k with _ | j
    · have e : relOk l 0 = true := by rw [relOk, d1]; rfl
      have c0 : (0 : Int) < l.length := by omega
      simp -implicitDefEqProofs (maxSteps := 2000000) only [go_sem, c1, c0]
      refine call_of (specIsValidRelation_sat (l.getD 0 default)) (by simp -implicitDefEqProofs (maxSteps := 2000000) only [go_sem, d1, c1, c0]) (by kernel_rfl) (by simp -implicitDefEqProofs (maxSteps := 2000000) only [go_sem, d1, c1, c0]) ?_
      simp -implicitDefEqProofs (maxSteps := 2000000) only [go_sem, d1, c1, c0]
      exact ⟨1, ⟨c1, upTo_step h2 e⟩, by omega, (le_st _ _ [] [] _ rfl (by simp -implicitDefEqProofs (maxSteps := 2000000) only [go_sem] <;> rfl) trivial trivial)⟩
    · have c2 : j < l.length := by omega
      have c3 : 0 < ((j + 1 : Nat) : Int) := by omega
      have w1 := i64_pred (j := j) (by omega)
      rcases d2 : Op.bytesLess (l.getD j default).name.toList (l.getD (j + 1) default).name.toList
      · have e : relOk l (j + 1) = false := by rw [relOk, d1, Nat.add_sub_cancel, d2]; rfl
        rw [show goodRels l = false by rw [goodRels, upTo_false c1 e]; rfl]
        simp -implicitDefEqProofs (maxSteps := 2000000) only [go_sem, c1]
        refine call_of (specIsValidRelation_sat (l.getD (j + 1) default)) (by simp -implicitDefEqProofs (maxSteps := 2000000) only [go_sem, d1, d2, c1, c2, c3, w1]) (by kernel_rfl) (by simp -implicitDefEqProofs (maxSteps := 2000000) only [go_sem, d1, d2, c1, c2, c3, w1]) ?_
        simp -implicitDefEqProofs (maxSteps := 2000000) only [go_sem, d1, d2, c1, c2, c3, w1]
      · have e : relOk l (j + 1) = true := by rw [relOk, d1, Nat.add_sub_cancel, d2]; rfl
        simp -implicitDefEqProofs (maxSteps := 2000000) only [go_sem, c1]
        refine call_of (specIsValidRelation_sat (l.getD (j + 1) default)) (by simp -implicitDefEqProofs (maxSteps := 2000000) only [go_sem, d1, d2, c1, c2, c3, w1]) (by kernel_rfl) (by simp -implicitDefEqProofs (maxSteps := 2000000) only [go_sem, d1, d2, c1, c2, c3, w1]) ?_
        simp -implicitDefEqProofs (maxSteps := 2000000) only [go_sem, d1, d2, c1, c2, c3, w1]
        rw [i64_succ (by omega)]
        exact ⟨j + 1 + 1, ⟨c1, upTo_step h2 e⟩, by omega, (le_st _ _ [] [] _ rfl (by simp -implicitDefEqProofs (maxSteps := 2000000) only [go_sem] <;> rfl) trivial trivial)⟩
  · obtain rfl : k = l.length := by omega
    simp -implicitDefEqProofs (maxSteps := 2000000) only [go_sem, c1]
    rw [goodRels, h2]
    rfl
theorem implAreValidRelations_sat (l : List Rel) (h : l.length ≤ 9223372036854775807) : Sat Try.prog 69 [lRels l] [lBool (goodRels l)] [g1] := by
  refine sat_of_body mixed Try.func69 rfl (by kernel_rfl) (by kernel_rfl) (rs := [.tmp 2]) rfl rfl rfl ?_
  simp -implicitDefEqProofs (maxSteps := 2000000) only [go_sem]
  refine awp_loop Nat (fun k => mkSt [(0, .one (.im 3 (rels l))), (5, .one (.im 3 (rels l))), (6, .sc (.int .i64 l.length)), (7, .sc (.int .i64 k))] [] [] 1000)
    (fun k => k ≤ l.length ∧ upTo (relOk l) k = true) (fun k => l.length - k) 0 ⟨by omega, rfl⟩ (le_st _ _ [] [] _ rfl (by simp -implicitDefEqProofs (maxSteps := 2000000) only [go_sem] <;> rfl) trivial trivial) ?_
  rintro k ⟨h1, h2⟩
  by_cases c1 : k < l.length
  · rcases d1 : goodRel (l.getD k default)
    · have e : relOk l k = false := by rw [relOk, d1]; rfl
      rw [show goodRels l = false by rw [goodRels, upTo_false c1 e]; rfl]
      simp -implicitDefEqProofs (maxSteps := 2000000) only [go_sem, c1]
      refine call_of (implIsValidRelation_sat (l.getD k default)) (by simp -implicitDefEqProofs (maxSteps := 2000000) only [go_sem, d1, c1]) (by kernel_rfl) (by simp -implicitDefEqProofs (maxSteps := 2000000) only [go_sem, d1, c1]) ?_
      simp -implicitDefEqProofs (maxSteps := 2000000) only [go_sem, d1, c1]
    rcases k with _ | j
    · have e : relOk l 0 = true := by rw [relOk, d1]; rfl
      have c0 : (0 : Int) < l.length := by omega
      simp -implicitDefEqProofs (maxSteps := 2000000) only [go_sem, c1, c0]
      refine call_of (implIsValidRelation_sat (l.getD 0 default)) (by simp -implicitDefEqProofs (maxSteps := 2000000) only [go_sem, d1, c1, c0]) (by kernel_rfl) (by simp -implicitDefEqProofs (maxSteps := 2000000) only [go_sem, d1, c1, c0]) ?_
      simp -implicitDefEqProofs (maxSteps := 2000000) only [go_sem, d1, c1, c0]
      exact ⟨1, ⟨c1, upTo_step h2 e⟩, by omega, (le_st _ _ [] [] _ rfl (by simp -implicitDefEqProofs (maxSteps := 2000000) only [go_sem] <;> rfl) trivial trivial)⟩
    · have c2 : j < l.length := by omega
      have c3 : 0 < ((j + 1 : Nat) : Int) := by omega
      have w1 := i64_pred (j := j) (by omega)
      rcases d2 : Op.bytesLess (l.getD j default).name.toList (l.getD (j + 1) default).name.toList
      · have e : relOk l (j + 1) = false := by rw [relOk, d1, Nat.add_sub_cancel, d2]; rfl
        rw [show goodRels l = false by rw [goodRels, upTo_false c1 e]; rfl]
        simp -implicitDefEqProofs (maxSteps := 2000000) only [go_sem, c1]
        refine call_of (implIsValidRelation_sat (l.getD (j + 1) default)) (by simp -implicitDefEqProofs (maxSteps := 2000000) only [go_sem, d1, d2, c1, c2, c3, w1]) (by kernel_rfl) (by simp -implicitDefEqProofs (maxSteps := 2000000) only [go_sem, d1, d2, c1, c2, c3, w1]) ?_
        simp -implicitDefEqProofs (maxSteps := 2000000) only [go_sem, d1, d2, c1, c2, c3, w1]
      · have e : relOk l (j + 1) = true := by rw [relOk, d1, Nat.add_sub_cancel, d2]; rfl
        simp -implicitDefEqProofs (maxSteps := 2000000) only [go_sem, c1]
        refine call_of (implIsValidRelation_sat (l.getD (j + 1) default)) (by simp -implicitDefEqProofs (maxSteps := 2000000) only [go_sem, d1, d2, c1, c2, c3, w1]) (by kernel_rfl) (by simp -implicitDefEqProofs (maxSteps := 2000000) only [go_sem, d1, d2, c1, c2, c3, w1]) ?_
        simp -implicitDefEqProofs (maxSteps := 2000000) only [go_sem, d1, d2, c1, c2, c3, w1]
        rw [i64_succ (by omega)]
        exact ⟨j + 1 + 1, ⟨c1, upTo_step h2 e⟩, by omega, (le_st _ _ [] [] _ rfl (by simp -implicitDefEqProofs (maxSteps := 2000000) only [go_sem] <;> rfl) trivial trivial)⟩
  · obtain rfl : k = l.length := by omega
    simp -implicitDefEqProofs (maxSteps := 2000000) only [go_sem, c1]
    rw [goodRels, h2]
    rfl
/-- The first number below which something fails, or -1. -/
def firstNo (p : Nat → Bool) : Nat → Nat → Int
  | 0, _ => -1
  | n + 1, k => if p k then firstNo p n (k + 1) else k
theorem firstNo_ge (p : Nat → Bool) : ∀ (n k : Nat), upTo p k = true → decide (firstNo p n k ≥ 0) = !upTo p (k + n)
  | 0, k, h => by rw [Nat.add_zero, h]; rfl
  | n + 1, k, h => by
    unfold firstNo
    split
    · rename_i e
      rw [firstNo_ge p n (k + 1) (upTo_step h e), show k + 1 + n = k + (n + 1) by omega]
    · rename_i e
      rw [upTo_false (k := k) (by omega) (by simpa using e)]
      exact decide_eq_true (by omega)
def valOk (l : List Int) (i : Nat) : Bool := inB (l.getD i 0) 0 9
def goodFact (l : List Rel) (f : RI) : Bool := inB f.r 0 ((l.length : Int) - 1) && (((f.l.length : Int) == (l.getD f.r.toNat default).ar) && upTo (valOk f.l) f.l.length)
end Go.Proofs.Ytedciihjgbkjgaa.A


/- WHAT IS DRAWN FROM A CODE: the reference's cursor. Conditions: none. -/
namespace Go.Proofs.Ytedciihjgbkjgaa.A
open Go
set_option linter.unusedSimpArgs false
set_option linter.unusedVariables false
set_option maxRecDepth 100000

/-! #### bytes -/
def cBy (z : Int) : List Cell := [.sc (.int .u8 z)]
def bys (l : List Int) : Rows := l.map cBy
theorem bys_length (l : List Int) : (bys l).length = l.length := by simp [bys]
theorem bys_get {l : List Int} {i : Nat} (h : i < l.length) : (bys l).getD i [] = [.sc (.int .u8 (l.getD i 0))] := by
  simp [bys, cBy, List.getD_eq_getElem?_getD, h]
theorem bys_frz (l : List Int) : frz (bys l) = bys l := frz_map _ _ (fun _ => rfl) l
attribute [go_sem] bys_length bys_get bys_frz
abbrev lBys (l : List Int) : LV := .one (.im 1 (bys l))
structure Cur where
  b : List Int
  i : Nat
  h : Int
abbrev fCur (c : Cur) : List Fld := [.im 1 (bys c.b), .sc (.int .i64 c.i), .sc (.int .i64 c.h)]
abbrev lCur (c : Cur) : LV := .one (.op (fCur c))
abbrev sCur (c : Cur) : List SV := [.im 1 (bys c.b), .sc (.int .i64 c.i), .sc (.int .i64 c.h)]
def bytesOk (l : List Int) : Prop := ∀ z ∈ l, 0 ≤ z ∧ z ≤ 255
/-- The lowest bits. -/
def low (a m : Int) : Int := IntKind.i64.wrap ((BitVec.ofInt IntKind.i64.bits a &&& BitVec.ofInt IntKind.i64.bits m).toNat : Int)
theorem low_255 (a : Int) : 0 ≤ low a 255 ∧ low a 255 ≤ 255 := by
  unfold low
  have h : (BitVec.ofInt IntKind.i64.bits a &&& BitVec.ofInt IntKind.i64.bits 255).toNat ≤ 255 := by
    rw [BitVec.toNat_and]
    exact Nat.and_le_right
  rw [IntWalk.i64_in _ (by omega)]
  omega
def hAt (b : List Int) : Nat → Int
  | 0 => IntKind.i64.wrap (10101 + (b.length : Int))
  | k + 1 => low (IntKind.i64.wrap (IntKind.i64.wrap (IntKind.i64.wrap (hAt b k * 131) + IntKind.i64.wrap (b.getD k 0)) + 7)) 1073741823
def curN (b : List Int) : Cur := ⟨b, 0, hAt b (min b.length 4000)⟩
theorem l1New_sat (b : List Int) (h : b.length ≤ 9223372036854775807) : Sat Try.prog 64 [lBys b] [lCur (curN b)] [g1] := by
  refine sat_of_body mixed Try.func64 rfl (by kernel_rfl) (by kernel_rfl) (rs := [.tmp 2]) rfl rfl rfl ?_
  simp -implicitDefEqProofs (maxSteps := 2000000) only [go_sem]
  refine awp_loop Nat (fun k => mkSt [(0, .one (.im 1 (bys b))), (3, .sc (.int .i64 (hAt b k))), (4, .sc (.int .i64 k))] [] [] 2000)
    (fun k => k ≤ b.length ∧ k ≤ 4000) (fun k => b.length - k) 0 ⟨by omega, by omega⟩ (le_st _ _ [] [] _ rfl (by simp -implicitDefEqProofs (maxSteps := 2000000) only [go_sem, hAt] <;> rfl) (by simp -implicitDefEqProofs (maxSteps := 2000000) only [go_sem, hAt] <;> rfl) (by simp -implicitDefEqProofs (maxSteps := 2000000) only [go_sem, hAt] <;> rfl)) ?_
  rintro k ⟨h1, h2⟩
  by_cases c1 : k < b.length
  · by_cases c2 : k < 4000
    · have d2 : decide ((k : Int) < 4000) = true := decide_eq_true (by omega)
      have wk : IntKind.i64.wrap ((k : Int) + 1) = ((k + 1 : Nat) : Int) := i64_succ (by omega)
      simp -implicitDefEqProofs (maxSteps := 2000000) only [go_sem, c1, d2]
      rw [wk]
      exact ⟨k + 1, ⟨c1, by omega⟩, by omega, (le_st _ _ [] [] _ rfl (by simp -implicitDefEqProofs (maxSteps := 2000000) only [go_sem, hAt, low] <;> rfl) (by simp -implicitDefEqProofs (maxSteps := 2000000) only [go_sem, hAt, low] <;> rfl) (by simp -implicitDefEqProofs (maxSteps := 2000000) only [go_sem, hAt, low] <;> rfl))⟩
    · have d2 : decide ((k : Int) < 4000) = false := decide_eq_false (by omega)
      obtain rfl : k = 4000 := by omega
      simp -implicitDefEqProofs (maxSteps := 2000000) only [go_sem, c1, d2]
      rw [curN, Nat.min_eq_right (by omega)]
      first | done | rfl | exact ⟨rfl, rfl⟩ | exact ⟨rfl, rfl, rfl⟩ | (refine tr_and ?_ ?_ <;> first | rfl | exact ⟨rfl, rfl⟩ | kernel_rfl)
  · obtain rfl : k = b.length := by omega
    simp -implicitDefEqProofs (maxSteps := 2000000) only [go_sem, c1]
    rw [curN, Nat.min_eq_left (by omega)]
    first | done | rfl | exact ⟨rfl, rfl⟩ | exact ⟨rfl, rfl, rfl⟩ | (refine tr_and ?_ ?_ <;> first | rfl | exact ⟨rfl, rfl⟩ | kernel_rfl)
def hNext (h : Int) : Int := IntKind.i64.wrap (IntKind.i64.wrap (h * 6364136223846793005) + 1442695040888963407)
def mixB (h : Int) : Int := low (IntKind.i64.wrap ((BitVec.ofInt IntKind.i64.bits (h.fdiv (2 ^ min 33 64)) ^^^ BitVec.ofInt IntKind.i64.bits (h.fdiv (2 ^ min 45 64))).toNat : Int)) 255
def byV (c : Cur) : Int := if c.i < c.b.length then low (IntKind.i64.wrap (mixB (hNext c.h) + IntKind.i64.wrap (c.b.getD c.i 0))) 255 else mixB (hNext c.h)
def byC (c : Cur) : Cur := ⟨c.b, if c.i < c.b.length then c.i + 1 else c.i, hNext c.h⟩
/-- The cursor stands within its bytes. -/
def Cur.ok (c : Cur) : Prop := c.i ≤ c.b.length ∧ c.b.length ≤ 1048576
theorem byC_ok {c : Cur} (h : c.ok) : (byC c).ok := by
  obtain ⟨h1, h2⟩ := h
  refine ⟨?_, h2⟩
  show (if c.i < c.b.length then c.i + 1 else c.i) ≤ c.b.length
  split <;> omega
theorem curN_ok {b : List Int} (h : b.length ≤ 1048576) : (curN b).ok := ⟨Nat.zero_le _, h⟩
theorem byV_lo (c : Cur) : 0 ≤ byV c ∧ byV c ≤ 255 := by
  unfold byV
  split
  · exact low_255 _
  · exact low_255 _
theorem l1Byte_sat (c : Cur) (hc : c.ok) : Sat Try.prog 67 [lCur c] [lInt (byV c)] [lCur (byC c)] := by
  refine sat_of_body mixed Try.func67 rfl (by kernel_rfl) (by kernel_rfl) (rs := [.tmp 2]) rfl rfl rfl ?_
  rcases c with ⟨b, i, h⟩
  obtain ⟨hi, hb⟩ := hc
  simp only at hi hb
  by_cases c1 : i < b.length
  · have wi : IntKind.i64.wrap ((i : Int) + 1) = ((i + 1 : Nat) : Int) := i64_succ (by omega)
    have e1 : byV ⟨b, i, h⟩ = low (IntKind.i64.wrap (mixB (hNext h) + IntKind.i64.wrap (b.getD i 0))) 255 := if_pos c1
    have e2 : byC ⟨b, i, h⟩ = ⟨b, i + 1, hNext h⟩ := by unfold byC; simp only; rw [if_pos c1]
    rw [e1, e2]
    simp -implicitDefEqProofs (maxSteps := 2000000) only [go_sem, c1, wi]
    exact ⟨rfl, rfl, rfl⟩
  · have e1 : byV ⟨b, i, h⟩ = mixB (hNext h) := if_neg c1
    have e2 : byC ⟨b, i, h⟩ = ⟨b, i, hNext h⟩ := by unfold byC; simp only; rw [if_neg c1]
    rw [e1, e2]
    simp -implicitDefEqProofs (maxSteps := 2000000) only [go_sem, c1]
    exact ⟨rfl, rfl, rfl⟩
/-- Less than this. -/
def beV (c : Cur) (n : Nat) : Nat := (byV c).toNat % n
theorem beV_lt (c : Cur) {n : Nat} (h : 0 < n) : beV c n < n := Nat.mod_lt _ h
theorem l1Below_sat (c : Cur) (n : Nat) (hc : c.ok) (h1 : 0 < n) (h2 : n ≤ 256) : Sat Try.prog 36 [lCur c, lInt n] [lInt (beV c n)] [lCur (byC c), g1] := by
  refine sat_of_body mixed Try.func36 rfl (by kernel_rfl) (by kernel_rfl) (rs := [.tmp 4]) rfl rfl rfl ?_
  have d1 : decide ((n : Int) ≤ 0) = false := decide_eq_false (by omega)
  have d2 : decide ((n : Int) ≤ 256) = true := decide_eq_true (by omega)
  have hv := byV_lo c
  have e : Int.tmod (byV c) (n : Int) = ((beV c n : Nat) : Int) := by
    obtain ⟨v, hv'⟩ : ∃ v : Nat, byV c = v := ⟨(byV c).toNat, by omega⟩
    unfold beV
    rw [hv', Int.toNat_natCast, ← Int.ofNat_tmod]
  have hn0 : ¬ ((n : Int) = 0) := by omega
  simp -implicitDefEqProofs (maxSteps := 2000000) only [go_sem, d1, d2]
  refine call_of (l1Byte_sat c hc) (by simp -implicitDefEqProofs (maxSteps := 2000000) only [go_sem, e, hn0]) (by kernel_rfl) (by simp -implicitDefEqProofs (maxSteps := 2000000) only [go_sem, e, hn0]) ?_
  simp -implicitDefEqProofs (maxSteps := 2000000) only [go_sem, e, hn0]
  exact ⟨hn0, rfl⟩
theorem l1PickInt_sat (c : Cur) (l : List Int) (hc : c.ok) (h1 : 0 < l.length) (h2 : l.length ≤ 256) : Sat Try.prog 84 [lCur c, lInts l] [lInt (l.getD (beV c l.length) 0)] [lCur (byC c), g1] := by
  refine sat_of_body mixed Try.func84 rfl (by kernel_rfl) (by kernel_rfl) (rs := [.tmp 4]) rfl rfl rfl ?_
  have hv := beV_lt c h1
  simp -implicitDefEqProofs (maxSteps := 2000000) only [go_sem]
  refine call_of (l1Below_sat c l.length hc h1 h2) (by simp -implicitDefEqProofs (maxSteps := 2000000) only [go_sem, hv]) (by kernel_rfl) (by simp -implicitDefEqProofs (maxSteps := 2000000) only [go_sem, hv]) ?_
  simp -implicitDefEqProofs (maxSteps := 2000000) only [go_sem, hv]
  rfl
/-- The same, of a list that is handed over. -/
theorem l1PickInt_own (c : Cur) (l : List Int) (hc : c.ok) (h1 : 0 < l.length) (h2 : l.length ≤ 256) : Sat Try.prog 84 [lCur c, oInts l] [lInt (l.getD (beV c l.length) 0)] [lCur (byC c), g1] := by
  refine sat_of_body mixed Try.func84 rfl (by kernel_rfl) (by kernel_rfl) (rs := [.tmp 4]) rfl rfl rfl ?_
  have hv := beV_lt c h1
  simp -implicitDefEqProofs (maxSteps := 2000000) only [go_sem]
  refine call_of (l1Below_sat c l.length hc h1 h2) (by simp -implicitDefEqProofs (maxSteps := 2000000) only [go_sem, hv]) (by kernel_rfl) (by simp -implicitDefEqProofs (maxSteps := 2000000) only [go_sem, hv]) ?_
  simp -implicitDefEqProofs (maxSteps := 2000000) only [go_sem, hv]
  rfl
end Go.Proofs.Ytedciihjgbkjgaa.A


/- MARKS OF RELATIONS. Conditions: none. -/
namespace Go.Proofs.Ytedciihjgbkjgaa.A
open Go
set_option linter.unusedSimpArgs false
set_option linter.unusedVariables false
set_option maxRecDepth 100000

def digit (k : Nat) : ByteArray := ⟨[UInt8.ofNat (48 + k % 10)].toArray⟩
def mD : Nat → Nat → ByteArray → ByteArray
  | 0, _, out => out
  | f + 1, k, out => if k = 0 then out else mD f (k / 10) (digit k ++ out)
def markT (k : Int) : ByteArray := if k ≤ 0 then ⟨#[109, 48]⟩ else ⟨#[109]⟩ ++ mD k.toNat k.toNat ByteArray.empty
theorem digit_size (k : Nat) : (digit k).size = 1 := rfl
theorem mD_zero (f : Nat) (out : ByteArray) : mD f 0 out = out := by cases f <;> simp [mD]
theorem u8_digit (k : Nat) : IntKind.u8.wrap (IntKind.i64.wrap (48 + ((k : Int).tmod 10))) = ((48 + k % 10 : Nat) : Int) := by
  have h : (k : Int).tmod 10 = ((k % 10 : Nat) : Int) := by rw [Int.tmod_eq_emod_of_nonneg (by omega)]; omega
  rw [h, IntWalk.i64_in _ (by omega)]
  have h2 : k % 10 < 10 := Nat.mod_lt _ (by omega)
  unfold IntKind.wrap
  simp [IntKind.signed, IntKind.bits]
  omega
theorem i64_div10 {k : Nat} (h : k ≤ 9223372036854775807) : IntKind.i64.wrap ((k : Int).tdiv 10) = ((k / 10 : Nat) : Int) := by
  have h1 : (k : Int).tdiv 10 = ((k / 10 : Nat) : Int) := by rw [Int.tdiv_eq_ediv_of_nonneg (by omega)]; omega
  rw [h1, IntWalk.i64_in _ (by omega)]
end Go.Proofs.Ytedciihjgbkjgaa.A


/- CONFLICT EDGES: size, copy, comparison, marks; marks of databases. Conditions: none. -/
namespace Go.Proofs.Ytedciihjgbkjgaa.A
open Go
set_option linter.unusedSimpArgs false
set_option linter.unusedVariables false
set_option maxRecDepth 100000

def szEds (a : List Edge) (n : Int) : Int := if n - a.length < 0 then -1 else n - a.length
theorem szEds_ok : SzOk szEds (fun a => a.length ≤ 1048576) := by
  intro a n h
  unfold szEds
  split
  · exact ⟨by omega, fun h => absurd (by omega) h⟩
  · exact ⟨by omega, fun h => by omega⟩
def cntE : Int → Nat → List Edge
  | _, 0 => []
  | k, n + 1 => ⟨k, k + 1⟩ :: cntE (k + 2) n
theorem cntE_length : ∀ (k : Int) (n : Nat), (cntE k n).length = n
  | _, 0 => rfl
  | k, n + 1 => by rw [cntE, List.length_cons, cntE_length]
theorem cntE_get : ∀ {k : Int} {n i : Nat}, i < n → (cntE k n).getD i default = ⟨k + ((2 * i : Nat) : Int), k + ((2 * i : Nat) : Int) + 1⟩
  | k, n + 1, 0, _ => by simp [cntE]
  | k, n + 1, i + 1, h => by
    rw [cntE, List.getD_cons_succ, cntE_get (by omega), show k + 2 + ((2 * i : Nat) : Int) = k + ((2 * (i + 1) : Nat) : Int) by omega]
theorem cntE_full (k : Int) (n : Nat) : List.take n (cntE k n) = cntE k n := List.take_of_length_le (by rw [cntE_length]; omega)
attribute [go_sem] cntE_full
def numDb (d : Db) : Nat := 3 * d.rels.length + numRI d.facts
theorem numDb_ok {d : Db} (h : d.ok) : numDb d ≤ 1048577 * 1048577 + 3 * 1048576 := by
  have h1 := numRI_ok h.2.2
  have h2 := h.1.1
  have h3 := h.2.1
  unfold numDb
  have : d.facts.length * 1048577 ≤ 1048576 * 1048577 := Nat.mul_le_mul_right _ h3
  omega
end Go.Proofs.Ytedciihjgbkjgaa.A


/- THE LIBRARY'S SORT, COMPACT, CLONE AND GROW at numbers, of this program. Conditions: none. -/
namespace Go.Proofs.Ytedciihjgbkjgaa.A
open Go Go.Shelf
set_option linter.unusedVariables false
set_option maxRecDepth 100000
def laysSort_ren : Go.Shelf.Ren := ⟨fun | 125 => 91 | 128 => 103 | 129 => 104 | 189 => 82 | 215 => 113 | 216 => 100 | 257 => 90 | 294 => 94 | 295 => 95 | 296 => 96 | 297 => 97 | 298 => 98 | 299 => 99 | 300 => 101 | 301 => 102 | 328 => 108 | 329 => 109 | 330 => 110 | 331 => 111 | 332 => 112 | 343 => 118 | n => n, fun | 0 => 0 | 3 => 3 | 4 => 4 | 5 => 5 | 9 => 9 | 28 => 26 | 46 => 100 | 51 => 118 | 53 => 120 | 131 => 115 | 182 => 109 | 183 => 110 | 218 => 125 | 222 => 129 | 228 => 135 | 229 => 136 | n => n, fun n => n⟩
theorem laysSort : Lays.n189 Try.prog laysSort_ren where
  mixed := by kernel_rfl
  f125 := Try.func91.trans (congrArg some (by kernel_rfl))
  f128 := Try.func103.trans (congrArg some (by kernel_rfl))
  f129 := Try.func104.trans (congrArg some (by kernel_rfl))
  f189 := Try.func82.trans (congrArg some (by kernel_rfl))
  f215 := Try.func113.trans (congrArg some (by kernel_rfl))
  f216 := Try.func100.trans (congrArg some (by kernel_rfl))
  f257 := Try.func90.trans (congrArg some (by kernel_rfl))
  f294 := Try.func94.trans (congrArg some (by kernel_rfl))
  f295 := Try.func95.trans (congrArg some (by kernel_rfl))
  f296 := Try.func96.trans (congrArg some (by kernel_rfl))
  f297 := Try.func97.trans (congrArg some (by kernel_rfl))
  f298 := Try.func98.trans (congrArg some (by kernel_rfl))
  f299 := Try.func99.trans (congrArg some (by kernel_rfl))
  f300 := Try.func101.trans (congrArg some (by kernel_rfl))
  f301 := Try.func102.trans (congrArg some (by kernel_rfl))
  f328 := Try.func108.trans (congrArg some (by kernel_rfl))
  f329 := Try.func109.trans (congrArg some (by kernel_rfl))
  f330 := Try.func110.trans (congrArg some (by kernel_rfl))
  f331 := Try.func111.trans (congrArg some (by kernel_rfl))
  f332 := Try.func112.trans (congrArg some (by kernel_rfl))
  f343 := Try.func118.trans (congrArg some (by kernel_rfl))
  t0 := Try.underlying0
  a0 := Try.isAgg0
  z0 := Try.sizeOf0
  v0 := Try.zeroValue0
  t3 := Try.underlying3
  a3 := Try.isAgg3
  z3 := Try.sizeOf3
  v3 := Try.zeroValue3
  t4 := Try.underlying4
  a4 := Try.isAgg4
  z4 := Try.sizeOf4
  v4 := Try.zeroValue4
  t5 := Try.underlying5
  a5 := Try.isAgg5
  z5 := Try.sizeOf5
  v5 := Try.zeroValue5
  t9 := Try.underlying9
  a9 := Try.isAgg9
  z9 := Try.sizeOf9
  v9 := Try.zeroValue9
  t28 := Try.underlying26
  a28 := Try.isAgg26
  z28 := Try.sizeOf26
  v28 := Try.zeroValue26
  t46 := Try.underlying100
  a46 := Try.isAgg100
  z46 := Try.sizeOf100
  v46 := Try.zeroValue100
  t51 := Try.underlying118
  a51 := Try.isAgg118
  z51 := Try.sizeOf118
  v51 := Try.zeroValue118
  t53 := Try.underlying120
  a53 := Try.isAgg120
  z53 := Try.sizeOf120
  v53 := Try.zeroValue120
  t131 := Try.underlying115
  a131 := Try.isAgg115
  z131 := Try.sizeOf115
  v131 := Try.zeroValue115
  t182 := Try.underlying109
  a182 := Try.isAgg109
  z182 := Try.sizeOf109
  v182 := Try.zeroValue109
  t183 := Try.underlying110
  a183 := Try.isAgg110
  z183 := Try.sizeOf110
  v183 := Try.zeroValue110
  t218 := Try.underlying125
  a218 := Try.isAgg125
  z218 := Try.sizeOf125
  v218 := Try.zeroValue125
  t222 := Try.underlying129
  a222 := Try.isAgg129
  z222 := Try.sizeOf129
  v222 := Try.zeroValue129
  t228 := Try.underlying135
  a228 := Try.isAgg135
  z228 := Try.sizeOf135
  v228 := Try.zeroValue135
  t229 := Try.underlying136
  a229 := Try.isAgg136
  z229 := Try.sizeOf136
  v229 := Try.zeroValue136
theorem slicesSort_sat (a : List Int) (h : a.length ≤ 4194304) : Sat Try.prog 82 [oInts a] [] [oInts (a.mergeSort fun x y => decide (x ≤ y))] :=
  sort_sat Try.func82 rfl (by kernel_rfl) (Any.slices_Sort_int laysSort) (Any.slices_Sort_int_none laysSort) a (by omega)
def laysCompact_ren : Go.Shelf.Ren := ⟨fun | 20 => 83 | n => n, fun | 0 => 0 | 3 => 3 | 4 => 4 | 22 => 26 | n => n, fun n => n⟩
theorem laysCompact : Lays2.n20 Try.prog laysCompact_ren where
  mixed := by kernel_rfl
  f20 := Try.func83.trans (congrArg some (by kernel_rfl))
  t0 := Try.underlying0
  a0 := Try.isAgg0
  z0 := Try.sizeOf0
  v0 := Try.zeroValue0
  t3 := Try.underlying3
  a3 := Try.isAgg3
  z3 := Try.sizeOf3
  v3 := Try.zeroValue3
  t4 := Try.underlying4
  a4 := Try.isAgg4
  z4 := Try.sizeOf4
  v4 := Try.zeroValue4
  t22 := Try.underlying26
  a22 := Try.isAgg26
  z22 := Try.sizeOf26
  v22 := Try.zeroValue26
  i3 := by kernel_rfl
theorem slicesCompact_sat (a : List Int) (h : a.length ≤ 9223372036854775807) : Sat Try.prog 83 [oInts a] [oInts (Lib.compact a)] [g1] :=
  compact_sat Try.func83 rfl (by kernel_rfl) (Any.slices_Compact_int laysCompact) (Any.slices_Compact_int_empty laysCompact) a h
def laysClone_ren : Go.Shelf.Ren := ⟨fun | 15 => 39 | n => n, fun | 3 => 3 | 4 => 4 | 22 => 26 | n => n, fun n => n⟩
theorem laysClone : Lays2.n15 Try.prog laysClone_ren where
  mixed := by kernel_rfl
  f15 := Try.func39.trans (congrArg some (by kernel_rfl))
  t3 := Try.underlying3
  a3 := Try.isAgg3
  z3 := Try.sizeOf3
  v3 := Try.zeroValue3
  t4 := Try.underlying4
  a4 := Try.isAgg4
  z4 := Try.sizeOf4
  v4 := Try.zeroValue4
  t22 := Try.underlying26
  a22 := Try.isAgg26
  z22 := Try.sizeOf26
  v22 := Try.zeroValue26
  i3 := by kernel_rfl
theorem slicesClone_sat (a : List Int) (h : a.length ≤ 1048576) : Sat Try.prog 39 [lInts a] [oInts a] [g1] :=
  clone_sat (e := 3) Try.func39 rfl (by kernel_rfl) (Any.slices_Clone_int laysClone) (Any.slices_Clone_int_nil laysClone) (Any.slices_Clone_int_zero laysClone) a (by omega)
def laysGrow_ren : Go.Shelf.Ren := ⟨fun | 4 => 89 | n => n, fun | 0 => 0 | 3 => 3 | 4 => 4 | 9 => 9 | 20 => 20 | 22 => 26 | 25 => 3 | n => n, fun n => n⟩
theorem laysGrow : Lays8.n4 Try.prog laysGrow_ren where
  mixed := by kernel_rfl
  f4 := ⟨Try.f89.name, by kernel_rfl, Try.func89.trans (congrArg some (by kernel_rfl))⟩
  t0 := Try.underlying0
  a0 := Try.isAgg0
  z0 := Try.sizeOf0
  v0 := Try.zeroValue0
  t3 := Try.underlying3
  a3 := Try.isAgg3
  z3 := Try.sizeOf3
  v3 := Try.zeroValue3
  t4 := Try.underlying4
  a4 := Try.isAgg4
  z4 := Try.sizeOf4
  v4 := Try.zeroValue4
  t9 := Try.underlying9
  a9 := Try.isAgg9
  z9 := Try.sizeOf9
  v9 := Try.zeroValue9
  t20 := Try.underlying20
  a20 := Try.isAgg20
  z20 := Try.sizeOf20
  v20 := Try.zeroValue20
  t22 := Try.underlying26
  a22 := Try.isAgg26
  z22 := Try.sizeOf26
  v22 := Try.zeroValue26
theorem slicesGrow_sat (n : Nat) (h : n ≤ 4194304) : Sat Try.prog 89 [.one (.sc (.slice none 0 0)), lInt n] [oInts []] [g1, g1] :=
  grow_sat (e := 3) Try.func89 rfl (by kernel_rfl) (by kernel_rfl) (Any8.slices_Grow_room laysGrow) (fun i0 z hi hz hs base l c n cs w => Any8.slices_Grow_grow laysGrow i0 z hi hz hs base l c n cs w) n (by omega)
end Go.Proofs.Ytedciihjgbkjgaa.A


/- CONFLICT GRAPHS: valid edges, independent sets. Conditions: none. -/
namespace Go.Proofs.Ytedciihjgbkjgaa.A
open Go
set_option linter.unusedSimpArgs false
set_option linter.unusedVariables false
set_option maxRecDepth 100000

/-- Does the i-th edge stand behind the one before it. -/
def lexAt (l : List Edge) (i : Nat) : Bool := decide (i = 0) || !(decide ((l.getD i default).a < (l.getD (i - 1) default).a) || (((l.getD i default).a == (l.getD (i - 1) default).a) && decide ((l.getD i default).b ≤ (l.getD (i - 1) default).b)))
def edAt (n : Int) (l : List Edge) (i : Nat) : Bool := inB (l.getD i default).a 0 ((l.getD i default).b - 1) && (inB (l.getD i default).b 0 (n - 1) && lexAt l i)
def edRaw (n : Int) (l : List Edge) (i : Nat) : Bool := inB (l.getD i default).a 0 (IntKind.i64.wrap ((l.getD i default).b - 1)) && (inB (l.getD i default).b 0 (IntKind.i64.wrap (n - 1)) && lexAt l i)
def goodEds (n : Int) (l : List Edge) : Bool := inB n 0 14 && upTo (edAt n l) l.length
theorem edRaw_eq {n : Int} (hn : inB n 0 14 = true) (l : List Edge) (i : Nat) : edRaw n l i = edAt n l i := by
  obtain ⟨h1, h2⟩ := inB_of hn
  unfold edRaw edAt
  rw [IntWalk.i64_in (n - 1) (by omega)]
  rcases d : inB (l.getD i default).b 0 (n - 1)
  · simp
  · obtain ⟨h3, h4⟩ := inB_of d
    rw [IntWalk.i64_in _ (by omega)]
theorem upTo_same {p p' : Nat → Bool} : ∀ {n : Nat}, (∀ k, k < n → p k = p' k) → upTo p n = upTo p' n
  | 0, _ => rfl
  | n + 1, h => by rw [upTo, upTo, upTo_same fun k hk => h k (by omega), h n (by omega)]
theorem goodEds_raw (n : Int) (l : List Edge) : goodEds n l = (upTo (edRaw n l) l.length && inB n 0 14) := by
  unfold goodEds
  rcases d : inB n 0 14
  · rw [Bool.and_false]; rfl
  · rw [upTo_same fun k _ => edRaw_eq d l k, Bool.and_true]; rfl
def edNo (s : List Int) (l : List Edge) (k : Nat) : Bool := !(decide ((l.getD k default).a ∈ s) && decide ((l.getD k default).b ∈ s))
def indep (l : List Edge) (s : List Int) : Bool := upTo (edNo s l) l.length
end Go.Proofs.Ytedciihjgbkjgaa.A


/- SORTING BY INSERTION. Conditions: none. -/
namespace Go.Proofs.Ytedciihjgbkjgaa.A
open Go
set_option linter.unusedSimpArgs false
set_option linter.unusedVariables false
set_option maxRecDepth 100000

def sortI (l : List Int) : List Int := l.mergeSort fun x y => decide (x ≤ y)
theorem sortI_len (l : List Int) : (sortI l).length = l.length := List.length_mergeSort ..
theorem sortI_perm (l : List Int) : (sortI l).Perm l := List.mergeSort_perm l _
theorem sortI_sorted (l : List Int) : (sortI l).Pairwise (· ≤ ·) := by
  have h := List.pairwise_mergeSort (le := fun x y : Int => decide (x ≤ y)) (by intro a b c; simp; omega) (by intro a b; simp; omega) l
  exact h.imp fun h => by simpa using h
theorem sorted_uni {a b : List Int} (ha : a.Pairwise (· ≤ ·)) (hb : b.Pairwise (· ≤ ·)) (hp : a.Perm b) : a = b :=
  List.Perm.eq_of_pairwise (fun x y _ _ h1 h2 => by omega) ha hb hp
def stopAt (out : List Int) (x : Int) : Nat → Nat
  | 0 => 0
  | k + 1 => if decide (out.getD k 0 > x) then stopAt out x k else k + 1
theorem stopAt_le (out : List Int) (x : Int) : ∀ k, stopAt out x k ≤ k
  | 0 => Nat.le_refl _
  | k + 1 => by
    have := stopAt_le out x k
    unfold stopAt
    split <;> omega
theorem stopAt_above (out : List Int) (x : Int) : ∀ (k j : Nat), stopAt out x k ≤ j → j < k → x < out.getD j 0
  | 0, j, _, h => by omega
  | k + 1, j, h1, h2 => by
    unfold stopAt at h1
    split at h1
    · rename_i d
      by_cases e : j = k
      · rw [e]; exact of_decide_eq_true d
      · exact stopAt_above out x k j h1 (by omega)
    · omega
theorem stopAt_at (out : List Int) (x : Int) : ∀ (k j : Nat), stopAt out x k = j + 1 → out.getD j 0 ≤ x
  | 0, j, h => by simp [stopAt] at h
  | k + 1, j, h => by
    unfold stopAt at h
    split at h
    · exact stopAt_at out x k j h
    · rename_i d
      have e : k = j := by omega
      subst e
      have := of_decide_eq_false (by simpa using d : decide (out.getD k 0 > x) = false)
      omega
def insS (out : List Int) (x : Int) : List Int := out.take (stopAt out x out.length) ++ [x] ++ out.drop (stopAt out x out.length)
theorem insS_perm (out : List Int) (x : Int) : (insS out x).Perm (x :: out) := by
  unfold insS
  rw [List.append_assoc, List.singleton_append]
  refine List.perm_middle.trans ?_
  rw [List.take_append_drop]
theorem getD_in {l : List Int} {y : Int} (h : y ∈ l) : ∃ j, j < l.length ∧ l.getD j 0 = y := by
  obtain ⟨j, hj, e⟩ := List.mem_iff_getElem.mp h
  exact ⟨j, hj, by rw [List.getD_eq_getElem?_getD, List.getElem?_eq_getElem hj]; exact e⟩
theorem sorted_at {l : List Int} (h : l.Pairwise (· ≤ ·)) {i j : Nat} (hij : i ≤ j) (hj : j < l.length) : l.getD i 0 ≤ l.getD j 0 := by
  rw [List.getD_eq_getElem?_getD, List.getD_eq_getElem?_getD, List.getElem?_eq_getElem hj, List.getElem?_eq_getElem (by omega)]
  by_cases e : i = j
  · subst e; exact Int.le_refl _
  · exact List.pairwise_iff_getElem.mp h i j (by omega) hj (by omega)
theorem insS_sorted {out : List Int} (h : out.Pairwise (· ≤ ·)) (x : Int) : (insS out x).Pairwise (· ≤ ·) := by
  have hle := stopAt_le out x out.length
  have lo : ∀ y ∈ out.take (stopAt out x out.length), y ≤ x := by
    intro y hy
    obtain ⟨j, hj, rfl⟩ := getD_in hy
    rw [List.length_take] at hj
    obtain ⟨k, hk⟩ : ∃ k, stopAt out x out.length = k + 1 := ⟨stopAt out x out.length - 1, by omega⟩
    have h1 := stopAt_at out x _ k hk
    have h2 := sorted_at h (i := j) (j := k) (by omega) (by omega)
    rw [List.getD_eq_getElem?_getD, List.getElem?_take_of_lt (by omega), ← List.getD_eq_getElem?_getD]
    omega
  have hi : ∀ y ∈ out.drop (stopAt out x out.length), x ≤ y := by
    intro y hy
    obtain ⟨j, hj, rfl⟩ := getD_in hy
    rw [List.length_drop] at hj
    have := stopAt_above out x out.length (stopAt out x out.length + j) (by omega) (by omega)
    rw [List.getD_eq_getElem?_getD, List.getElem?_drop, ← List.getD_eq_getElem?_getD]
    omega
  unfold insS
  rw [List.append_assoc, List.singleton_append, List.pairwise_append]
  refine ⟨List.Pairwise.sublist (List.take_sublist _ _) h, List.pairwise_cons.mpr ⟨hi, List.Pairwise.sublist (List.drop_sublist _ _) h⟩, fun a ha b hb => ?_⟩
  rcases List.mem_cons.mp hb with rfl | hb
  · exact lo a ha
  · exact Int.le_trans (lo a ha) (hi b hb)
def insAll (l : List Int) : Nat → List Int
  | 0 => []
  | k + 1 => insS (insAll l k) (l.getD k 0)
theorem insAll_facts (l : List Int) : ∀ k, k ≤ l.length → (insAll l k).Pairwise (· ≤ ·) ∧ (insAll l k).Perm (l.take k)
  | 0, _ => ⟨List.Pairwise.nil, by simp [insAll]⟩
  | k + 1, h => by
    obtain ⟨h1, h2⟩ := insAll_facts l k (by omega)
    refine ⟨insS_sorted h1 _, (insS_perm _ _).trans ?_⟩
    rw [take_snoc 0 (by omega : k < l.length)]
    exact (List.Perm.cons _ h2).trans (List.perm_append_singleton _ _).symm
theorem insAll_len (l : List Int) {k : Nat} (h : k ≤ l.length) : (insAll l k).length = k := by
  rw [(insAll_facts l k h).2.length_eq, List.length_take]; omega
theorem insAll_eq (l : List Int) : insAll l l.length = sortI l := by
  obtain ⟨h1, h2⟩ := insAll_facts l l.length (Nat.le_refl _)
  rw [List.take_length] at h2
  exact sorted_uni h1 (sortI_sorted l) (h2.trans (sortI_perm l).symm)
end Go.Proofs.Ytedciihjgbkjgaa.A


/- CONFLICT GRAPHS: maximal independent sets. Conditions: none. -/
namespace Go.Proofs.Ytedciihjgbkjgaa.A
open Go
set_option linter.unusedSimpArgs false
set_option linter.unusedVariables false
set_option maxRecDepth 100000

/-- Is the i-th number an index, and behind the one before it. -/
def ixAt (l : List Int) (n : Int) (i : Nat) : Bool := inB (l.getD i 0) 0 (n - 1) && (decide (i = 0) || !decide (l.getD i 0 ≤ l.getD (i - 1) 0))
def ixs (l : List Int) (n : Int) : Bool := upTo (ixAt l n) l.length
theorem areIxs_sat (l : List Int) (n : Int) (h : l.length ≤ 9223372036854775807) (hn : -9223372036854775807 ≤ n ∧ n ≤ 9223372036854775807) : Sat Try.prog 70 [lInts l, lInt n] [lBool (ixs l n)] [g1, g1] := by
  refine sat_of_body mixed Try.func70 rfl (by kernel_rfl) (by kernel_rfl) (rs := [.tmp 4]) rfl rfl rfl ?_
  unfold ixs
  have w0 : IntKind.i64.wrap (n - 1) = n - 1 := IntWalk.i64_in _ (by omega)
  simp -implicitDefEqProofs (maxSteps := 2000000) only [go_sem]
  refine awp_loop Nat (fun k => mkSt [(0, .one (.im 1 (ints l))), (1, .sc (.int .i64 n)), (7, .one (.im 1 (ints l))), (8, .sc (.int .i64 l.length)), (9, .sc (.int .i64 k))] [] [] 1000)
    (fun k => k ≤ l.length ∧ upTo (ixAt l n) k = true) (fun k => l.length - k) 0 ⟨by omega, rfl⟩ (le_st _ _ [] [] _ rfl (by simp -implicitDefEqProofs (maxSteps := 2000000) only [go_sem] <;> rfl) trivial trivial) ?_
  rintro k ⟨h1, h2⟩
  by_cases c1 : k < l.length
  · rcases d1 : inB (l.getD k 0) 0 (n - 1)
    · rw [upTo_false c1 (by rw [ixAt, d1]; rfl)]
      simp -implicitDefEqProofs (maxSteps := 2000000) only [go_sem, c1, w0]
      refine call_of (inW_sat (l.getD k 0) 0 (n - 1)) (by simp -implicitDefEqProofs (maxSteps := 2000000) only [go_sem, d1, c1]) (by kernel_rfl) (by simp -implicitDefEqProofs (maxSteps := 2000000) only [go_sem, d1, c1]) ?_
      simp -implicitDefEqProofs (maxSteps := 2000000) only [go_sem, d1, c1]
    rcases k with _ | j
    · have e : ixAt l n 0 = true := by rw [ixAt, d1]; rfl
      have c0 : (0 : Int) < l.length := by omega
      simp -implicitDefEqProofs (maxSteps := 2000000) only [go_sem, c1, c0, w0]
      refine call_of (inW_sat (l.getD 0 0) 0 (n - 1)) (by simp -implicitDefEqProofs (maxSteps := 2000000) only [go_sem, d1, c1, c0]) (by kernel_rfl) (by simp -implicitDefEqProofs (maxSteps := 2000000) only [go_sem, d1, c1, c0]) ?_
      simp -implicitDefEqProofs (maxSteps := 2000000) only [go_sem, d1, c1, c0]
      exact ⟨1, ⟨c1, upTo_step h2 e⟩, by omega, (le_st _ _ [] [] _ rfl (by simp -implicitDefEqProofs (maxSteps := 2000000) only [go_sem] <;> rfl) trivial trivial)⟩
    · have c2 : j < l.length := by omega
      have c3 : 0 < ((j + 1 : Nat) : Int) := by omega
      have w1 := i64_pred (j := j) (by omega)
      rcases d2 : decide (l.getD (j + 1) 0 ≤ l.getD j 0)
      · have e : ixAt l n (j + 1) = true := by rw [ixAt, d1, Nat.add_sub_cancel, d2]; rfl
        simp -implicitDefEqProofs (maxSteps := 2000000) only [go_sem, c1, w0]
        refine call_of (inW_sat (l.getD (j + 1) 0) 0 (n - 1)) (by simp -implicitDefEqProofs (maxSteps := 2000000) only [go_sem, d1, d2, c1, c2, c3, w1]) (by kernel_rfl) (by simp -implicitDefEqProofs (maxSteps := 2000000) only [go_sem, d1, d2, c1, c2, c3, w1]) ?_
        simp -implicitDefEqProofs (maxSteps := 2000000) only [go_sem, d1, d2, c1, c2, c3, w1]
        rw [i64_succ (by omega)]
        exact ⟨j + 1 + 1, ⟨c1, upTo_step h2 e⟩, by omega, (le_st _ _ [] [] _ rfl (by simp -implicitDefEqProofs (maxSteps := 2000000) only [go_sem] <;> rfl) trivial trivial)⟩
      · rw [upTo_false c1 (show ixAt l n (j + 1) = false by rw [ixAt, d1, Nat.add_sub_cancel, d2]; rfl)]
        simp -implicitDefEqProofs (maxSteps := 2000000) only [go_sem, c1, w0]
        refine call_of (inW_sat (l.getD (j + 1) 0) 0 (n - 1)) (by simp -implicitDefEqProofs (maxSteps := 2000000) only [go_sem, d1, d2, c1, c2, c3, w1]) (by kernel_rfl) (by simp -implicitDefEqProofs (maxSteps := 2000000) only [go_sem, d1, d2, c1, c2, c3, w1]) ?_
        simp -implicitDefEqProofs (maxSteps := 2000000) only [go_sem, d1, d2, c1, c2, c3, w1]
  · obtain rfl : k = l.length := by omega
    simp -implicitDefEqProofs (maxSteps := 2000000) only [go_sem, c1]
    rw [h2]
/-- May a number join a set. -/
def fitsE (l : List Edge) (s : List Int) (x : Int) : Bool := !decide (x ∈ s) && indep l (s ++ [x])
def isMax (n : Int) (l : List Edge) (s : List Int) : Bool := goodEds n l && (ixs s n && (indep l s && upTo (fun x => !fitsE l s x) n.toNat))
theorem ixs_ge {s : List Int} {n : Int} (h : ixs s n = true) : ∀ i : Nat, i < s.length → (i : Int) ≤ s.getD i 0
  | 0, hi => by
    have h1 := upTo_at h hi
    unfold ixAt at h1
    rw [Bool.and_eq_true] at h1
    exact (inB_of h1.1).1
  | i + 1, hi => by
    have ih := ixs_ge h i (by omega)
    have h1 := upTo_at h hi
    unfold ixAt at h1
    rw [Bool.and_eq_true, Nat.add_sub_cancel, decide_eq_false (by omega : ¬ i + 1 = 0), Bool.false_or, Bool.not_eq_true', decide_eq_false_iff_not] at h1
    have := h1.2
    omega
theorem ixs_len {s : List Int} {n : Int} (h : ixs s n = true) (hn : 0 ≤ n) : (s.length : Int) ≤ n := by
  rcases e : s.length with _ | k
  · omega
  · have h1 := ixs_ge h k (by omega)
    have h2 := upTo_at h (show k < s.length by omega)
    unfold ixAt at h2
    rw [Bool.and_eq_true] at h2
    have := (inB_of h2.1).2
    omega
/-! #### a set is extended -/
def extN (l : List Edge) (s : List Int) : Nat → List Int
  | 0 => s
  | k + 1 => if fitsE l (extN l s k) k then extN l s k ++ [(k : Int)] else extN l s k
theorem extN_len (l : List Edge) (s : List Int) : ∀ k, (extN l s k).length ≤ s.length + k
  | 0 => by simp [extN]
  | k + 1 => by
    have := extN_len l s k
    unfold extN
    split
    · simp only [List.length_append, List.length_singleton]; omega
    · omega
def goodSet (n : Int) (l : List Edge) (s : List Int) : Bool := goodEds n l && (ixs s n && indep l s)
def extM (n : Int) (l : List Edge) (s : List Int) : List Int × Bool := if goodSet n l s then (sortI (extN l s n.toNat), true) else ([], false)
theorem extM_len (n : Int) (l : List Edge) (s : List Int) (hs : s.length ≤ 1048576) : (extM n l s).1.length ≤ 1048576 + 14 := by
  unfold extM
  split
  · rename_i g
    unfold goodSet at g
    rw [Bool.and_eq_true] at g
    have g := g.1
    unfold goodEds at g
    rw [Bool.and_eq_true] at g
    have := inB_of g.1
    have := extN_len l s n.toNat
    simp only [sortI_len]
    omega
  · simp
end Go.Proofs.Ytedciihjgbkjgaa.A


/- CONFLICT GRAPHS DRAWN. Conditions: none. -/
namespace Go.Proofs.Ytedciihjgbkjgaa.A
open Go
set_option linter.unusedSimpArgs false
set_option linter.unusedVariables false
set_option maxRecDepth 100000

def onV (c : Cur) (n : Nat) : Bool := decide (beV c n = 0)
theorem l1Once_sat (c : Cur) (n : Nat) (hc : c.ok) (h1 : 0 < n) (h2 : n ≤ 256) : Sat Try.prog 68 [lCur c, lInt n] [lBool (onV c n)] [lCur (byC c), g1] := by
  refine sat_of_body mixed Try.func68 rfl (by kernel_rfl) (by kernel_rfl) (rs := [.tmp 4]) rfl rfl rfl ?_
  have e : (((beV c n : Nat) : Int) == 0) = onV c n := by
    unfold onV
    rcases d : decide (beV c n = 0)
    · have := of_decide_eq_false d; rw [beq_eq_false_iff_ne]; omega
    · have := of_decide_eq_true d; rw [beq_iff_eq]; omega
  simp -implicitDefEqProofs (maxSteps := 2000000) only [go_sem]
  refine call_of (l1Below_sat c n hc h1 h2) (by simp -implicitDefEqProofs (maxSteps := 2000000) only [go_sem, e]) (by kernel_rfl) (by simp -implicitDefEqProofs (maxSteps := 2000000) only [go_sem, e]) ?_
  simp -implicitDefEqProofs (maxSteps := 2000000) only [go_sem, e]
  rfl
abbrev Dr := Cur × List Edge
def stepE (rare i k : Nat) (s : Dr) : Dr := if onV s.1 rare then (byC s.1, s.2 ++ [⟨i, k⟩]) else (byC s.1, s.2)
def rowD (rare i : Nat) (s : Dr) : Nat → Dr
  | 0 => s
  | j + 1 => stepE rare i (i + 1 + j) (rowD rare i s j)
def allD (rare n : Nat) (s : Dr) : Nat → Dr
  | 0 => s
  | i + 1 => rowD rare i (allD rare n s i) (n - (i + 1))
structure DrOk (s : Dr) (m : Nat) : Prop where
  ok : s.1.ok
  len : s.2.length ≤ m
theorem stepE_ok {rare i k m : Nat} {s : Dr} (h : DrOk s m) : DrOk (stepE rare i k s) (m + 1) := by
  unfold stepE
  split
  · refine ⟨byC_ok h.ok, ?_⟩
    have := h.len
    show (s.2 ++ [_]).length ≤ m + 1
    rw [List.length_append, List.length_singleton]; omega
  · refine ⟨byC_ok h.ok, ?_⟩
    have := h.len
    show s.2.length ≤ m + 1
    omega
theorem rowD_ok {rare i m : Nat} {s : Dr} (h : DrOk s m) : ∀ j, DrOk (rowD rare i s j) (m + j)
  | 0 => h
  | j + 1 => stepE_ok (rowD_ok h j)
theorem allD_ok {rare n m : Nat} {s : Dr} (h : DrOk s m) : ∀ i, DrOk (allD rare n s i) (m + i * n)
  | 0 => by rw [Nat.zero_mul]; exact h
  | i + 1 => by
    have h1 := rowD_ok (rare := rare) (i := i) (allD_ok (rare := rare) (n := n) h i) (n - (i + 1))
    have h2 := h1.len
    refine ⟨h1.ok, ?_⟩
    show (rowD rare i (allD rare n s i) (n - (i + 1))).2.length ≤ _
    rw [Nat.add_mul, Nat.one_mul]; omega
def edN (c : Cur) : Nat := beV c 9
def edR (c : Cur) : Nat := 2 + beV (byC c) 4
def edS (c : Cur) : Dr := allD (edR c) (edN c) (byC (byC c), []) (edN c)
/-- One edge is spoilt, now and then. -/
def edE (c : Cur) : Dr :=
  let s := edS c
  if s.2.length = 0 then s
  else if onV s.1 12 then
    let c1 := byC s.1
    let i := beV c1 s.2.length
    let c2 := byC c1
    (byC c2, s.2.set i ⟨(s.2.getD i default).a, ((beV c2 (edN c + 2) : Nat) : Int) - 1⟩)
  else (byC s.1, s.2)
abbrev Ds := Cur × List Int
def stepS (l : List Edge) (x : Nat) (s : Ds) : Ds :=
  if onV s.1 2 then (if onV (byC s.1) 8 || fitsE l s.2 x then (byC (byC s.1), s.2 ++ [(x : Int)]) else (byC (byC s.1), s.2)) else (byC s.1, s.2)
def somD (l : List Edge) (s : Ds) : Nat → Ds
  | 0 => s
  | x + 1 => stepS l x (somD l s x)
structure DsOk (s : Ds) (m : Nat) : Prop where
  ok : s.1.ok
  len : s.2.length ≤ m
theorem stepS_ok {l : List Edge} {x m : Nat} {s : Ds} (h : DsOk s m) : DsOk (stepS l x s) (m + 1) := by
  have := h.len
  unfold stepS
  split
  · split
    · exact ⟨byC_ok (byC_ok h.ok), by show (s.2 ++ [_]).length ≤ m + 1; rw [List.length_append, List.length_singleton]; omega⟩
    · exact ⟨byC_ok (byC_ok h.ok), by show s.2.length ≤ m + 1; omega⟩
  · exact ⟨byC_ok h.ok, by show s.2.length ≤ m + 1; omega⟩
theorem somD_ok {l : List Edge} {m : Nat} {s : Ds} (h : DsOk s m) : ∀ x, DsOk (somD l s x) (m + x)
  | 0 => h
  | x + 1 => stepS_ok (somD_ok h x)
def somE (c : Cur) (n : Nat) (l : List Edge) : Ds :=
  let s := somD l (c, []) n
  (byC s.1, if onV s.1 12 then s.2 ++ [(n : Int)] else s.2)
end Go.Proofs.Ytedciihjgbkjgaa.A


/- FACTS IN ORDER; VALID DATABASES. Conditions: none. -/
namespace Go.Proofs.Ytedciihjgbkjgaa.A
open Go
set_option linter.unusedSimpArgs false
set_option linter.unusedVariables false
set_option maxRecDepth 100000

def cmpI (a b : Int) : Int := if a < b then -1 else if a > b then 1 else 0
theorem isNaN_sat (a : Int) : Sat Try.prog 113 [lInt a] [lBool false] [g1] := by
  refine sat_of_body mixed Try.func113 rfl (by kernel_rfl) (by kernel_rfl) (rs := [.tmp 2]) rfl rfl rfl ?_
  simp -implicitDefEqProofs (maxSteps := 2000000) only [go_sem]
def cmpRI (a b : RI) : Int := if a.r < b.r then -1 else if a.r > b.r then 1 else cmpInts a.l b.l
/-- Is the i-th fact valid, and behind the one before it. -/
def factOk (d : Db) (i : Nat) : Bool := goodFact d.rels (d.facts.getD i default) && (decide (i = 0) || !decide (cmpRI (d.facts.getD (i - 1) default) (d.facts.getD i default) ≥ 0))
def goodDb (d : Db) : Bool := goodRels d.rels && (decide ((d.facts.length : Int) ≤ 14) && upTo (factOk d) d.facts.length)
end Go.Proofs.Ytedciihjgbkjgaa.A


/- DENIAL CONSTRAINTS: data, validity, violation. Conditions: none. -/
namespace Go.Proofs.Ytedciihjgbkjgaa.A
open Go
set_option linter.unusedSimpArgs false
set_option linter.unusedVariables false
set_option maxRecDepth 100000

structure Den where
  fr : Int
  sr : Int
  fj : Int
  sj : Int
  fc : Int
  sc : Int
  cp : Int
  deriving DecidableEq
instance : Inhabited Den := ⟨⟨0, 0, 0, 0, 0, 0, 0⟩⟩
def cDen (x : Den) : List Cell := [.sc (.int .i64 x.fr), .sc (.int .i64 x.sr), .sc (.int .i64 x.fj), .sc (.int .i64 x.sj), .sc (.int .i64 x.fc), .sc (.int .i64 x.sc), .sc (.int .i64 x.cp)]
def dens (l : List Den) : Rows := l.map cDen
theorem dens_length (l : List Den) : (dens l).length = l.length := by simp [dens]
theorem dens_get {l : List Den} {i : Nat} (h : i < l.length) : (dens l).getD i [] = [.sc (.int .i64 (l.getD i default).fr), .sc (.int .i64 (l.getD i default).sr), .sc (.int .i64 (l.getD i default).fj), .sc (.int .i64 (l.getD i default).sj), .sc (.int .i64 (l.getD i default).fc), .sc (.int .i64 (l.getD i default).sc), .sc (.int .i64 (l.getD i default).cp)] := get_map default cDen h
theorem dens_frz (l : List Den) : frz (dens l) = dens l := frz_map _ _ (fun _ => rfl) l
theorem dens_rst (l : List Den) : rst (dens l) = dens l := rst_map _ _ (fun _ => rfl) l
theorem dens_stm (n : Nat) (l : List Den) : stm n (dens l) = dens l := stm_map n _ _ (fun _ => rfl) l
theorem dens_flat (l : List Den) : flatB (dens l) = true := by simp [flatB, dens, cDen, Cell.flatB]
theorem dens_take (l : List Den) (k : Nat) : (dens l).take k = dens (l.take k) := by simp [dens]
theorem dens_drop (l : List Den) (k : Nat) : (dens l).drop k = dens (l.drop k) := by simp [dens]
theorem dens_set (l : List Den) (i : Nat) (a b c d e f g : Int) : (dens l).set i [.sc (.int .i64 a), .sc (.int .i64 b), .sc (.int .i64 c), .sc (.int .i64 d), .sc (.int .i64 e), .sc (.int .i64 f), .sc (.int .i64 g)] = dens (l.set i ⟨a, b, c, d, e, f, g⟩) := by simp [dens, List.map_set, cDen]
theorem dens_rep (n : Nat) (a b c d e f g : Int) : List.replicate n [Cell.sc (.int .i64 a), .sc (.int .i64 b), .sc (.int .i64 c), .sc (.int .i64 d), .sc (.int .i64 e), .sc (.int .i64 f), .sc (.int .i64 g)] = dens (List.replicate n ⟨a, b, c, d, e, f, g⟩) := by simp [dens, cDen]
theorem dens_still (l : List Den) : stillRows (dens l) = true := by simp [stillRows, dens, cDen, Cell.still]
attribute [go_sem] dens_length dens_get dens_frz dens_rst dens_stm dens_flat dens_take dens_drop dens_set dens_rep
abbrev lDen (x : Den) : LV := .agg [.sc (.int .i64 x.fr), .sc (.int .i64 x.sr), .sc (.int .i64 x.fj), .sc (.int .i64 x.sj), .sc (.int .i64 x.fc), .sc (.int .i64 x.sc), .sc (.int .i64 x.cp)]
abbrev sDen (x : Den) : List SV := [.sc (.int .i64 x.fr), .sc (.int .i64 x.sr), .sc (.int .i64 x.fj), .sc (.int .i64 x.sj), .sc (.int .i64 x.fc), .sc (.int .i64 x.sc), .sc (.int .i64 x.cp)]
abbrev lDens (l : List Den) : LV := .one (.im 7 (dens l))
abbrev oDens (l : List Den) : LV := .one (.ow 7 (dens l))
abbrev g7 : LV := .agg [.gone, .gone, .gone, .gone, .gone, .gone, .gone]
def szDens (a : List Den) (n : Int) : Int := if n - a.length < 0 then -1 else n - a.length
theorem szDens_ok : SzOk szDens (fun a => a.length ≤ 1048576) := by
  intro a n h
  unfold szDens
  split
  · exact ⟨by omega, fun h => absurd (by omega) h⟩
  · exact ⟨by omega, fun h => by omega⟩
theorem rel_of {l : List Rel} {k : Nat} (h : goodRels l = true) (hk : k < l.length) : (1 ≤ (l.getD k default).ar ∧ (l.getD k default).ar ≤ 3) ∧ 0 ≤ (l.getD k default).kl ∧ (l.getD k default).kl ≤ (l.getD k default).ar := by
  unfold goodRels at h
  rw [Bool.and_eq_true] at h
  have h1 := upTo_at h.1 hk
  unfold relOk goodRel at h1
  simp only [Bool.and_eq_true] at h1
  exact ⟨inB_of h1.1.2.2.2.1, inB_of h1.1.2.2.2.2⟩
theorem db_of {d : Db} (h : goodDb d = true) : goodRels d.rels = true ∧ d.facts.length ≤ 14 ∧ upTo (factOk d) d.facts.length = true := by
  unfold goodDb at h
  simp only [Bool.and_eq_true] at h
  refine ⟨h.1, ?_, h.2.2⟩
  have := of_decide_eq_true h.2.1
  omega
theorem fact_of {d : Db} {k : Nat} (h : goodDb d = true) (hk : k < d.facts.length) : goodFact d.rels (d.facts.getD k default) = true := by
  have h1 := upTo_at (db_of h).2.2 hk
  unfold factOk at h1
  rw [Bool.and_eq_true] at h1
  exact h1.1
theorem fact_at {l : List Rel} {f : RI} (h : goodFact l f = true) : ∃ m : Nat, f.r = m ∧ m < l.length ∧ (f.l.length : Int) = (l.getD m default).ar := by
  unfold goodFact at h
  simp only [Bool.and_eq_true] at h
  obtain ⟨h1, h2⟩ := inB_of h.1
  refine ⟨f.r.toNat, by omega, by omega, eq_of_beq h.2.1⟩

/-! #### valid constraints -/
abbrev arOf (d : Db) (r : Int) : Int := (d.rels.getD r.toNat default).ar
def goodDen (d : Db) (x : Den) : Bool := goodDb d && (inB x.fr 0 ((d.rels.length : Int) - 1) && (inB x.sr 0 ((d.rels.length : Int) - 1) && (inB x.fj 0 (arOf d x.fr - 1) && (inB x.fc 0 (arOf d x.fr - 1) && (inB x.sj 0 (arOf d x.sr - 1) && (inB x.sc 0 (arOf d x.sr - 1) && inB x.cp 1 2))))))
end Go.Proofs.Ytedciihjgbkjgaa.A


/- RELATIONS AND FACTS DRAWN. Conditions: none. -/
namespace Go.Proofs.Ytedciihjgbkjgaa.A
open Go
set_option linter.unusedSimpArgs false
set_option linter.unusedVariables false
set_option maxRecDepth 100000

/-! #### lists of texts -/
def cTx (s : ByteArray) : List Cell := [.sc (.string s)]
def txs (l : List ByteArray) : Rows := l.map cTx
theorem txs_length (l : List ByteArray) : (txs l).length = l.length := by simp [txs]
theorem txs_get {l : List ByteArray} {i : Nat} (h : i < l.length) : (txs l).getD i [] = [.sc (.string (l.getD i ⟨#[]⟩))] := get_map (⟨#[]⟩ : ByteArray) cTx h
theorem txs_rst (l : List ByteArray) : rst (txs l) = txs l := rst_map _ _ (fun _ => rfl) l
theorem txs_set (l : List ByteArray) (i : Nat) (s : ByteArray) : (txs l).set i [.sc (.string s)] = txs (l.set i s) := by simp [txs, List.map_set, cTx]
theorem txs_rep (n : Nat) (s : ByteArray) : List.replicate n [Cell.sc (.string s)] = txs (List.replicate n s) := by simp [txs, cTx]
theorem txs_take (l : List ByteArray) (k : Nat) : (txs l).take k = txs (l.take k) := by simp [txs]
attribute [go_sem] txs_length txs_rst txs_set txs_rep txs_take
abbrev oTxs (l : List ByteArray) : LV := .one (.ow 1 (txs l))
theorem l1Pick_own (c : Cur) (l : List ByteArray) (hc : c.ok) (h1 : 0 < l.length) (h2 : l.length ≤ 256) : Sat Try.prog 107 [lCur c, oTxs l] [lStr (l.getD (beV c l.length) ⟨#[]⟩)] [lCur (byC c), g1] := by
  refine sat_of_body mixed Try.func107 rfl (by kernel_rfl) (by kernel_rfl) (rs := [.tmp 4]) rfl rfl rfl ?_
  have hv := beV_lt c h1
  have e := txs_get hv
  simp -implicitDefEqProofs (maxSteps := 2000000) only [go_sem]
  refine call_of (l1Below_sat c l.length hc h1 h2) (by simp -implicitDefEqProofs (maxSteps := 2000000) only [go_sem, hv, e]) (by kernel_rfl) (by simp -implicitDefEqProofs (maxSteps := 2000000) only [go_sem, hv, e]) ?_
  simp -implicitDefEqProofs (maxSteps := 2000000) only [go_sem, hv, e]
  rfl

/-! #### relations -/
def sigL : List Int := [1, 1, 2, 0]
def sigK (c : Cur) : Int := sigL.getD (beV c 4) 0
def sigU (c : Cur) : Int := 1 + ((beV c 2 : Nat) : Int)
def sigR (a b : Int) : List Rel := [⟨⟨#[114]⟩, 2, 1⟩, ⟨⟨#[115]⟩, 2, 1⟩, ⟨⟨#[116]⟩, 2, a⟩, ⟨⟨#[117]⟩, 3, b⟩]
def sigs (c : Cur) : List Rel := sigR (sigK c) (sigU (byC c))
theorem l2Sigs_sat (c : Cur) (hc : c.ok) : Sat Try.prog 65 [lCur c] [oRels (sigs c)] [lCur (byC (byC c))] := by
  refine sat_of_body mixed Try.func65 rfl (by kernel_rfl) (by kernel_rfl) (rs := [.tmp 2]) rfl rfl rfl ?_
  have eL : ((((List.replicate 4 (0 : Int)).set 0 1).set 1 1).set 2 2).set 3 0 = sigL := rfl
  have el : sigL.length = 4 := rfl
  have hb := beV_lt (byC c) (n := 2) (by decide)
  have w : IntKind.i64.wrap (1 + ((beV (byC c) 2 : Nat) : Int)) = sigU (byC c) := IntWalk.i64_in _ (by omega)
  simp -implicitDefEqProofs (maxSteps := 2000000) only [go_sem]
  refine call_of (l1PickInt_own c sigL hc (by decide) (by decide)) (by simp -implicitDefEqProofs (maxSteps := 2000000) only [go_sem, eL, el]) (by kernel_rfl) (by simp -implicitDefEqProofs (maxSteps := 2000000) only [go_sem, eL, el]) ?_
  simp -implicitDefEqProofs (maxSteps := 2000000) only [go_sem, eL, el]
  refine call_of (l1Below_sat (byC c) 2 (byC_ok hc) (by decide) (by decide)) (by simp -implicitDefEqProofs (maxSteps := 2000000) only [go_sem, w] <;> and_intros <;> rfl) (by kernel_rfl) (by simp -implicitDefEqProofs (maxSteps := 2000000) only [go_sem, w]) ?_
  simp -implicitDefEqProofs (maxSteps := 2000000) only [go_sem, w]
  exact ⟨rfl, rfl⟩
def anyN : List ByteArray := [⟨#[114]⟩, ⟨#[122]⟩, ⟨#[97]⟩, ⟨#[]⟩, ⟨#[82]⟩, ⟨#[97, 98]⟩]
theorem anyN_ok : ∀ i : Fin 6, (anyN.getD i.val ⟨#[]⟩).size ≤ 2 := by decide
def anyR (c : Cur) : Rel := ⟨anyN.getD (beV c 6) ⟨#[]⟩, ((beV (byC c) 6 : Nat) : Int) - 1, ((beV (byC (byC c)) 5 : Nat) : Int) - 1⟩
def drawN (c : Cur) (v : Nat) : Nat → List Int × Cur
  | 0 => ([], c)
  | k + 1 => ((drawN c v k).1 ++ [((beV (drawN c v k).2 v : Nat) : Int)], byC (drawN c v k).2)
theorem drawN_len (c : Cur) (v : Nat) : ∀ k, (drawN c v k).1.length = k
  | 0 => rfl
  | k + 1 => by rw [drawN, List.length_append, drawN_len c v k]; rfl
theorem drawN_ok {c : Cur} (h : c.ok) (v : Nat) : ∀ k, (drawN c v k).2.ok
  | 0 => h
  | k + 1 => byC_ok (drawN_ok h v k)
def factA (c : Cur) (l : List Rel) : Nat := (l.getD (beV c l.length) default).ar.toNat
def factD (c : Cur) (l : List Rel) (v : Nat) : RI := ⟨((beV c l.length : Nat) : Int), (drawN (byC c) v (factA c l)).1⟩
def factC (c : Cur) (l : List Rel) (v : Nat) : Cur := (drawN (byC c) v (factA c l)).2
theorem factC_ok {c : Cur} (h : c.ok) (l : List Rel) (v : Nat) : (factC c l v).ok := drawN_ok (byC_ok h) v _
theorem factD_len (c : Cur) (l : List Rel) (v : Nat) : (factD c l v).l.length = factA c l := drawN_len _ _ _
abbrev zRI : List SV := [.sc (.int .i64 0), .sc (.slice none 0 0)]
end Go.Proofs.Ytedciihjgbkjgaa.A


/- FACTS INSERTED, DATABASES DRAWN. Conditions: none. -/
namespace Go.Proofs.Ytedciihjgbkjgaa.A
open Go
set_option linter.unusedSimpArgs false
set_option linter.unusedVariables false
set_option maxRecDepth 100000

abbrev yDb : List SV := [.sc (.slice none 0 0), .sc (.slice none 0 0)]
theorem ris_flatN {n : Nat} {x : RI} {l : List RI} : flatB (ris (n + 1) (x :: l)) = false := by simp [flatB, ris, cRI, Cell.flatB]
attribute [go_sem] ris_flatN
theorem repD1 {α : Type} (a : α) : List.replicate 1 a = [a] := rfl
def sameF (d : Db) (f : RI) (i : Nat) : Bool := !(cmpRI (d.facts.getD i default) f == 0)
def hasF (d : Db) (f : RI) : Bool := goodDb d && decide (firstNo (sameF d f) d.facts.length 0 ≥ 0)
end Go.Proofs.Ytedciihjgbkjgaa.A


/- SETS OF NUMBERS AS SORTED LISTS. Conditions: none. (No program in sight but the names.) -/
namespace Go.Proofs.Ytedciihjgbkjgaa.A
open Go
set_option linter.unusedSimpArgs false
set_option linter.unusedVariables false

abbrev Strict (l : List Int) : Prop := l.Pairwise (· < ·)
theorem strict_eq : ∀ {a b : List Int}, Strict a → Strict b → (∀ x, x ∈ a ↔ x ∈ b) → a = b
  | [], [], _, _, _ => rfl
  | [], y :: b, _, _, h => absurd ((h y).mpr (by simp)) (by simp)
  | x :: a, [], _, _, h => absurd ((h x).mp (by simp)) (by simp)
  | x :: a, y :: b, ha, hb, h => by
    obtain ⟨ha1, ha2⟩ := List.pairwise_cons.mp ha
    obtain ⟨hb1, hb2⟩ := List.pairwise_cons.mp hb
    have hxy : x = y := by
      rcases List.mem_cons.mp ((h x).mp (by simp)) with e | e
      · exact e
      · rcases List.mem_cons.mp ((h y).mpr (by simp)) with e' | e'
        · exact e'.symm
        · have := hb1 x e; have := ha1 y e'; omega
    subst hxy
    rw [strict_eq ha2 hb2 fun z => ?_]
    constructor
    · intro hz
      rcases List.mem_cons.mp ((h z).mp (List.mem_cons_of_mem _ hz)) with e | e
      · have := ha1 z hz; omega
      · exact e
    · intro hz
      rcases List.mem_cons.mp ((h z).mpr (List.mem_cons_of_mem _ hz)) with e | e
      · have := hb1 z hz; omega
      · exact e
abbrev Sorted (l : List Int) : Prop := l.Pairwise (· ≤ ·)
theorem sorted_sort (a : List Int) : Sorted (a.mergeSort fun x y => decide (x ≤ y)) := by
  have h := List.pairwise_mergeSort (le := fun x y : Int => decide (x ≤ y)) (by intro a b c; simp; omega) (by intro a b; simp; omega) a
  exact h.imp fun h => of_decide_eq_true h
theorem mem_sort (a : List Int) (x : Int) : x ∈ (a.mergeSort fun x y => decide (x ≤ y)) ↔ x ∈ a := List.mem_mergeSort
theorem compactUpTo_facts (zs : List Int) (hs : Sorted zs) : ∀ (m : Nat), m ≤ zs.length →
    Strict (Lib.compactUpTo zs.toArray m) ∧ (∀ x, x ∈ Lib.compactUpTo zs.toArray m ↔ x ∈ zs.take m)
  | 0, _ => by simp [Lib.compactUpTo]
  | m + 1, h => by
    obtain ⟨h1, h2⟩ := compactUpTo_facts zs hs m (by omega)
    have hm : m < zs.length := by omega
    have ht : zs.take (m + 1) = zs.take m ++ [zs[m]] := List.take_succ_eq_append_getElem hm
    have hle : ∀ x ∈ zs.take m, x ≤ zs[m] := by
      intro x hx
      obtain ⟨i, hi, rfl⟩ := List.mem_iff_getElem.mp hx
      simp only [List.length_take] at hi
      simp only [List.getElem_take]
      exact List.pairwise_iff_getElem.mp hs i m (by omega) hm (by omega)
    have hg : zs.toArray[m]! = zs[m] := by simp [hm]
    rw [Lib.compactUpTo_succ, ht, hg]
    by_cases hk : Lib.keeps zs.toArray m = true
    · rw [if_pos hk]
      have hlt : ∀ x ∈ zs.take m, x < zs[m] := by
        intro x hx
        have hxl := hle x hx
        unfold Lib.keeps at hk
        have hk := of_decide_eq_true hk
        rcases hk with rfl | hk
        · simp at hx
        · rw [hg] at hk
          obtain ⟨i, hi, rfl⟩ := List.mem_iff_getElem.mp hx
          simp only [List.length_take] at hi
          simp only [List.getElem_take] at hxl ⊢
          have h1 : zs.toArray[m - 1]! = zs[m - 1]'(by omega) := by simp [show m - 1 < zs.length by omega]
          rw [h1] at hk
          have h3 : zs[i]'(by omega) ≤ zs[m - 1]'(by omega) := by
            rcases Nat.lt_or_ge i (m - 1) with h | h
            · exact List.pairwise_iff_getElem.mp hs i (m - 1) (by omega) (by omega) h
            · have : i = m - 1 := by omega
              subst this; exact Int.le_refl _
          have h4 : zs[m - 1]'(by omega) ≤ zs[m] := List.pairwise_iff_getElem.mp hs (m - 1) m (by omega) (by omega) (by omega)
          omega
      refine ⟨List.pairwise_append.mpr ⟨h1, by simp, fun x hx y hy => ?_⟩, fun x => by simp only [List.mem_append, h2]⟩
      obtain rfl : y = zs[m] := by simpa using hy
      exact hlt x ((h2 x).mp hx)
    · rw [if_neg hk, List.append_nil]
      refine ⟨h1, fun x => ?_⟩
      rw [h2, List.mem_append, List.mem_singleton]
      refine ⟨.inl, fun h => h.elim id fun hx => ?_⟩
      subst hx
      unfold Lib.keeps at hk
      have hk : ¬ (m = 0 ∨ zs.toArray[m]! ≠ zs.toArray[m - 1]!) := fun h => hk (decide_eq_true h)
      have h0 : m ≠ 0 := fun h => hk (.inl h)
      have h1 : zs.toArray[m]! = zs.toArray[m - 1]! := Decidable.byContradiction fun h => hk (.inr h)
      have h2 : zs.toArray[m - 1]! = zs[m - 1]'(by omega) := by simp [show m - 1 < zs.length by omega]
      rw [hg, h2] at h1
      rw [h1]
      exact List.mem_iff_getElem.mpr ⟨m - 1, by simp; omega, by simp⟩
/-- The members of two lists, each once, in order. -/
def uni (a b : List Int) : List Int := Lib.compact ((a ++ b).mergeSort fun x y => decide (x ≤ y))
theorem uni_strict (a b : List Int) : Strict (uni a b) := (compactUpTo_facts _ (sorted_sort (a ++ b)) _ (Nat.le_refl _)).1
theorem uni_mem (a b : List Int) (x : Int) : x ∈ uni a b ↔ x ∈ a ∨ x ∈ b := by
  have h := (compactUpTo_facts _ (sorted_sort (a ++ b)) _ (Nat.le_refl _)).2 x
  rw [List.take_of_length_le (Nat.le_refl _), mem_sort, List.mem_append] at h
  exact h
theorem uni_len (a b : List Int) : (uni a b).length ≤ a.length + b.length := by
  have h := compact_len ((a ++ b).mergeSort fun x y => decide (x ≤ y))
  rw [List.length_mergeSort, List.length_append] at h
  exact h
/-- The numbers below k that something picks. -/
def selN (p : Int → Bool) : Nat → List Int
  | 0 => []
  | k + 1 => if p k then selN p k ++ [(k : Int)] else selN p k
theorem selN_len (p : Int → Bool) : ∀ k, (selN p k).length ≤ k
  | 0 => by simp [selN]
  | k + 1 => by
    have := selN_len p k
    unfold selN; split
    · simp; omega
    · omega
theorem selN_no {p : Int → Bool} {k : Nat} (h : p k = false) : selN p (k + 1) = selN p k := by simp [selN, h]
theorem selN_yes {p : Int → Bool} {k : Nat} (h : p k = true) : selN p (k + 1) = selN p k ++ [(k : Int)] := by simp [selN, h]
theorem selN_mem (p : Int → Bool) (x : Int) : ∀ k, x ∈ selN p k ↔ 0 ≤ x ∧ x < k ∧ p x = true
  | 0 => by simp [selN]; omega
  | k + 1 => by
    have ih := selN_mem p x k
    unfold selN
    split
    · rename_i h
      rw [List.mem_append, ih, List.mem_singleton]
      constructor
      · rintro (h | rfl)
        · exact ⟨h.1, by omega, h.2.2⟩
        · exact ⟨by omega, by omega, h⟩
      · rintro ⟨h1, h2, h3⟩
        by_cases e : x = k
        · exact .inr e
        · exact .inl ⟨h1, by omega, h3⟩
    · rename_i h
      rw [ih]
      constructor
      · rintro ⟨h1, h2, h3⟩; exact ⟨h1, by omega, h3⟩
      · rintro ⟨h1, h2, h3⟩
        refine ⟨h1, ?_, h3⟩
        by_cases e : x = k
        · subst e; exact absurd h3 h
        · omega
theorem selN_strict (p : Int → Bool) : ∀ k, Strict (selN p k)
  | 0 => by simp [selN]
  | k + 1 => by
    have ih := selN_strict p k
    unfold selN
    split
    · refine List.pairwise_append.mpr ⟨ih, by simp, fun x hx y hy => ?_⟩
      obtain rfl : y = k := by simpa using hy
      exact ((selN_mem p x k).mp hx).2.1
    · exact ih
end Go.Proofs.Ytedciihjgbkjgaa.A


/- UNIONS AND THE VARIABLES OF AN ATOM. Conditions: none. -/
namespace Go.Proofs.Ytedciihjgbkjgaa.A
open Go
set_option linter.unusedSimpArgs false
set_option linter.unusedVariables false
set_option maxRecDepth 100000

theorem flat_step {l : List (List Int)} {i : Nat} (h : i < l.length) : (l.take (i + 1)).flatten = (l.take i).flatten ++ l.getD i [] := by
  rw [take_snoc [] h, List.flatten_append]; simp
theorem flat_le {l : List (List Int)} (i : Nat) : (l.take i).flatten.length ≤ l.flatten.length := by
  have h : l.flatten = (l.take i).flatten ++ (l.drop i).flatten := by rw [← List.flatten_append, List.take_append_drop]
  rw [h, List.length_append]; omega
theorem slicesConcat_sat (l : List (List Int)) (hl : l.length ≤ 1048576) (h : l.flatten.length ≤ 4194304) : Sat Try.prog 81 [lISS l] [oInts l.flatten] [g1] := by
  refine sat_of_body mixed Try.func81 rfl (by kernel_rfl) (by kernel_rfl) (rs := [.tmp 2]) rfl rfl rfl ?_
  simp -implicitDefEqProofs (maxSteps := 2000000) only [go_sem]
  refine awp_loop Nat (fun k => mkSt [(0, .one (.im 1 (iss 0 l))), (3, .sc (.int .i64 (l.take k).flatten.length)), (9, .one (.im 1 (iss 0 l))), (10, .sc (.int .i64 l.length)), (11, .sc (.int .i64 k))] [] [] 1000)
    (fun k => k ≤ l.length) (fun k => l.length - k) 0 (by omega) (le_st _ _ [] [] _ rfl (by simp -implicitDefEqProofs (maxSteps := 2000000) only [go_sem] <;> rfl) trivial trivial) ?_
  rintro k h1
  have f1 := flat_le (l := l) k
  by_cases c1 : k < l.length
  · have f2 := flat_le (l := l) (k + 1)
    have f3 := flat_step c1
    have f4 := congrArg List.length f3
    rw [List.length_append] at f4
    simp -implicitDefEqProofs (maxSteps := 2000000) only [go_sem, c1]
    rw [IntWalk.i64_in _ (by omega), show ((l.take k).flatten.length : Int) + ((l.getD k []).length : Int) = ((l.take (k + 1)).flatten.length : Int) by omega]
    rw [decide_eq_false (show ¬ (((l.take (k + 1)).flatten.length : Int) < 0) by omega)]
    simp -implicitDefEqProofs (maxSteps := 2000000) only [go_sem]
    rw [i64_succ (by omega)]
    exact ⟨k + 1, c1, by omega, (le_st _ _ [] [] _ rfl (by simp -implicitDefEqProofs (maxSteps := 2000000) only [go_sem] <;> rfl) trivial trivial)⟩
  simp -implicitDefEqProofs (maxSteps := 2000000) only [go_sem, c1]
  obtain rfl : k = l.length := by omega
  rw [List.take_length]
  refine call_of (slicesGrow_sat l.flatten.length h) (by simp -implicitDefEqProofs (maxSteps := 2000000) only [go_sem]) (by kernel_rfl) (by simp -implicitDefEqProofs (maxSteps := 2000000) only [go_sem]) ?_
  simp -implicitDefEqProofs (maxSteps := 2000000) only [go_sem]
  refine awp_loop Nat (fun k => mkSt [(6, .one (.ref 960 1 0 (l.take k).flatten.length)), (25, .one (.im 1 (iss 0 l))), (26, .sc (.int .i64 l.length)), (27, .sc (.int .i64 k))] [] [(960, (1, ints (l.take k).flatten))] 2000)
    (fun k => k ≤ l.length) (fun k => l.length - k) 0 (by omega) (le_st' _ _ [⟨960, some _, false, 1, _⟩] [] _ (by simp -implicitDefEqProofs (maxSteps := 2000000) only [go_sem] <;> and_intros <;> rfl) (by simp -implicitDefEqProofs (maxSteps := 2000000) only [go_sem] <;> and_intros <;> rfl) (by simp -implicitDefEqProofs (maxSteps := 2000000) only [go_sem] <;> and_intros <;> rfl) (by rfl)) ?_
  rintro k h1
  have f1 := flat_le (l := l) k
  by_cases c1 : k < l.length
  · have f2 := flat_le (l := l) (k + 1)
    have f3 := flat_step c1
    have f4 := congrArg List.length f3
    rw [List.length_append] at f4
    simp -implicitDefEqProofs (maxSteps := 2000000) only [go_sem, c1]
    refine ⟨by omega, ?_⟩
    rw [i64_succ (by omega)]
    refine ⟨k + 1, c1, by omega, ?_⟩
    rw [f3]
    exact (le_st' _ _ [⟨960, some _, false, 1, _⟩] [] _ (by simp -implicitDefEqProofs (maxSteps := 2000000) only [go_sem] <;> and_intros <;> rfl) (by simp -implicitDefEqProofs (maxSteps := 2000000) only [go_sem] <;> and_intros <;> rfl) (by simp -implicitDefEqProofs (maxSteps := 2000000) only [go_sem] <;> and_intros <;> rfl) (by rfl))
  · obtain rfl : k = l.length := by omega
    simp -implicitDefEqProofs (maxSteps := 2000000) only [go_sem, c1]
    rfl
theorem frz_two (a b : List Int) : frz [[Cell.sl 0 (iv a)], [Cell.sl 0 (iv b)]] = iss 0 [a, b] := rfl
theorem union_sat (a b : List Int) (h : a.length + b.length ≤ 4194304) : Sat Try.prog 62 [lInts a, lInts b] [oInts (uni a b)] [g1, g1] := by
  refine sat_of_body mixed Try.func62 rfl (by kernel_rfl) (by kernel_rfl) (rs := [.tmp 4]) rfl rfl rfl ?_
  simp -implicitDefEqProofs (maxSteps := 2000000) only [go_sem]
  refine call_of (slicesConcat_sat [a, b] (by simp) (by simp; omega)) (by simp -implicitDefEqProofs (maxSteps := 2000000) only [go_sem, frz_two]) (callOk_still (by kernel_rfl) (by simp only [List.all_cons, List.all_nil, LV.still, LV.leaves, Leaf.still, ints_still, ris_still, eds_still, rels_still, iss_still, ems_still, Bool.and_self, Bool.and_true])) (by simp -implicitDefEqProofs (maxSteps := 2000000) only [go_sem, frz_two]) ?_
  simp -implicitDefEqProofs (maxSteps := 2000000) only [go_sem, frz_two]
  refine call_of (slicesSort_sat (a ++ b) (by simp; omega)) (by simp -implicitDefEqProofs (maxSteps := 2000000) only [go_sem]) (by kernel_rfl) (by simp -implicitDefEqProofs (maxSteps := 2000000) only [go_sem]) ?_
  simp -implicitDefEqProofs (maxSteps := 2000000) only [go_sem]
  refine call_of (slicesCompact_sat ((a ++ b).mergeSort fun x y => decide (x ≤ y)) (by rw [List.length_mergeSort, List.length_append]; omega)) (by simp -implicitDefEqProofs (maxSteps := 2000000) only [go_sem, List.length_mergeSort, List.length_append]) (by kernel_rfl) (by simp -implicitDefEqProofs (maxSteps := 2000000) only [go_sem, List.length_mergeSort, List.length_append]) ?_
  simp -implicitDefEqProofs (maxSteps := 2000000) only [go_sem, List.length_mergeSort, List.length_append]
  exact ⟨rfl, rfl⟩
/-- The variables of an atom. -/
def varsOf (l : List Int) : List Int := selN (fun v => decide (v ∈ l)) 4
theorem varsOf_len (l : List Int) : (varsOf l).length ≤ 4 := selN_len _ 4
theorem specAtomVariables_sat (a : RI) (h : a.fit) : Sat Try.prog 33 [lRI a] [oInts (varsOf a.l)] [g2] := by
  refine sat_of_body mixed Try.func33 rfl (by kernel_rfl) (by kernel_rfl) (rs := [.tmp 2]) rfl rfl rfl ?_
  unfold varsOf
  generalize hp : (fun v => decide (v ∈ a.l)) = p
  simp -implicitDefEqProofs (maxSteps := 2000000) only [go_sem]
  refine awp_loop Nat (fun k => mkSt [(1, .one (.vad 1000 0)), (3, .one (.ref 960 1 0 (selN p k).length)), (4, .sc (.int .i64 k))] [(1000, sRI a)] [(960, (1, ints (selN p k)))] 2000)
    (fun k => k ≤ 4) (fun k => 4 - k) 0 (by omega) (le_st' _ _ [⟨960, some _, false, 1, _⟩] [] _ (by simp -implicitDefEqProofs (maxSteps := 2000000) only [go_sem] <;> and_intros <;> rfl) (by simp -implicitDefEqProofs (maxSteps := 2000000) only [go_sem] <;> and_intros <;> rfl) (by simp -implicitDefEqProofs (maxSteps := 2000000) only [go_sem] <;> and_intros <;> rfl) (by rfl)) ?_
  rintro k h1
  have hl := selN_len p k
  by_cases c1 : k < 4
  · have c3 : (k : Int) < 4 := by omega
    simp -implicitDefEqProofs (maxSteps := 2000000) only [go_sem, c3]
    refine call_of (l7Has_sat a.l k h) (by simp -implicitDefEqProofs (maxSteps := 2000000) only [go_sem, c3]) (by kernel_rfl) (by simp -implicitDefEqProofs (maxSteps := 2000000) only [go_sem, c3]) ?_
    simp -implicitDefEqProofs (maxSteps := 2000000) only [go_sem, c3]
    rcases d : decide ((k : Int) ∈ a.l)
    · simp -implicitDefEqProofs (maxSteps := 2000000) only [go_sem, d]
      rw [i64_succ (by omega)]
      refine ⟨k + 1, by omega, by omega, ?_⟩
      rw [selN_no (by rw [← hp]; exact d)]
      exact (le_st' _ _ [⟨960, some _, false, 1, _⟩] [] _ (by simp -implicitDefEqProofs (maxSteps := 2000000) only [go_sem] <;> and_intros <;> rfl) (by simp -implicitDefEqProofs (maxSteps := 2000000) only [go_sem] <;> and_intros <;> rfl) (by simp -implicitDefEqProofs (maxSteps := 2000000) only [go_sem] <;> and_intros <;> rfl) (by rfl))
    · simp -implicitDefEqProofs (maxSteps := 2000000) only [go_sem, d]
      refine ⟨by omega, ?_⟩
      rw [i64_succ (by omega)]
      refine ⟨k + 1, by omega, by omega, ?_⟩
      rw [selN_yes (by rw [← hp]; exact d)]
      exact (le_st' _ _ [⟨960, some _, false, 1, _⟩] [] _ (by simp -implicitDefEqProofs (maxSteps := 2000000) only [go_sem] <;> and_intros <;> rfl) (by simp -implicitDefEqProofs (maxSteps := 2000000) only [go_sem] <;> and_intros <;> rfl) (by simp -implicitDefEqProofs (maxSteps := 2000000) only [go_sem] <;> and_intros <;> rfl) (by rfl))
  · have c3 : ¬ (k : Int) < 4 := by omega
    simp -implicitDefEqProofs (maxSteps := 2000000) only [go_sem, c3]
    obtain rfl : k = 4 := by omega
    exact ⟨rfl, rfl⟩
theorem varsOf_uni (l : List Int) : uni (l.filter fun x => decide (0 ≤ x) && decide (x ≤ 3)) [] = varsOf l := by
  refine strict_eq (uni_strict _ _) (selN_strict _ _) fun x => ?_
  rw [varsOf, uni_mem, selN_mem, List.mem_filter]
  simp only [List.not_mem_nil, or_false, Bool.and_eq_true, decide_eq_true_eq]
  constructor
  · rintro ⟨h1, h2, h3⟩; exact ⟨h2, by omega, h1⟩
  · rintro ⟨h1, h2, h3⟩; exact ⟨h3, h1, by omega⟩
theorem implAtomVariables_sat (a : RI) (h : a.ok) : Sat Try.prog 30 [lRI a] [oInts (varsOf a.l)] [g2] := by
  unfold RI.ok at h
  refine sat_of_body mixed Try.func30 rfl (by kernel_rfl) (by kernel_rfl) (rs := [.tmp 2]) rfl rfl rfl ?_
  rw [← varsOf_uni]
  generalize hp : (fun x : Int => decide (0 ≤ x) && decide (x ≤ 3)) = p
  simp -implicitDefEqProofs (maxSteps := 2000000) only [go_sem]
  refine awp_loop Nat (fun k => mkSt [(3, .one (.ref 960 1 0 ((a.l.take k).filter p).length)), (8, .one (.im 1 (ints a.l))), (9, .sc (.int .i64 a.l.length)), (10, .sc (.int .i64 k))] [] [(960, (1, ints ((a.l.take k).filter p)))] 2000)
    (fun k => k ≤ a.l.length) (fun k => a.l.length - k) 0 (by omega) (le_st' _ _ [⟨960, some _, false, 1, _⟩] [] _ (by simp -implicitDefEqProofs (maxSteps := 2000000) only [go_sem] <;> and_intros <;> rfl) (by simp -implicitDefEqProofs (maxSteps := 2000000) only [go_sem] <;> and_intros <;> rfl) (by simp -implicitDefEqProofs (maxSteps := 2000000) only [go_sem] <;> and_intros <;> rfl) (by rfl)) ?_
  rintro k h1
  have hl : ((a.l.take k).filter p).length ≤ a.l.length := Nat.le_trans (List.length_filter_le _ _) (by rw [List.length_take]; omega)
  by_cases c1 : k < a.l.length
  · have t := take_snoc 0 c1
    simp -implicitDefEqProofs (maxSteps := 2000000) only [go_sem, c1]
    refine call_of (within_sat (a.l.getD k 0) 0 3) (by simp -implicitDefEqProofs (maxSteps := 2000000) only [go_sem, c1]) (by kernel_rfl) (by simp -implicitDefEqProofs (maxSteps := 2000000) only [go_sem, c1]) ?_
    simp -implicitDefEqProofs (maxSteps := 2000000) only [go_sem, c1]
    rcases d : (decide (0 ≤ a.l.getD k 0) && decide (a.l.getD k 0 ≤ 3))
    · simp -implicitDefEqProofs (maxSteps := 2000000) only [go_sem, d]
      rw [i64_succ (by omega)]
      refine ⟨k + 1, c1, by omega, ?_⟩
      rw [t, List.filter_append, List.filter_cons_of_neg (by rw [← hp]; show ¬ ((decide (0 ≤ a.l.getD k 0) && decide (a.l.getD k 0 ≤ 3)) = true); rw [d]; simp), List.filter_nil, List.append_nil]
      exact (le_st' _ _ [⟨960, some _, false, 1, _⟩] [] _ (by simp -implicitDefEqProofs (maxSteps := 2000000) only [go_sem] <;> and_intros <;> rfl) (by simp -implicitDefEqProofs (maxSteps := 2000000) only [go_sem] <;> and_intros <;> rfl) (by simp -implicitDefEqProofs (maxSteps := 2000000) only [go_sem] <;> and_intros <;> rfl) (by rfl))
    · simp -implicitDefEqProofs (maxSteps := 2000000) only [go_sem, d]
      refine ⟨by omega, ?_⟩
      rw [i64_succ (by omega)]
      refine ⟨k + 1, c1, by omega, ?_⟩
      rw [t, List.filter_append, List.filter_cons_of_pos (by rw [← hp]; exact d), List.filter_nil]
      exact (le_st' _ _ [⟨960, some _, false, 1, _⟩] [] _ (by simp -implicitDefEqProofs (maxSteps := 2000000) only [go_sem] <;> and_intros <;> rfl) (by simp -implicitDefEqProofs (maxSteps := 2000000) only [go_sem] <;> and_intros <;> rfl) (by simp -implicitDefEqProofs (maxSteps := 2000000) only [go_sem] <;> and_intros <;> rfl) (by rfl))
  · obtain rfl : k = a.l.length := by omega
    simp -implicitDefEqProofs (maxSteps := 2000000) only [go_sem, c1]
    rw [List.take_length] at hl
    refine call_of (union_sat (a.l.filter p) [] (by simp; omega)) (by simp -implicitDefEqProofs (maxSteps := 2000000) only [go_sem, ints_nil]) (callOk_still (by kernel_rfl) (by simp only [List.all_cons, List.all_nil, LV.still, LV.leaves, Leaf.still, ints_still, ris_still, eds_still, rels_still, iss_still, ems_still, Bool.and_self, Bool.and_true])) (by simp -implicitDefEqProofs (maxSteps := 2000000) only [go_sem, ints_nil]) ?_
    simp -implicitDefEqProofs (maxSteps := 2000000) only [go_sem, ints_nil]
    rfl
end Go.Proofs.Ytedciihjgbkjgaa.A


/- THE KEY VARIABLES OF AN ATOM. Conditions: none. -/
namespace Go.Proofs.Ytedciihjgbkjgaa.A
open Go
set_option linter.unusedSimpArgs false
set_option linter.unusedVariables false
set_option maxRecDepth 100000

def keyVars (l : List Rel) (a : RI) : List Int := if inB a.r 0 ((l.length : Int) - 1) && inB (l.getD a.r.toNat default).kl 0 a.l.length then varsOf (a.l.take (l.getD a.r.toNat default).kl.toNat) else []
theorem keyVars_len (l : List Rel) (a : RI) : (keyVars l a).length ≤ 4 := by
  unfold keyVars; split
  · exact varsOf_len _
  · simp
theorem specKeyVariables_sat (l : List Rel) (a : RI) (h : l.length ≤ 9223372036854775807) (ha : a.fit) : Sat Try.prog 32 [lRels l, lRI a] [oInts (keyVars l a)] [g1, g2] := by
  refine sat_of_body mixed Try.func32 rfl (by kernel_rfl) (by kernel_rfl) (rs := [.tmp 4]) rfl rfl rfl ?_
  rcases a with ⟨r, ts⟩
  have w0 : IntKind.i64.wrap ((l.length : Int) - 1) = (l.length : Int) - 1 := IntWalk.i64_in _ (by omega)
  simp -implicitDefEqProofs (maxSteps := 2000000) only [go_sem, w0]
  rcases i1 : inB r 0 ((l.length : Int) - 1)
  · rw [show keyVars l ⟨r, ts⟩ = [] by rw [keyVars, i1]; rfl]
    refine call_of (inB_sat r 0 ((l.length : Int) - 1)) (by simp -implicitDefEqProofs (maxSteps := 2000000) only [go_sem, i1]) (by kernel_rfl) (by simp -implicitDefEqProofs (maxSteps := 2000000) only [go_sem, i1]) ?_
    simp -implicitDefEqProofs (maxSteps := 2000000) only [go_sem, i1]
    first | done | rfl | exact ⟨rfl, rfl⟩ | exact ⟨rfl, rfl, rfl⟩ | (refine tr_and ?_ ?_ <;> first | rfl | exact ⟨rfl, rfl⟩ | kernel_rfl)
  obtain ⟨r1, r2⟩ := inB_of i1
  obtain ⟨m, rfl⟩ : ∃ m : Nat, r = m := ⟨r.toNat, by omega⟩
  have c1 : m < l.length := by omega
  rcases i2 : inB (l.getD m default).kl 0 ts.length
  · rw [show keyVars l ⟨m, ts⟩ = [] by rw [keyVars]; simp only [Int.toNat_natCast, i1, i2]; rfl]
    refine call_of (inB_sat m 0 ((l.length : Int) - 1)) (by simp -implicitDefEqProofs (maxSteps := 2000000) only [go_sem, i1, c1]) (by kernel_rfl) (by simp -implicitDefEqProofs (maxSteps := 2000000) only [go_sem, i1, c1]) ?_
    simp -implicitDefEqProofs (maxSteps := 2000000) only [go_sem, i1, c1]
    refine call_of (inB_sat (l.getD m default).kl 0 ts.length) (by simp -implicitDefEqProofs (maxSteps := 2000000) only [go_sem, i2]) (by kernel_rfl) (by simp -implicitDefEqProofs (maxSteps := 2000000) only [go_sem, i2]) ?_
    simp -implicitDefEqProofs (maxSteps := 2000000) only [go_sem, i2]
    first | done | rfl | exact ⟨rfl, rfl⟩ | exact ⟨rfl, rfl, rfl⟩ | (refine tr_and ?_ ?_ <;> first | rfl | exact ⟨rfl, rfl⟩ | kernel_rfl)
  obtain ⟨r3, r4⟩ := inB_of i2
  obtain ⟨K, hK⟩ : ∃ K : Nat, (l.getD m default).kl = K := ⟨(l.getD m default).kl.toNat, by omega⟩
  have c2 : K ≤ ts.length := by omega
  rw [hK] at i2
  rw [show keyVars l ⟨m, ts⟩ = varsOf (ts.take K) by rw [keyVars]; simp only [Int.toNat_natCast, i1, hK, i2]; rfl]
  refine call_of (inB_sat m 0 ((l.length : Int) - 1)) (by simp -implicitDefEqProofs (maxSteps := 2000000) only [go_sem, i1, c1]) (by kernel_rfl) (by simp -implicitDefEqProofs (maxSteps := 2000000) only [go_sem, i1, c1]) ?_
  simp -implicitDefEqProofs (maxSteps := 2000000) only [go_sem, i1, c1]
  refine call_of (inB_sat K 0 ts.length) (by simp -implicitDefEqProofs (maxSteps := 2000000) only [go_sem, i2, c1, hK, c2, Nat.zero_le]) (by kernel_rfl) (by simp -implicitDefEqProofs (maxSteps := 2000000) only [go_sem, i2, c1, hK, c2, Nat.zero_le]) ?_
  simp -implicitDefEqProofs (maxSteps := 2000000) only [go_sem, i2, c1, hK, c2, Nat.zero_le]
  refine call_of (specAtomVariables_sat ⟨0, ts.take K⟩ (by unfold RI.fit at ha ⊢; simp only [List.length_take] at ha ⊢; omega)) (by simp -implicitDefEqProofs (maxSteps := 2000000) only [go_sem]) (callOk_still (by kernel_rfl) (by simp only [List.all_cons, List.all_nil, LV.still, LV.leaves, Leaf.still, ints_still, ris_still, eds_still, rels_still, iss_still, ems_still, Bool.and_self, Bool.and_true])) (by simp -implicitDefEqProofs (maxSteps := 2000000) only [go_sem]) ?_
  simp -implicitDefEqProofs (maxSteps := 2000000) only [go_sem]
  first | done | rfl | exact ⟨rfl, rfl⟩ | exact ⟨rfl, rfl, rfl⟩ | (refine tr_and ?_ ?_ <;> first | rfl | exact ⟨rfl, rfl⟩ | kernel_rfl)
theorem implKeyVariables_sat (l : List Rel) (a : RI) (h : l.length ≤ 9223372036854775807) (ha : a.ok) : Sat Try.prog 29 [lRels l, lRI a] [oInts (keyVars l a)] [g1, g2] := by
  refine sat_of_body mixed Try.func29 rfl (by kernel_rfl) (by kernel_rfl) (rs := [.tmp 4]) rfl rfl rfl ?_
  rcases a with ⟨r, ts⟩
  have w0 : IntKind.i64.wrap ((l.length : Int) - 1) = (l.length : Int) - 1 := IntWalk.i64_in _ (by omega)
  simp -implicitDefEqProofs (maxSteps := 2000000) only [go_sem, w0]
  rcases i1 : inB r 0 ((l.length : Int) - 1)
  · rw [show keyVars l ⟨r, ts⟩ = [] by rw [keyVars, i1]; rfl]
    refine call_of (inW_sat r 0 ((l.length : Int) - 1)) (by simp -implicitDefEqProofs (maxSteps := 2000000) only [go_sem, i1]) (by kernel_rfl) (by simp -implicitDefEqProofs (maxSteps := 2000000) only [go_sem, i1]) ?_
    simp -implicitDefEqProofs (maxSteps := 2000000) only [go_sem, i1]
    first | done | rfl | exact ⟨rfl, rfl⟩ | exact ⟨rfl, rfl, rfl⟩ | (refine tr_and ?_ ?_ <;> first | rfl | exact ⟨rfl, rfl⟩ | kernel_rfl)
  obtain ⟨r1, r2⟩ := inB_of i1
  obtain ⟨m, rfl⟩ : ∃ m : Nat, r = m := ⟨r.toNat, by omega⟩
  have c1 : m < l.length := by omega
  rcases i2 : inB (l.getD m default).kl 0 ts.length
  · rw [show keyVars l ⟨m, ts⟩ = [] by rw [keyVars]; simp only [Int.toNat_natCast, i1, i2]; rfl]
    refine call_of (inW_sat m 0 ((l.length : Int) - 1)) (by simp -implicitDefEqProofs (maxSteps := 2000000) only [go_sem, i1, c1]) (by kernel_rfl) (by simp -implicitDefEqProofs (maxSteps := 2000000) only [go_sem, i1, c1]) ?_
    simp -implicitDefEqProofs (maxSteps := 2000000) only [go_sem, i1, c1]
    refine call_of (inW_sat (l.getD m default).kl 0 ts.length) (by simp -implicitDefEqProofs (maxSteps := 2000000) only [go_sem, i2]) (by kernel_rfl) (by simp -implicitDefEqProofs (maxSteps := 2000000) only [go_sem, i2]) ?_
    simp -implicitDefEqProofs (maxSteps := 2000000) only [go_sem, i2]
    first | done | rfl | exact ⟨rfl, rfl⟩ | exact ⟨rfl, rfl, rfl⟩ | (refine tr_and ?_ ?_ <;> first | rfl | exact ⟨rfl, rfl⟩ | kernel_rfl)
  obtain ⟨r3, r4⟩ := inB_of i2
  obtain ⟨K, hK⟩ : ∃ K : Nat, (l.getD m default).kl = K := ⟨(l.getD m default).kl.toNat, by omega⟩
  have c2 : K ≤ ts.length := by omega
  rw [hK] at i2
  rw [show keyVars l ⟨m, ts⟩ = varsOf (ts.take K) by rw [keyVars]; simp only [Int.toNat_natCast, i1, hK, i2]; rfl]
  refine call_of (inW_sat m 0 ((l.length : Int) - 1)) (by simp -implicitDefEqProofs (maxSteps := 2000000) only [go_sem, i1, c1]) (by kernel_rfl) (by simp -implicitDefEqProofs (maxSteps := 2000000) only [go_sem, i1, c1]) ?_
  simp -implicitDefEqProofs (maxSteps := 2000000) only [go_sem, i1, c1]
  refine call_of (inW_sat K 0 ts.length) (by simp -implicitDefEqProofs (maxSteps := 2000000) only [go_sem, i2, c1, hK, c2, Nat.zero_le]) (by kernel_rfl) (by simp -implicitDefEqProofs (maxSteps := 2000000) only [go_sem, i2, c1, hK, c2, Nat.zero_le]) ?_
  simp -implicitDefEqProofs (maxSteps := 2000000) only [go_sem, i2, c1, hK, c2, Nat.zero_le]
  refine call_of (implAtomVariables_sat ⟨0, ts.take K⟩ (by unfold RI.ok at ha ⊢; simp only [List.length_take] at ha ⊢; omega)) (by simp -implicitDefEqProofs (maxSteps := 2000000) only [go_sem]) (callOk_still (by kernel_rfl) (by simp only [List.all_cons, List.all_nil, LV.still, LV.leaves, Leaf.still, ints_still, ris_still, eds_still, rels_still, iss_still, ems_still, Bool.and_self, Bool.and_true])) (by simp -implicitDefEqProofs (maxSteps := 2000000) only [go_sem]) ?_
  simp -implicitDefEqProofs (maxSteps := 2000000) only [go_sem]
  first | done | rfl | exact ⟨rfl, rfl⟩ | exact ⟨rfl, rfl, rfl⟩ | (refine tr_and ?_ ?_ <;> first | rfl | exact ⟨rfl, rfl⟩ | kernel_rfl)
end Go.Proofs.Ytedciihjgbkjgaa.A


/- VALID QUERIES. Conditions: none. -/
namespace Go.Proofs.Ytedciihjgbkjgaa.A
open Go
set_option linter.unusedSimpArgs false
set_option linter.unusedVariables false
set_option maxRecDepth 100000

/-- Is the i-th number an index, and behind the one before it. -/
def idxAt (l : List Int) (n : Int) (i : Nat) : Bool := inB (l.getD i 0) 0 (n - 1) && (decide (i = 0) || !decide (l.getD i 0 ≤ l.getD (i - 1) 0))
def idxs (l : List Int) (n : Int) : Bool := upTo (idxAt l n) l.length
theorem areIndices_sat (l : List Int) (n : Int) (h : l.length ≤ 9223372036854775807) (hn : -9223372036854775807 ≤ n ∧ n ≤ 9223372036854775807) : Sat Try.prog 70 [lInts l, lInt n] [lBool (idxs l n)] [g1, g1] := by
  refine sat_of_body mixed Try.func70 rfl (by kernel_rfl) (by kernel_rfl) (rs := [.tmp 4]) rfl rfl rfl ?_
  unfold idxs
  have w0 : IntKind.i64.wrap (n - 1) = n - 1 := IntWalk.i64_in _ (by omega)
  simp -implicitDefEqProofs (maxSteps := 2000000) only [go_sem]
  refine awp_loop Nat (fun k => mkSt [(0, .one (.im 1 (ints l))), (1, .sc (.int .i64 n)), (7, .one (.im 1 (ints l))), (8, .sc (.int .i64 l.length)), (9, .sc (.int .i64 k))] [] [] 1000)
    (fun k => k ≤ l.length ∧ upTo (idxAt l n) k = true) (fun k => l.length - k) 0 ⟨by omega, rfl⟩ (le_st _ _ [] [] _ rfl (by simp -implicitDefEqProofs (maxSteps := 2000000) only [go_sem] <;> rfl) trivial trivial) ?_
  rintro k ⟨h1, h2⟩
  by_cases c1 : k < l.length
  · rcases d1 : inB (l.getD k 0) 0 (n - 1)
    · rw [upTo_false c1 (by rw [idxAt, d1]; rfl)]
      simp -implicitDefEqProofs (maxSteps := 2000000) only [go_sem, c1, w0]
      refine call_of (inW_sat (l.getD k 0) 0 (n - 1)) (by simp -implicitDefEqProofs (maxSteps := 2000000) only [go_sem, d1, c1]) (by kernel_rfl) (by simp -implicitDefEqProofs (maxSteps := 2000000) only [go_sem, d1, c1]) ?_
      simp -implicitDefEqProofs (maxSteps := 2000000) only [go_sem, d1, c1]
    rcases k with _ | j
    · have e : idxAt l n 0 = true := by rw [idxAt, d1]; rfl
      have c0 : (0 : Int) < l.length := by omega
      simp -implicitDefEqProofs (maxSteps := 2000000) only [go_sem, c1, c0, w0]
      refine call_of (inW_sat (l.getD 0 0) 0 (n - 1)) (by simp -implicitDefEqProofs (maxSteps := 2000000) only [go_sem, d1, c1, c0]) (by kernel_rfl) (by simp -implicitDefEqProofs (maxSteps := 2000000) only [go_sem, d1, c1, c0]) ?_
      simp -implicitDefEqProofs (maxSteps := 2000000) only [go_sem, d1, c1, c0]
      exact ⟨1, ⟨c1, upTo_step h2 e⟩, by omega, (le_st _ _ [] [] _ rfl (by simp -implicitDefEqProofs (maxSteps := 2000000) only [go_sem] <;> rfl) trivial trivial)⟩
    · have c2 : j < l.length := by omega
      have c3 : 0 < ((j + 1 : Nat) : Int) := by omega
      have w1 := i64_pred (j := j) (by omega)
      rcases d2 : decide (l.getD (j + 1) 0 ≤ l.getD j 0)
      · have e : idxAt l n (j + 1) = true := by rw [idxAt, d1, Nat.add_sub_cancel, d2]; rfl
        simp -implicitDefEqProofs (maxSteps := 2000000) only [go_sem, c1, w0]
        refine call_of (inW_sat (l.getD (j + 1) 0) 0 (n - 1)) (by simp -implicitDefEqProofs (maxSteps := 2000000) only [go_sem, d1, d2, c1, c2, c3, w1]) (by kernel_rfl) (by simp -implicitDefEqProofs (maxSteps := 2000000) only [go_sem, d1, d2, c1, c2, c3, w1]) ?_
        simp -implicitDefEqProofs (maxSteps := 2000000) only [go_sem, d1, d2, c1, c2, c3, w1]
        rw [i64_succ (by omega)]
        exact ⟨j + 1 + 1, ⟨c1, upTo_step h2 e⟩, by omega, (le_st _ _ [] [] _ rfl (by simp -implicitDefEqProofs (maxSteps := 2000000) only [go_sem] <;> rfl) trivial trivial)⟩
      · rw [upTo_false c1 (show idxAt l n (j + 1) = false by rw [idxAt, d1, Nat.add_sub_cancel, d2]; rfl)]
        simp -implicitDefEqProofs (maxSteps := 2000000) only [go_sem, c1, w0]
        refine call_of (inW_sat (l.getD (j + 1) 0) 0 (n - 1)) (by simp -implicitDefEqProofs (maxSteps := 2000000) only [go_sem, d1, d2, c1, c2, c3, w1]) (by kernel_rfl) (by simp -implicitDefEqProofs (maxSteps := 2000000) only [go_sem, d1, d2, c1, c2, c3, w1]) ?_
        simp -implicitDefEqProofs (maxSteps := 2000000) only [go_sem, d1, d2, c1, c2, c3, w1]
  · obtain rfl : k = l.length := by omega
    simp -implicitDefEqProofs (maxSteps := 2000000) only [go_sem, c1]
    rw [h2]
/-- The i-th atom: its relation is one, its arity fits, no atom before it has its relation, its terms are such. -/
def relAt (l : List Rel) (a : RI) : Bool := inB a.r 0 ((l.length : Int) - 1) && ((a.l.length : Int) == (l.getD a.r.toNat default).ar)
def termOk (vc : Int) (ts : List Int) (i : Nat) : Bool := inB (ts.getD i 0) (-10) (vc - 1)
def newRel (q : Qu) (i k : Nat) : Bool := !((q.atoms.getD k default).r == (q.atoms.getD i default).r)
def atomOk (l : List Rel) (q : Qu) (i : Nat) : Bool := relAt l (q.atoms.getD i default) && (upTo (newRel q i) i && upTo (termOk q.vc (q.atoms.getD i default).l) (q.atoms.getD i default).l.length)
/-- The variables that occur in the first k atoms. -/
def occurs (q : Qu) (k : Nat) (v : Int) : Bool := (q.atoms.take k).any fun a => decide (v ∈ a.l)
def goodQu (l : List Rel) (q : Qu) : Bool := goodRels l && (inB q.vc 0 4 && (inB q.atoms.length 1 3 && (idxs q.free q.vc && (upTo (atomOk l q) q.atoms.length && upTo (fun v => occurs q q.atoms.length v) q.vc.toNat))))

/-! #### lists of truth values -/
def bls (l : List Bool) : Rows := l.map fun b => [Cell.sc (.bool b)]
theorem bls_length (l : List Bool) : (bls l).length = l.length := by simp [bls]
theorem bls_get {l : List Bool} {i : Nat} (h : i < l.length) : (bls l).getD i [] = [Cell.sc (.bool (l.getD i false))] := get_map false (fun b => [Cell.sc (.bool b)]) h
theorem bls_frz (l : List Bool) : frz (bls l) = bls l := frz_map _ _ (fun _ => rfl) l
theorem bls_rst (l : List Bool) : rst (bls l) = bls l := rst_map _ _ (fun _ => rfl) l
theorem bls_stm (n : Nat) (l : List Bool) : stm n (bls l) = bls l := stm_map n _ _ (fun _ => rfl) l
theorem bls_take (l : List Bool) (k : Nat) : (bls l).take k = bls (l.take k) := by simp [bls]
theorem bls_set (l : List Bool) (i : Nat) (b : Bool) : (bls l).set i [.sc (.bool b)] = bls (l.set i b) := by simp [bls, List.map_set]
theorem bls_rep (n : Nat) (b : Bool) : List.replicate n [Cell.sc (.bool b)] = bls (List.replicate n b) := by simp [bls]
attribute [go_sem] bls_length bls_get bls_frz bls_rst bls_stm bls_take bls_set bls_rep
def met4 (p : Nat → Bool) : List Bool := [p 0, p 1, p 2, p 3]
theorem met4_length (p : Nat → Bool) : (met4 p).length = 4 := rfl
theorem met4_get {p : Nat → Bool} {i : Nat} (h : i < 4) : (met4 p).getD i false = p i := by
  match i, h with
  | 0, _ => rfl
  | 1, _ => rfl
  | 2, _ => rfl
  | 3, _ => rfl
theorem met4_set {p p' : Nat → Bool} {i : Nat} (h : i < 4) (h1 : p' i = true) (h2 : ∀ v, v ≠ i → p' v = p v) : (met4 p).set i true = met4 p' := by
  match i, h with
  | 0, _ => simp [met4, h1, h2]
  | 1, _ => simp [met4, h1, h2]
  | 2, _ => simp [met4, h1, h2]
  | 3, _ => simp [met4, h1, h2]
theorem met4_eq {p p' : Nat → Bool} (h : ∀ v, p v = p' v) : met4 p = met4 p' := by simp [met4, h]

/-! #### what occurs -/
theorem occurs_step {q : Qu} {k : Nat} (h : k < q.atoms.length) (v : Int) : occurs q (k + 1) v = (occurs q k v || decide (v ∈ (q.atoms.getD k default).l)) := by
  unfold occurs; rw [take_snoc default h, List.any_append]; simp
theorem occurs_zero (q : Qu) (v : Int) : occurs q 0 v = false := rfl
theorem uni_occurs {q : Qu} {k : Nat} (h : k < q.atoms.length) : uni (selN (occurs q k) 4) (varsOf (q.atoms.getD k default).l) = selN (occurs q (k + 1)) 4 := by
  refine strict_eq (uni_strict _ _) (selN_strict _ _) fun x => ?_
  rw [uni_mem, varsOf, selN_mem, selN_mem, selN_mem, occurs_step h, Bool.or_eq_true]
  constructor
  · rintro (⟨a, b, c⟩ | ⟨a, b, c⟩)
    · exact ⟨a, b, .inl c⟩
    · exact ⟨a, b, .inr c⟩
  · rintro ⟨a, b, c | c⟩
    · exact .inl ⟨a, b, c⟩
    · exact .inr ⟨a, b, c⟩
theorem selN_full {p : Int → Bool} : ∀ {n : Nat}, (((selN p n).length : Int) == n) = upTo (fun v => p v) n
  | 0 => by simp [selN, upTo]
  | n + 1 => by
    have ih := selN_full (p := p) (n := n)
    have hl := selN_len p n
    rw [upTo, ← ih]
    rcases e : p n
    · rw [selN_no e, Bool.and_false]
      exact beq_eq_false_iff_ne.mpr (by omega)
    · rw [selN_yes e, Bool.and_true, List.length_append, List.length_singleton, Bool.eq_iff_iff, beq_iff_eq, beq_iff_eq]
      omega
theorem selN_above {p : Int → Bool} {n : Nat} : ∀ {m : Nat}, n ≤ m → (∀ v : Nat, n ≤ v → v < m → p v = false) → selN p m = selN p n
  | 0, h, _ => by rw [show n = 0 by omega]
  | m + 1, h, hp => by
    by_cases e : n = m + 1
    · rw [e]
    · rw [selN_no (hp m (by omega) (by omega)), selN_above (by omega) fun v h1 h2 => hp v h1 (by omega)]
theorem occurs_lt {l : List Rel} {q : Qu} {k : Nat} (hk : k ≤ q.atoms.length) (h : upTo (atomOk l q) k = true) {v : Int} (hv : occurs q k v = true) : v ≤ q.vc - 1 := by
  unfold occurs at hv
  obtain ⟨a, ha, hva⟩ := List.any_eq_true.mp hv
  obtain ⟨i, hi, rfl⟩ := List.mem_iff_getElem.mp ha
  rw [List.length_take] at hi
  have h1 := upTo_at h (k := i) (by omega)
  unfold atomOk at h1
  simp only [Bool.and_eq_true] at h1
  have e : q.atoms.getD i default = (q.atoms.take k)[i]'(by rw [List.length_take]; exact hi) := by
    rw [List.getElem_take, List.getD_eq_getElem?_getD, List.getElem?_eq_getElem (by omega)]; rfl
  rw [e] at h1
  obtain ⟨j, hj, hje⟩ := List.mem_iff_getElem.mp (of_decide_eq_true hva)
  have h2 := upTo_at h1.2.2 hj
  unfold termOk at h2
  have h3 := inB_of h2
  rw [List.getD_eq_getElem?_getD, List.getElem?_eq_getElem hj] at h3
  simp only [Option.getD_some] at h3
  rw [hje] at h3
  exact h3.2
theorem all_occur {l : List Rel} {q : Qu} (h4 : inB q.vc 0 4 = true) (h : upTo (atomOk l q) q.atoms.length = true) : (((selN (occurs q q.atoms.length) 4).length : Int) == q.vc) = upTo (fun v => occurs q q.atoms.length v) q.vc.toNat := by
  have hv := inB_of h4
  rw [← selN_full, selN_above (n := q.vc.toNat) (m := 4) (by omega) fun v h1 h2 => ?_]
  · rw [show ((q.vc.toNat : Nat) : Int) = q.vc by omega]
  · rcases e : occurs q q.atoms.length v
    · rfl
    · have := occurs_lt (Nat.le_refl _) h e
      omega
end Go.Proofs.Ytedciihjgbkjgaa.A
