/- Packed by pack.py: D F1 D2 F3 LK FM FMax FMQ FD FV FDraw FW FC1 FDraw5 FLib FConst -/
import Derived.Test.YtedciihjgbkjgabGreatDoorAT
import Derived.WideShapes
import Derived.Laws.Strings
import Derived.Test.YtedciihjgbkjgabGreatDoorA40
import Derived.Test.YtedciihjgbkjgabGreatDoorA47
import Derived.Shelf.Slices.Turned
import Derived.Test.YtedciihjgbkjgabGreatDoorA46

/- DATA OF THE PROGRAM, as lists, and how they lie in slices. Conditions: none. -/
namespace Go.Proofs.YtedciihjgbkjgabGreatDoor.A
open Go
set_option linter.unusedSimpArgs false
set_option linter.unusedVariables false

theorem mixed : Tryz.prog.follows .mixedOrders = true := by kernel_rfl

/-! #### numbers -/
def iv (a : List Int) : List Value := a.map (.int .i64)
def ints (a : List Int) : Rows := lift (iv a)
theorem iv_length (a : List Int) : (iv a).length = a.length := by simp [iv]
theorem ints_length (a : List Int) : (ints a).length = a.length := by simp [ints, lift, iv]
theorem ints_eq (a : List Int) : ints a = a.map fun n => [Cell.sc (.int .i64 n)] := by simp [ints, lift, iv]
theorem ints_get {a : List Int} {i : Nat} (h : i < a.length) : (ints a).getD i [] = [Cell.sc (.int .i64 (a.getD i 0))] := by
  simp [ints_eq, List.getD_eq_getElem?_getD, h]
theorem ints_frz (a : List Int) : frz (ints a) = ints a := frz_lift _
theorem ints_rst (a : List Int) : rst (ints a) = ints a := rst_lift _
theorem ints_stm (n : Nat) (a : List Int) : stm n (ints a) = ints a := stm_lift n _
theorem ints_flat (a : List Int) : flatB (ints a) = true := lift_flatB _
theorem ints_unlift (a : List Int) : lift (unlift (ints a)) = ints a := by unfold ints; rw [unlift_lift]
theorem ints_take (a : List Int) (k : Nat) : (ints a).take k = ints (a.take k) := by simp [ints_eq]
theorem ints_drop (a : List Int) (k : Nat) : (ints a).drop k = ints (a.drop k) := by simp [ints_eq]
theorem ints_append (a b : List Int) : ints a ++ ints b = ints (a ++ b) := by simp [ints_eq]
theorem ints_one (n : Int) : [[Cell.sc (.int .i64 n)]] = ints [n] := by simp [ints_eq]
theorem ints_nil : ints [] = [] := rfl
theorem ints_set (a : List Int) (i : Nat) (n : Int) : (ints a).set i [Cell.sc (.int .i64 n)] = ints (a.set i n) := by simp [ints_eq, List.map_set]
theorem ints_rep (n : Nat) (m : Int) : List.replicate n [Cell.sc (.int .i64 m)] = ints (List.replicate n m) := by simp [ints_eq]
theorem lift_iv (a : List Int) : lift (iv a) = ints a := rfl
theorem iv_get {a : List Int} {i : Nat} (h : i < a.length) : (iv a).getD i default = .int .i64 (a.getD i 0) := by
  simp [iv, List.getD_eq_getElem?_getD, h]
theorem iv_take (a : List Int) (k : Nat) : (iv a).take k = iv (a.take k) := by simp [iv]
theorem iv_drop (a : List Int) (k : Nat) : (iv a).drop k = iv (a.drop k) := by simp [iv]
theorem iv_set (a : List Int) (i : Nat) (n : Int) : (iv a).set i (.int .i64 n) = iv (a.set i n) := by simp [iv, List.map_set]
theorem iv_unlift (a : List Int) : unlift (ints a) = iv a := unlift_lift _
theorem cellR_ints {s id len w' : Nat} {a : List Int} {K : Cell → List (Nat × Option Obj') → Prop} : cellR s id 1 0 len (some (w', ints a)) K = (len = a.length ∧ K (.sl s (iv a)) [(id, none)]) := by
  unfold ints; rw [cellR_lift, iv_length]
theorem cell_im_ints {st : St} {s w : Nat} {a : List Int} {K : Cell → List (Nat × Option Obj') → Prop} : cellK st s (.im w (ints a)) K = (w = 1 ∧ K (.sl 0 (iv a)) []) := cell_im
theorem ints_still (a : List Int) : stillRows (ints a) = true := by simp [stillRows, ints_eq, Cell.still]
attribute [go_sem] iv_length ints_length ints_get ints_frz ints_rst ints_stm ints_flat ints_unlift ints_take ints_drop ints_append ints_one ints_set ints_rep lift_iv iv_get iv_take iv_drop iv_set iv_unlift cellR_ints cell_im_ints List.take_length List.drop_length
theorem ofNat_lt_0 {k : Nat} : (0 < k) = ((0 : Nat) < k) := rfl
theorem i64_succ {k : Nat} (h : k < 9223372036854775807) : IntKind.i64.wrap ((k : Int) + 1) = ((k + 1 : Nat) : Int) := by
  rw [IntWalk.i64_in _ (by omega)]; rfl
theorem drop_cons {α : Type} {a : List α} {k : Nat} (d : α) (h : k < a.length) : a.drop k = a.getD k d :: a.drop (k + 1) := by
  rw [List.drop_eq_getElem_cons h]; simp [List.getD_eq_getElem?_getD, h]
theorem take_snoc {α : Type} {a : List α} {k : Nat} (d : α) (h : k < a.length) : a.take (k + 1) = a.take k ++ [a.getD k d] := by
  rw [List.take_succ_eq_append_getElem h]; simp [List.getD_eq_getElem?_getD, h]
theorem take_set_snoc {α : Type} {a b : List α} {k : Nat} (d : α) (hl : b.length = a.length) (h : b.take k = a.take k) (hk : k < a.length) : (b.set k (a.getD k d)).take (k + 1) = a.take (k + 1) := by
  rw [take_snoc d (by simpa [hl] using hk), take_snoc d hk, List.take_set_of_le (by omega), h]
  simp [List.getD_eq_getElem?_getD, hl, hk]
theorem of_take {α : Type} {a b : List α} {k : Nat} (hl : b.length = a.length) (h : b.take k = a.take k) (hk : a.length ≤ k) : b = a := by
  rwa [List.take_of_length_le (by omega), List.take_of_length_le hk] at h
theorem cast_ne {a b : Nat} (h : ((a : Int) != b) = false) : a = b := by
  have : (a : Int) = b := by simpa using h
  omega
attribute [go_sem] Int.reduceToNat Int.reduceLE Int.reduceLT Int.reduceAdd Int.reduceSub Int.reduceBEq Int.reduceBNe Int.reduceEq Int.reduceMul
attribute [go_sem] List.length_set List.length_append List.length_replicate List.length_map Nat.zero_add Nat.add_zero
end Go.Proofs.YtedciihjgbkjgabGreatDoor.A


/- THE SMALLEST FUNCTIONS: lists of numbers. Conditions: none. -/
namespace Go.Proofs.YtedciihjgbkjgabGreatDoor.A
open Go
set_option linter.unusedSimpArgs false
set_option linter.unusedVariables false
set_option maxRecDepth 100000

theorem l1In_sat (x a b : Int) : Sat Tryz.prog 40 [.one (.sc (.int .i64 x)), .one (.sc (.int .i64 a)), .one (.sc (.int .i64 b))] [.one (.sc (.bool (decide (a ≤ x) && decide (x ≤ b))))] [.one .gone, .one .gone, .one .gone] := by
  refine sat_of_body mixed Tryz.func40 rfl (by kernel_rfl) (by kernel_rfl) (rs := [.tmp 6]) rfl rfl rfl ?_
  by_cases h1 : a ≤ x <;> by_cases h2 : x ≤ b <;> simp -implicitDefEqProofs (maxSteps := 2000000) only [go_sem, h1, h2, ge_iff_le, Bool.and_true, Bool.and_false]
theorem within_sat (x a b : Int) : Sat Tryz.prog 39 [.one (.sc (.int .i64 x)), .one (.sc (.int .i64 a)), .one (.sc (.int .i64 b))] [.one (.sc (.bool (decide (a ≤ x) && decide (x ≤ b))))] [.one .gone, .one .gone, .one .gone] := by
  refine sat_of_body mixed Tryz.func39 rfl (by kernel_rfl) (by kernel_rfl) (rs := [.tmp 6]) rfl rfl rfl ?_
  by_cases h1 : a ≤ x <;> by_cases h2 : x ≤ b <;> simp -implicitDefEqProofs (maxSteps := 2000000) only [go_sem, h1, h2, Bool.and_true, Bool.and_false]

def cmpInts : List Int → List Int → Int
  | [], [] => 0
  | [], _ :: _ => -1
  | _ :: _, [] => 1
  | a :: l, b :: m => if a < b then -1 else if a > b then 1 else cmpInts l m
theorem cmpInts_zero : ∀ {a b : List Int}, cmpInts a b = 0 ↔ a = b
  | [], [] => by simp [cmpInts]
  | [], _ :: _ => by simp [cmpInts]
  | _ :: _, [] => by simp [cmpInts]
  | a :: l, b :: m => by
    unfold cmpInts
    rcases Int.lt_trichotomy a b with h | h | h
    · simp [h]; omega
    · subst h; simp [cmpInts_zero]
    · rw [if_neg (by omega), if_pos h]; simp; omega
theorem cmp_beq (a b : List Int) : (cmpInts a b == 0) = decide (a = b) := by
  rw [Bool.eq_iff_iff]; simp [cmpInts_zero]
theorem cmp_bne (a b : List Int) : (cmpInts a b != 0) = !decide (a = b) := by rw [bne, cmp_beq]
attribute [go_sem] beq_self_eq_true bne_self_eq_false Bool.and_self Bool.true_and Bool.false_and Bool.and_true Bool.and_false Bool.not_true Bool.not_false Bool.true_or Bool.false_or Bool.or_true Bool.or_false
theorem l3Ints_sat (a b : List Int) (ha : a.length ≤ 9223372036854775807) : Sat Tryz.prog 78 [.one (.im 1 (ints a)), .one (.im 1 (ints b))] [.one (.sc (.int .i64 (cmpInts a b)))] [.one .gone, .one .gone] := by
  refine sat_of_body mixed Tryz.func78 rfl (by kernel_rfl) (by kernel_rfl) (rs := [.tmp 4]) rfl rfl rfl ?_
  simp -implicitDefEqProofs (maxSteps := 2000000) only [go_sem]
  refine awp_loop Nat (fun k => mkSt [(0, .one (.im 1 (ints a))), (1, .one (.im 1 (ints b))), (5, .sc (.int .i64 k))] [] [] 1000)
    (fun k => k ≤ a.length ∧ k ≤ b.length ∧ cmpInts (a.drop k) (b.drop k) = cmpInts a b) (fun k => a.length - k) 0 ⟨by omega, by omega, rfl⟩ (le_st _ _ [] [] _ rfl (by simp -implicitDefEqProofs (maxSteps := 2000000) only [go_sem] <;> rfl) trivial trivial) ?_
  rintro k ⟨h1, h2, h3⟩
  by_cases c1 : k < a.length
  · by_cases c2 : k < b.length
    · rw [drop_cons 0 c1, drop_cons 0 c2] at h3
      simp -implicitDefEqProofs (maxSteps := 2000000) only [go_sem, c1, c2]
      refine cond_split (fun d => ?_) fun d => ?_
      · simp -implicitDefEqProofs (maxSteps := 2000000) only [go_sem]
        rw [← h3, cmpInts, if_pos (by simpa using d)]
      simp -implicitDefEqProofs (maxSteps := 2000000) only [go_sem, c1, c2]
      refine cond_split (fun e => ?_) fun e => ?_
      · simp -implicitDefEqProofs (maxSteps := 2000000) only [go_sem]
        rw [← h3, cmpInts, if_neg (by simpa using d), if_pos (by simpa using e)]
      simp -implicitDefEqProofs (maxSteps := 2000000) only [go_sem]
      rw [i64_succ (by omega)]
      refine ⟨k + 1, ⟨c1, c2, ?_⟩, by omega, (le_st _ _ [] [] _ rfl (by simp -implicitDefEqProofs (maxSteps := 2000000) only [go_sem] <;> rfl) trivial trivial)⟩
      rw [← h3, cmpInts, if_neg (by simpa using d), if_neg (by simpa using e)]
    · obtain rfl : k = b.length := by omega
      rw [drop_cons 0 c1, List.drop_length] at h3
      simp -implicitDefEqProofs (maxSteps := 2000000) only [go_sem, c1, c2]
      refine cond_split (fun d => ?_) fun d => ?_
      · have := of_decide_eq_true d; omega
      simp -implicitDefEqProofs (maxSteps := 2000000) only [go_sem]
      refine cond_split (fun e => ?_) fun e => ?_
      · simp -implicitDefEqProofs (maxSteps := 2000000) only [go_sem]
        rw [← h3, cmpInts]
      · have := of_decide_eq_false e; omega
  · obtain rfl : k = a.length := by omega
    simp -implicitDefEqProofs (maxSteps := 2000000) only [go_sem, c1]
    refine cond_split (fun d => ?_) fun d => ?_
    · simp -implicitDefEqProofs (maxSteps := 2000000) only [go_sem]
      have d := of_decide_eq_true d
      rw [drop_cons 0 d, List.drop_length] at h3
      rw [← h3, cmpInts]
    · simp -implicitDefEqProofs (maxSteps := 2000000) only [go_sem]
      have d := of_decide_eq_false d
      obtain e : a.length = b.length := by omega
      refine cond_split (fun f => ?_) fun f => ?_
      · have := of_decide_eq_true f; omega
      simp -implicitDefEqProofs (maxSteps := 2000000) only [go_sem]
      rw [e, List.drop_length] at h3
      rw [← e, List.drop_length] at h3
      rw [← h3, cmpInts]

/-- Two lists, element by element. -/
theorem eqList_step {a b : List Int} {k : Nat} (h1 : k < a.length) (h2 : k < b.length) (h : a.take k = b.take k) (e : a.getD k 0 = b.getD k 0) : a.take (k + 1) = b.take (k + 1) := by
  rw [take_snoc 0 h1, take_snoc 0 h2, h, e]
theorem eqList_ne {a b : List Int} {k : Nat} (e : a.getD k 0 ≠ b.getD k 0) : a ≠ b := fun h => e (by rw [h])
theorem eqIntS_sat (a b : List Int) (ha : a.length ≤ 9223372036854775807) : Sat Tryz.prog 61 [.one (.im 1 (ints a)), .one (.im 1 (ints b))] [.one (.sc (.bool (decide (a = b))))] [.one .gone, .one .gone] := by
  refine sat_of_body mixed Tryz.func61 rfl (by kernel_rfl) (by kernel_rfl) (rs := [.tmp 4]) rfl rfl rfl ?_
  simp -implicitDefEqProofs (maxSteps := 2000000) only [go_sem]
  refine cond_split (fun d => ?_) fun d => ?_
  · simp -implicitDefEqProofs (maxSteps := 2000000) only [go_sem]
    have d : ¬ (a.length : Int) = b.length := by simpa using d
    rw [decide_eq_false (fun h => d (by rw [h]))]
  have d : a.length = b.length := cast_ne d
  simp -implicitDefEqProofs (maxSteps := 2000000) only [go_sem]
  refine awp_loop Nat (fun k => mkSt [(0, .one (.im 1 (ints a))), (1, .one (.im 1 (ints b))), (5, .sc (.int .i64 k))] [] [] 1000)
    (fun k => k ≤ a.length ∧ a.take k = b.take k) (fun k => a.length - k) 0 ⟨by omega, rfl⟩ (le_st _ _ [] [] _ rfl (by simp -implicitDefEqProofs (maxSteps := 2000000) only [go_sem] <;> rfl) trivial trivial) ?_
  rintro k ⟨h1, h2⟩
  by_cases c1 : k < a.length
  · have c2 : k < b.length := by omega
    simp -implicitDefEqProofs (maxSteps := 2000000) only [go_sem, c1, c2]
    refine cond_split (fun e => ?_) fun e => ?_
    · simp -implicitDefEqProofs (maxSteps := 2000000) only [go_sem]
      rw [decide_eq_false (eqList_ne (by simpa using e))]
    simp -implicitDefEqProofs (maxSteps := 2000000) only [go_sem]
    rw [i64_succ (by omega)]
    exact ⟨k + 1, ⟨c1, eqList_step c1 c2 h2 (by simpa using e)⟩, by omega, (le_st _ _ [] [] _ rfl (by simp -implicitDefEqProofs (maxSteps := 2000000) only [go_sem] <;> rfl) trivial trivial)⟩
  · simp -implicitDefEqProofs (maxSteps := 2000000) only [go_sem, c1]
    rw [List.take_of_length_le (by omega), List.take_of_length_le (by omega)] at h2
    rw [decide_eq_true h2]
theorem slicesEqual_sat (a b : List Int) (ha : a.length ≤ 9223372036854775807) : Sat Tryz.prog 77 [.one (.im 1 (ints a)), .one (.im 1 (ints b))] [.one (.sc (.bool (decide (a = b))))] [.one .gone, .one .gone] := by
  refine sat_of_body mixed Tryz.func77 rfl (by kernel_rfl) (by kernel_rfl) (rs := [.tmp 4]) rfl rfl rfl ?_
  simp -implicitDefEqProofs (maxSteps := 2000000) only [go_sem]
  refine cond_split (fun d => ?_) fun d => ?_
  · simp -implicitDefEqProofs (maxSteps := 2000000) only [go_sem]
    have d : ¬ (a.length : Int) = b.length := by simpa using d
    rw [decide_eq_false (fun h => d (by rw [h]))]
  have d : a.length = b.length := cast_ne d
  simp -implicitDefEqProofs (maxSteps := 2000000) only [go_sem]
  refine awp_loop Nat (fun k => mkSt [(0, .one (.im 1 (ints a))), (1, .one (.im 1 (ints b))), (12, .sc (.int .i64 a.length)), (13, .sc (.int .i64 k))] [] [] 1000)
    (fun k => k ≤ a.length ∧ a.take k = b.take k) (fun k => a.length - k) 0 ⟨by omega, rfl⟩ (le_st _ _ [] [] _ rfl (by simp -implicitDefEqProofs (maxSteps := 2000000) only [go_sem] <;> rfl) trivial trivial) ?_
  rintro k ⟨h1, h2⟩
  by_cases c1 : k < a.length
  · have c2 : k < b.length := by omega
    simp -implicitDefEqProofs (maxSteps := 2000000) only [go_sem, c1, c2]
    refine cond_split (fun e => ?_) fun e => ?_
    · simp -implicitDefEqProofs (maxSteps := 2000000) only [go_sem]
      rw [decide_eq_false (eqList_ne (by simpa using e))]
    simp -implicitDefEqProofs (maxSteps := 2000000) only [go_sem]
    rw [i64_succ (by omega)]
    exact ⟨k + 1, ⟨c1, eqList_step c1 c2 h2 (by simpa using e)⟩, by omega, (le_st _ _ [] [] _ rfl (by simp -implicitDefEqProofs (maxSteps := 2000000) only [go_sem] <;> rfl) trivial trivial)⟩
  · simp -implicitDefEqProofs (maxSteps := 2000000) only [go_sem, c1]
    rw [List.take_of_length_le (by omega), List.take_of_length_le (by omega)] at h2
    rw [decide_eq_true h2]
/-- What is left of a measure of size. -/
def szl (a : List Int) (n : Int) : Int := if n - a.length < 0 then -1 else n - a.length
theorem szl_le {a : List Int} {n : Int} (h : -1 ≤ n ∧ n ≤ 1048576) : -1 ≤ szl a n ∧ szl a n ≤ 1048576 := by unfold szl; split <;> omega
theorem szl_len {a : List Int} {n : Int} (h : n ≤ 1048576) (h0 : ¬ szl a n < 0) : a.length ≤ 1048576 := by unfold szl at h0; split at h0 <;> omega
end Go.Proofs.YtedciihjgbkjgabGreatDoor.A


/- DATA OF THE PROGRAM: relations, facts, atoms, edges, constraints, lists of lists. Conditions: none. -/
namespace Go.Proofs.YtedciihjgbkjgabGreatDoor.A
open Go
set_option linter.unusedSimpArgs false
set_option linter.unusedVariables false

theorem frz_map {α : Type} (c c' : α → List Cell) (h : ∀ a, (c a).map Cell.frz = c' a) (l : List α) : frz (l.map c) = l.map c' := by simp [frz, Function.comp_def, h]
theorem rst_map {α : Type} (c c' : α → List Cell) (h : ∀ a, (c a).map Cell.rst = c' a) (l : List α) : rst (l.map c) = l.map c' := by simp [rst, Function.comp_def, h]
theorem stm_map {α : Type} (n : Nat) (c c' : α → List Cell) (h : ∀ a, (c a).map (Cell.stm n) = c' a) (l : List α) : stm n (l.map c) = l.map c' := by simp [stm, Function.comp_def, h]
theorem get_map {α : Type} (d : α) (c : α → List Cell) {l : List α} {i : Nat} (h : i < l.length) : (l.map c).getD i [] = c (l.getD i d) := by
  simp [List.getD_eq_getElem?_getD, h]
theorem stm_append (n : Nat) (a b : Rows) : stm n (a ++ b) = stm n a ++ stm n b := by simp [stm]
theorem stm_set (n : Nat) (a : Rows) (i : Nat) (r : List Cell) : stm n (a.set i r) = (stm n a).set i (r.map (Cell.stm n)) := by simp [stm, List.map_set]
theorem stm_cons (n : Nat) (r : List Cell) (a : Rows) : stm n (r :: a) = r.map (Cell.stm n) :: stm n a := rfl
theorem stm_nil (n : Nat) : stm n [] = [] := rfl
theorem cstm_sc (n : Nat) (v : Value) : Cell.stm n (.sc v) = .sc v := rfl
theorem cstm_sl (n s : Nat) (xs : List Value) : Cell.stm n (.sl (s + 1) xs) = .sl n xs := rfl
theorem cstm_sl0 (n : Nat) (xs : List Value) : Cell.stm n (.sl 0 xs) = .sl 0 xs := rfl
attribute [go_sem] stm_append stm_set stm_cons stm_nil cstm_sc cstm_sl cstm_sl0

/-! #### relations -/
structure Rel where
  name : ByteArray
  ar : Int
  kl : Int
  deriving DecidableEq
instance : Inhabited Rel := ⟨⟨ByteArray.empty, 0, 0⟩⟩
def cRel (x : Rel) : List Cell := [.sc (.string x.name), .sc (.int .i64 x.ar), .sc (.int .i64 x.kl)]
def rels (l : List Rel) : Rows := l.map cRel
theorem rels_length (l : List Rel) : (rels l).length = l.length := by simp [rels]
theorem rels_get {l : List Rel} {i : Nat} (h : i < l.length) : (rels l).getD i [] = [.sc (.string (l.getD i default).name), .sc (.int .i64 (l.getD i default).ar), .sc (.int .i64 (l.getD i default).kl)] := get_map default cRel h
theorem rels_frz (l : List Rel) : frz (rels l) = rels l := frz_map _ _ (fun _ => rfl) l
theorem rels_rst (l : List Rel) : rst (rels l) = rels l := rst_map _ _ (fun _ => rfl) l
theorem rels_stm (n : Nat) (l : List Rel) : stm n (rels l) = rels l := stm_map n _ _ (fun _ => rfl) l
theorem rels_flat (l : List Rel) : flatB (rels l) = true := by simp [flatB, rels, cRel, Cell.flatB]
theorem rels_take (l : List Rel) (k : Nat) : (rels l).take k = rels (l.take k) := by simp [rels]
theorem rels_drop (l : List Rel) (k : Nat) : (rels l).drop k = rels (l.drop k) := by simp [rels]
theorem rels_append (a b : List Rel) : rels a ++ rels b = rels (a ++ b) := by simp [rels]
theorem rels_set (l : List Rel) (i : Nat) (s : ByteArray) (a k : Int) : (rels l).set i [.sc (.string s), .sc (.int .i64 a), .sc (.int .i64 k)] = rels (l.set i ⟨s, a, k⟩) := by simp [rels, List.map_set, cRel]
theorem rels_rep (n : Nat) (s : ByteArray) (a k : Int) : List.replicate n [Cell.sc (.string s), .sc (.int .i64 a), .sc (.int .i64 k)] = rels (List.replicate n ⟨s, a, k⟩) := by simp [rels, cRel]
theorem rels_nil : rels [] = [] := rfl
attribute [go_sem] rels_length rels_get rels_frz rels_rst rels_stm rels_flat rels_take rels_drop rels_append rels_set rels_rep

/-! #### facts and atoms -/
structure RI where
  r : Int
  l : List Int
  deriving DecidableEq
instance : Inhabited RI := ⟨⟨0, []⟩⟩
def cRI (s : Nat) (x : RI) : List Cell := [.sc (.int .i64 x.r), .sl s (iv x.l)]
def ris (s : Nat) (l : List RI) : Rows := l.map (cRI s)
theorem ris_length (s : Nat) (l : List RI) : (ris s l).length = l.length := by simp [ris]
theorem ris_get {s : Nat} {l : List RI} {i : Nat} (h : i < l.length) : (ris s l).getD i [] = [.sc (.int .i64 (l.getD i default).r), .sl s (iv (l.getD i default).l)] := get_map default (cRI s) h
theorem ris_frz (s : Nat) (l : List RI) : frz (ris s l) = ris 0 l := frz_map _ _ (fun _ => rfl) l
theorem ris_rst0 (l : List RI) : rst (ris 0 l) = ris 0 l := rst_map _ _ (fun _ => rfl) l
theorem ris_rst (s : Nat) (l : List RI) : rst (ris (s + 1) l) = ris 1 l := rst_map _ _ (fun _ => rfl) l
theorem ris_stm (n s : Nat) (l : List RI) : stm n (ris (s + 1) l) = ris n l := stm_map n _ _ (fun _ => rfl) l
theorem ris_flat (l : List RI) : flatB (ris 0 l) = true := by simp [flatB, ris, cRI, Cell.flatB]
theorem ris_take (s : Nat) (l : List RI) (k : Nat) : (ris s l).take k = ris s (l.take k) := by simp [ris]
theorem ris_drop (s : Nat) (l : List RI) (k : Nat) : (ris s l).drop k = ris s (l.drop k) := by simp [ris]
theorem ris_append (s : Nat) (a b : List RI) : ris s a ++ ris s b = ris s (a ++ b) := by simp [ris]
theorem ris_snoc (s : Nat) (a : List RI) (r : Int) (l : List Int) : ris s a ++ [[.sc (.int .i64 r), .sl s (iv l)]] = ris s (a ++ [⟨r, l⟩]) := by simp [ris, cRI]
theorem ris_one (s : Nat) (r : Int) (l : List Int) : [[Cell.sc (.int .i64 r), .sl s (iv l)]] = ris s [⟨r, l⟩] := by simp [ris, cRI]
theorem ris_set (s : Nat) (l : List RI) (i : Nat) (r : Int) (x : List Int) : (ris s l).set i [.sc (.int .i64 r), .sl s (iv x)] = ris s (l.set i ⟨r, x⟩) := by simp [ris, List.map_set, cRI]
theorem ris_setCell {s : Nat} {l : List RI} {i : Nat} (x : List Int) (h : i < l.length) : Rows.setCell (ris s l) i 1 (.sl s (iv x)) = ris s (l.set i ⟨(l.getD i default).r, x⟩) := by
  unfold Rows.setCell
  rw [ris_get h]
  exact ris_set s l i _ x
theorem take1 {α : Type} (d x : α) : List.take 1 ((List.replicate 1 d).set 0 x) = [x] := rfl
theorem take2 {α : Type} (d x y : α) : List.take 2 (((List.replicate 2 d).set 0 x).set 1 y) = [x, y] := rfl
attribute [go_sem] take1 take2 List.length_cons List.length_nil
theorem getD_set_same {α : Type} {l : List α} {i : Nat} {x d : α} (h : i < l.length) : (l.set i x).getD i d = x := by
  simp [List.getD_eq_getElem?_getD, h]
theorem ris_rep (s n : Nat) (r : Int) : List.replicate n [Cell.sc (.int .i64 r), .sl s []] = ris s (List.replicate n ⟨r, []⟩) := by simp [ris, cRI, iv]
theorem ris_nil (s : Nat) : ris s [] = [] := rfl
attribute [go_sem] ris_length ris_get ris_frz ris_rst0 ris_rst ris_stm ris_flat ris_take ris_drop ris_append ris_snoc ris_set ris_rep ris_setCell getD_set_same List.set_set

/-! #### lists of lists -/
def cIS (s : Nat) (x : List Int) : List Cell := [.sl s (iv x)]
def iss (s : Nat) (l : List (List Int)) : Rows := l.map (cIS s)
theorem iss_length (s : Nat) (l : List (List Int)) : (iss s l).length = l.length := by simp [iss]
theorem iss_get {s : Nat} {l : List (List Int)} {i : Nat} (h : i < l.length) : (iss s l).getD i [] = [.sl s (iv (l.getD i []))] := get_map [] (cIS s) h
theorem iss_frz (s : Nat) (l : List (List Int)) : frz (iss s l) = iss 0 l := frz_map _ _ (fun _ => rfl) l
theorem iss_rst0 (l : List (List Int)) : rst (iss 0 l) = iss 0 l := rst_map _ _ (fun _ => rfl) l
theorem iss_rst (s : Nat) (l : List (List Int)) : rst (iss (s + 1) l) = iss 1 l := rst_map _ _ (fun _ => rfl) l
theorem iss_stm (n s : Nat) (l : List (List Int)) : stm n (iss (s + 1) l) = iss n l := stm_map n _ _ (fun _ => rfl) l
theorem iss_flat (l : List (List Int)) : flatB (iss 0 l) = true := by simp [flatB, iss, cIS, Cell.flatB]
theorem iss_append (s : Nat) (a b : List (List Int)) : iss s a ++ iss s b = iss s (a ++ b) := by simp [iss]
theorem iss_take (s : Nat) (l : List (List Int)) (k : Nat) : (iss s l).take k = iss s (l.take k) := by simp [iss]
theorem iss_drop (s : Nat) (l : List (List Int)) (k : Nat) : (iss s l).drop k = iss s (l.drop k) := by simp [iss]
theorem iss_set (s : Nat) (l : List (List Int)) (i : Nat) (x : List Int) : (iss s l).set i [.sl s (iv x)] = iss s (l.set i x) := by simp [iss, List.map_set, cIS]
theorem iss_one (s : Nat) (x : List Int) : [[Cell.sl s (iv x)]] = iss s [x] := by simp [iss, cIS]
theorem iss_nil (s : Nat) : iss s [] = [] := rfl
attribute [go_sem] iss_length iss_get iss_frz iss_rst0 iss_rst iss_stm iss_flat iss_append iss_take iss_drop iss_set

/-! #### edges -/
structure Edge where
  a : Int
  b : Int
  deriving DecidableEq
instance : Inhabited Edge := ⟨⟨0, 0⟩⟩
def cEd (x : Edge) : List Cell := [.sc (.int .i64 x.a), .sc (.int .i64 x.b)]
def eds (l : List Edge) : Rows := l.map cEd
theorem eds_length (l : List Edge) : (eds l).length = l.length := by simp [eds]
theorem eds_get {l : List Edge} {i : Nat} (h : i < l.length) : (eds l).getD i [] = [.sc (.int .i64 (l.getD i default).a), .sc (.int .i64 (l.getD i default).b)] := get_map default cEd h
theorem eds_frz (l : List Edge) : frz (eds l) = eds l := frz_map _ _ (fun _ => rfl) l
theorem eds_rst (l : List Edge) : rst (eds l) = eds l := rst_map _ _ (fun _ => rfl) l
theorem eds_stm (n : Nat) (l : List Edge) : stm n (eds l) = eds l := stm_map n _ _ (fun _ => rfl) l
theorem eds_flat (l : List Edge) : flatB (eds l) = true := by simp [flatB, eds, cEd, Cell.flatB]
theorem eds_take (l : List Edge) (k : Nat) : (eds l).take k = eds (l.take k) := by simp [eds]
theorem eds_drop (l : List Edge) (k : Nat) : (eds l).drop k = eds (l.drop k) := by simp [eds]
theorem eds_append (a b : List Edge) : eds a ++ eds b = eds (a ++ b) := by simp [eds]
theorem eds_snoc (l : List Edge) (a b : Int) : eds l ++ [[.sc (.int .i64 a), .sc (.int .i64 b)]] = eds (l ++ [⟨a, b⟩]) := by simp [eds, cEd]
theorem eds_set (l : List Edge) (i : Nat) (a b : Int) : (eds l).set i [.sc (.int .i64 a), .sc (.int .i64 b)] = eds (l.set i ⟨a, b⟩) := by simp [eds, List.map_set, cEd]
theorem eds_rep (n : Nat) (a b : Int) : List.replicate n [Cell.sc (.int .i64 a), .sc (.int .i64 b)] = eds (List.replicate n ⟨a, b⟩) := by simp [eds, cEd]
theorem eds_nil : eds [] = [] := rfl
attribute [go_sem] eds_length eds_get eds_frz eds_rst eds_stm eds_flat eds_take eds_drop eds_append eds_snoc eds_set eds_rep

/-! #### embeddings -/
structure Emb where
  vs : List Int
  fs : List Int
  deriving DecidableEq
instance : Inhabited Emb := ⟨⟨[], []⟩⟩
def cEm (s : Nat) (x : Emb) : List Cell := [.sl s (iv x.vs), .sl s (iv x.fs)]
def ems (s : Nat) (l : List Emb) : Rows := l.map (cEm s)
theorem ems_length (s : Nat) (l : List Emb) : (ems s l).length = l.length := by simp [ems]
theorem ems_get {s : Nat} {l : List Emb} {i : Nat} (h : i < l.length) : (ems s l).getD i [] = [.sl s (iv (l.getD i default).vs), .sl s (iv (l.getD i default).fs)] := get_map default (cEm s) h
theorem ems_frz (s : Nat) (l : List Emb) : frz (ems s l) = ems 0 l := frz_map _ _ (fun _ => rfl) l
theorem ems_rst0 (l : List Emb) : rst (ems 0 l) = ems 0 l := rst_map _ _ (fun _ => rfl) l
theorem ems_rst (s : Nat) (l : List Emb) : rst (ems (s + 1) l) = ems 1 l := rst_map _ _ (fun _ => rfl) l
theorem ems_stm (n s : Nat) (l : List Emb) : stm n (ems (s + 1) l) = ems n l := stm_map n _ _ (fun _ => rfl) l
theorem ems_flat (l : List Emb) : flatB (ems 0 l) = true := by simp [flatB, ems, cEm, Cell.flatB]
theorem ems_take (s : Nat) (l : List Emb) (k : Nat) : (ems s l).take k = ems s (l.take k) := by simp [ems]
theorem ems_drop (s : Nat) (l : List Emb) (k : Nat) : (ems s l).drop k = ems s (l.drop k) := by simp [ems]
theorem ems_append (s : Nat) (a b : List Emb) : ems s a ++ ems s b = ems s (a ++ b) := by simp [ems]
theorem ems_one (s : Nat) (a b : List Int) : [[Cell.sl s (iv a), .sl s (iv b)]] = ems s [⟨a, b⟩] := by simp [ems, cEm]
theorem ems_set (s : Nat) (l : List Emb) (i : Nat) (a b : List Int) : (ems s l).set i [.sl s (iv a), .sl s (iv b)] = ems s (l.set i ⟨a, b⟩) := by simp [ems, List.map_set, cEm]
theorem ems_nil (s : Nat) : ems s [] = [] := rfl
theorem ems_still (s : Nat) (l : List Emb) : stillRows (ems (s + 1) l) = true := by simp [stillRows, ems, cEm, Cell.still]
theorem ems_set0 {s : Nat} {l : List Emb} {i : Nat} (x : List Int) (h : i < l.length) : Rows.setCell (ems s l) i 0 (.sl s (iv x)) = ems s (l.set i ⟨x, (l.getD i default).fs⟩) := by
  unfold Rows.setCell
  rw [ems_get h]
  exact ems_set s l i x _
theorem ems_set1 {s : Nat} {l : List Emb} {i : Nat} (x : List Int) (h : i < l.length) : Rows.setCell (ems s l) i 1 (.sl s (iv x)) = ems s (l.set i ⟨(l.getD i default).vs, x⟩) := by
  unfold Rows.setCell
  rw [ems_get h]
  exact ems_set s l i _ x
attribute [go_sem] ems_length ems_get ems_frz ems_rst0 ems_rst ems_stm ems_flat ems_take ems_drop ems_append ems_set ems_set0 ems_set1
theorem takeL1 (s : List Int) (x : Int) : List.take (s.length + 1) (s ++ [x]) = s ++ [x] := List.take_of_length_le (by simp)
attribute [go_sem] takeL1

theorem str_beq (a b : ByteArray) : (a.toList == b.toList) = decide (a = b) := by
  rw [ByteArray.toList_eq, ByteArray.toList_eq, Bool.eq_iff_iff, decide_eq_true_iff, beq_iff_eq]
  exact ⟨fun h => Go.WideShapes.bytes_inj h, fun h => by rw [h]⟩
theorem i64_pred {j : Nat} (h : j < 9223372036854775807) : IntKind.i64.wrap (((j + 1 : Nat) : Int) - 1) = (j : Int) := by
  rw [IntWalk.i64_in _ (by omega)]; omega
attribute [go_sem] str_beq
theorem tr_and {ops : List Oper} {tr : List Tr} {c : Prop} (h : trOk ops tr = true) (hc : c) : trOk ops tr = true ∧ c := ⟨h, hc⟩
theorem tr_only {ops : List Oper} {tr : List Tr} (h : trOk ops tr = true) : trOk ops tr = true := h
theorem callOk_still {handed lent : List Nat} {res upd : List LV} (h : (lent.all (fun i => !handed.contains i) && decide handed.Nodup) = true) (h2 : (res.all LV.still && upd.all LV.still) = true) : (callOk handed lent res upd && decide handed.Nodup) = true := by
  rw [Bool.and_eq_true] at h
  unfold callOk
  rw [h.1, h.2, h2]
  simp
theorem ris_still (s : Nat) (l : List RI) : stillRows (ris (s + 1) l) = true := by simp [stillRows, ris, cRI, Cell.still]
theorem eds_still (l : List Edge) : stillRows (eds l) = true := by simp [stillRows, eds, cEd, Cell.still]
theorem rels_still (l : List Rel) : stillRows (rels l) = true := by simp [stillRows, rels, cRel, Cell.still]
theorem iss_still (s : Nat) (l : List (List Int)) : stillRows (iss (s + 1) l) = true := by simp [stillRows, iss, cIS, Cell.still]
theorem le_st' {st : St} (slots : List (Nat × AV)) (vars : List (Nat × List SV)) (obs : List OE) (fro : List Nat) (next : Nat)
    (hs : eachL (fun p : Nat × AV => leAV st obs fro (st.slots p.1) p.2) slots) (hv : eachL (fun p : Nat × List SV => leVar st obs fro (st.vars p.1) p.2) vars) (ho : eachL (OE.okay st next) obs) (hn : namesOk slots vars obs fro next = true) :
    Le st (mkSt slots vars (obs.map fun e => (e.new, (e.w, e.rows))) next) := le_st slots vars obs fro next hn hs hv ho
abbrev lInt (n : Int) : LV := .one (.sc (.int .i64 n))
abbrev lBool (b : Bool) : LV := .one (.sc (.bool b))
abbrev lStr (s : ByteArray) : LV := .one (.sc (.string s))
abbrev lInts (a : List Int) : LV := .one (.im 1 (ints a))
abbrev oInts (a : List Int) : LV := .one (.ow 1 (ints a))
abbrev lISS (a : List (List Int)) : LV := .one (.im 1 (iss 0 a))
abbrev oISS (a : List (List Int)) : LV := .one (.ow 1 (iss 1 a))
abbrev lRels (a : List Rel) : LV := .one (.im 3 (rels a))
abbrev oRels (a : List Rel) : LV := .one (.ow 3 (rels a))
abbrev lRel (a : Rel) : LV := .agg [.sc (.string a.name), .sc (.int .i64 a.ar), .sc (.int .i64 a.kl)]
abbrev lRI (a : RI) : LV := .agg [.sc (.int .i64 a.r), .im 1 (ints a.l)]
abbrev oRI (a : RI) : LV := .agg [.sc (.int .i64 a.r), .ow 1 (ints a.l)]
abbrev lRIs (a : List RI) : LV := .one (.im 2 (ris 0 a))
abbrev oRIs (a : List RI) : LV := .one (.ow 2 (ris 1 a))
abbrev lEds (a : List Edge) : LV := .one (.im 2 (eds a))
abbrev oEds (a : List Edge) : LV := .one (.ow 2 (eds a))
structure Db where
  rels : List Rel
  facts : List RI
  deriving DecidableEq
structure Qu where
  vc : Int
  atoms : List RI
  free : List Int
  deriving DecidableEq
abbrev lDb (d : Db) : LV := .agg [.im 3 (A.rels d.rels), .im 2 (ris 0 d.facts)]
abbrev oDb (d : Db) : LV := .agg [.ow 3 (A.rels d.rels), .ow 2 (ris 1 d.facts)]
abbrev lQu (q : Qu) : LV := .agg [.sc (.int .i64 q.vc), .im 2 (ris 0 q.atoms), .im 1 (ints q.free)]
abbrev oQu (q : Qu) : LV := .agg [.sc (.int .i64 q.vc), .ow 2 (ris 1 q.atoms), .ow 1 (ints q.free)]
abbrev uQu (q : Qu) : LV := .agg [.gone, .ow 2 (ris 1 q.atoms), .ow 1 (ints q.free)]
abbrev uRI (a : RI) : LV := .agg [.gone, .ow 1 (ints a.l)]
abbrev sQu (q : Qu) : List SV := [.sc (.int .i64 q.vc), .im 2 (ris 0 q.atoms), .im 1 (ints q.free)]
abbrev sDb (d : Db) : List SV := [.im 3 (A.rels d.rels), .im 2 (ris 0 d.facts)]
abbrev sRI (a : RI) : List SV := [.sc (.int .i64 a.r), .im 1 (ints a.l)]
abbrev g1 : LV := .one .gone
abbrev g2 : LV := .agg [.gone, .gone]
abbrev g3 : LV := .agg [.gone, .gone, .gone]
end Go.Proofs.YtedciihjgbkjgabGreatDoor.A


/- ATOMS AND QUERIES: size, copy, comparison. Conditions: none. -/
namespace Go.Proofs.YtedciihjgbkjgabGreatDoor.A
open Go
set_option linter.unusedSimpArgs false
set_option linter.unusedVariables false
set_option maxRecDepth 100000

/-! #### measures of size -/
def szF {α : Type} (f : α → Int → Int) : List α → Int → Int
  | [], n => n
  | a :: l, n => if f a n < 0 then -1 else szF f l (f a n)
def szAll {α : Type} (f : α → Int → Int) (l : List α) (n : Int) : Int := if n - l.length < 0 then -1 else szF f l (n - l.length)
def SzOk {α : Type} (f : α → Int → Int) (P : α → Prop) : Prop := ∀ a n, -1 ≤ n ∧ n ≤ 1048576 → (-1 ≤ f a n ∧ f a n ≤ 1048576) ∧ (¬ f a n < 0 → P a)
theorem szF_ok {α : Type} {f : α → Int → Int} {P : α → Prop} (h : SzOk f P) : ∀ (l : List α) (n : Int), -1 ≤ n ∧ n ≤ 1048576 → (-1 ≤ szF f l n ∧ szF f l n ≤ 1048576) ∧ (¬ szF f l n < 0 → ∀ a ∈ l, P a)
  | [], n, hn => ⟨hn, fun _ => by simp⟩
  | a :: l, n, hn => by
    unfold szF
    have h1 := h a n hn
    split
    · exact ⟨by omega, fun h => absurd (by omega) h⟩
    · rename_i c
      have h2 := szF_ok h l (f a n) h1.1
      exact ⟨h2.1, fun h3 => by simp only [List.mem_cons, forall_eq_or_imp]; exact ⟨h1.2 c, h2.2 h3⟩⟩
theorem szAll_ok {α : Type} {f : α → Int → Int} {P : α → Prop} (h : SzOk f P) : SzOk (szAll f) (fun l => l.length ≤ 1048576 ∧ ∀ a ∈ l, P a) := by
  intro l n hn
  unfold szAll
  split
  · exact ⟨by omega, fun h => absurd (by omega) h⟩
  · have h2 := szF_ok h l (n - l.length) (by omega)
    exact ⟨h2.1, fun h3 => ⟨by omega, h2.2 h3⟩⟩
theorem szl_ok : SzOk szl (fun a => a.length ≤ 1048576) := fun a n h => ⟨szl_le h, fun c => szl_len h.2 c⟩
def szRI (a : RI) (n : Int) : Int := szl a.l n
def RI.ok (a : RI) : Prop := a.l.length ≤ 1048576
def RI.fit (a : RI) : Prop := a.l.length ≤ 9223372036854775807
theorem szRI_ok : SzOk szRI RI.ok := fun a n h => szl_ok a.l n h

theorem mem_getD {α : Type} {l : List α} {k : Nat} (d : α) (h : k < l.length) : l.getD k d ∈ l := by
  rw [List.getD_eq_getElem?_getD, List.getElem?_eq_getElem h]; exact List.getElem_mem h
def szQu (q : Qu) (n : Int) : Int := if szAll szRI q.atoms n < 0 then -1 else szl q.free (szAll szRI q.atoms n)
def Qu.ok (q : Qu) : Prop := (q.atoms.length ≤ 1048576 ∧ ∀ x ∈ q.atoms, x.ok) ∧ q.free.length ≤ 1048576
def Qu.fit (q : Qu) : Prop := (q.atoms.length ≤ 9223372036854775807 ∧ ∀ x ∈ q.atoms, x.fit) ∧ q.free.length ≤ 9223372036854775807
theorem RI.ok.fit {a : RI} (h : a.ok) : a.fit := by unfold RI.ok at h; unfold RI.fit; omega
theorem Qu.ok.fit {q : Qu} (h : q.ok) : q.fit := by
  unfold Qu.ok at h; unfold Qu.fit
  exact ⟨⟨by omega, fun x hx => (h.1.2 x hx).fit⟩, by omega⟩
theorem szQu_ok : SzOk szQu Qu.ok := by
  intro q n h
  unfold szQu Qu.ok
  have h1 := szAll_ok szRI_ok q.atoms n h
  split
  · exact ⟨by omega, fun h => absurd (by omega) h⟩
  · rename_i c
    have h2 := szl_ok q.free _ h1.1
    exact ⟨h2.1, fun h3 => ⟨h1.2 c, h2.2 h3⟩⟩
theorem RI.eq_iff (a b : RI) : decide (a = b) = (decide (a.r = b.r) && decide (a.l = b.l)) := by cases a; cases b; simp
theorem Qu.eq_iff (a b : Qu) : decide (a = b) = (decide (a.vc = b.vc) && (decide (a.atoms = b.atoms) && decide (a.free = b.free))) := by cases a; cases b; simp
theorem eqAtom_sat (a b : RI) (h : a.fit) : Sat Tryz.prog 101 [lRI a, lRI b] [lBool (decide (a = b))] [g2, g2] := by
  refine sat_of_body mixed Tryz.func101 rfl (by kernel_rfl) (by kernel_rfl) (rs := [.tmp 4]) rfl rfl rfl ?_
  rw [RI.eq_iff]
  simp -implicitDefEqProofs (maxSteps := 2000000) only [go_sem]
  refine cond_split (fun d => ?_) fun d => ?_
  · have d : ¬ a.r = b.r := by simpa using d
    simp -implicitDefEqProofs (maxSteps := 2000000) only [go_sem, d, decide_false]
  have d : a.r = b.r := by simpa using d
  simp -implicitDefEqProofs (maxSteps := 2000000) only [go_sem, d, decide_true]
  refine call_of (eqIntS_sat a.l b.l h) (by simp -implicitDefEqProofs (maxSteps := 2000000) only [go_sem]) (by kernel_rfl) (by simp -implicitDefEqProofs (maxSteps := 2000000) only [go_sem]) ?_
  simp -implicitDefEqProofs (maxSteps := 2000000) only [go_sem]
  refine cond_split (fun e => ?_) fun e => ?_
  · have e : decide (a.l = b.l) = false := by simpa using e
    simp -implicitDefEqProofs (maxSteps := 2000000) only [go_sem, e]
  · have e : decide (a.l = b.l) = true := by simpa using e
    simp -implicitDefEqProofs (maxSteps := 2000000) only [go_sem, e]
theorem list_step {α : Type} (d : α) {a b : List α} {k : Nat} (h1 : k < a.length) (h2 : k < b.length) (h : a.take k = b.take k) (e : a.getD k d = b.getD k d) : a.take (k + 1) = b.take (k + 1) := by
  rw [take_snoc d h1, take_snoc d h2, h, e]
theorem list_ne {α : Type} {d : α} {a b : List α} {k : Nat} (e : a.getD k d ≠ b.getD k d) : a ≠ b := fun h => e (by rw [h])
theorem eqAtomS_sat (a b : List RI) (ha : a.length ≤ 9223372036854775807) (h : ∀ x ∈ a, x.fit) : Sat Tryz.prog 60 [lRIs a, lRIs b] [lBool (decide (a = b))] [g1, g1] := by
  refine sat_of_body mixed Tryz.func60 rfl (by kernel_rfl) (by kernel_rfl) (rs := [.tmp 4]) rfl rfl rfl ?_
  simp -implicitDefEqProofs (maxSteps := 2000000) only [go_sem]
  refine cond_split (fun d => ?_) fun d => ?_
  · simp -implicitDefEqProofs (maxSteps := 2000000) only [go_sem]
    have d : ¬ (a.length : Int) = b.length := by simpa using d
    rw [decide_eq_false (fun h => d (by rw [h]))]
  have d : a.length = b.length := cast_ne d
  simp -implicitDefEqProofs (maxSteps := 2000000) only [go_sem]
  refine awp_loop Nat (fun k => mkSt [(0, .one (.im 2 (ris 0 a))), (1, .one (.im 2 (ris 0 b))), (5, .sc (.int .i64 k))] [] [] 1000)
    (fun k => k ≤ a.length ∧ a.take k = b.take k) (fun k => a.length - k) 0 ⟨by omega, rfl⟩ (le_st _ _ [] [] _ rfl (by simp -implicitDefEqProofs (maxSteps := 2000000) only [go_sem] <;> rfl) trivial trivial) ?_
  rintro k ⟨h1, h2⟩
  by_cases c1 : k < a.length
  · have c2 : k < b.length := by omega
    simp -implicitDefEqProofs (maxSteps := 2000000) only [go_sem, c1, c2]
    refine call_of (eqAtom_sat (a.getD k default) (b.getD k default) (h _ (mem_getD _ c1))) (by simp -implicitDefEqProofs (maxSteps := 2000000) only [go_sem]) (by kernel_rfl) (by simp -implicitDefEqProofs (maxSteps := 2000000) only [go_sem]) ?_
    simp -implicitDefEqProofs (maxSteps := 2000000) only [go_sem]
    refine cond_split (fun e => ?_) fun e => ?_
    · simp -implicitDefEqProofs (maxSteps := 2000000) only [go_sem]
      rw [decide_eq_false (list_ne (d := default) (k := k) (by simpa using e))]
    simp -implicitDefEqProofs (maxSteps := 2000000) only [go_sem]
    rw [i64_succ (by omega)]
    exact ⟨k + 1, ⟨c1, list_step default c1 c2 h2 (by simpa using e)⟩, by omega, (le_st _ _ [] [] _ rfl (by simp -implicitDefEqProofs (maxSteps := 2000000) only [go_sem] <;> rfl) trivial trivial)⟩
  · simp -implicitDefEqProofs (maxSteps := 2000000) only [go_sem, c1]
    rw [List.take_of_length_le (by omega), List.take_of_length_le (by omega)] at h2
    rw [decide_eq_true h2]
theorem eqQuery_sat (a b : Qu) (h : a.fit) : Sat Tryz.prog 21 [lQu a, lQu b] [lBool (decide (a = b))] [g3, g3] := by
  refine sat_of_body mixed Tryz.func21 rfl (by kernel_rfl) (by kernel_rfl) (rs := [.tmp 4]) rfl rfl rfl ?_
  rw [Qu.eq_iff]
  simp -implicitDefEqProofs (maxSteps := 2000000) only [go_sem]
  refine cond_split (fun d => ?_) fun d => ?_
  · have d : ¬ a.vc = b.vc := by simpa using d
    simp -implicitDefEqProofs (maxSteps := 2000000) only [go_sem, d, decide_false]
  have d : a.vc = b.vc := by simpa using d
  simp -implicitDefEqProofs (maxSteps := 2000000) only [go_sem, d, decide_true]
  refine call_of (eqAtomS_sat a.atoms b.atoms h.1.1 h.1.2) (by simp -implicitDefEqProofs (maxSteps := 2000000) only [go_sem]) (by kernel_rfl) (by simp -implicitDefEqProofs (maxSteps := 2000000) only [go_sem]) ?_
  simp -implicitDefEqProofs (maxSteps := 2000000) only [go_sem]
  refine cond_split (fun e => ?_) fun e => ?_
  · have e : decide (a.atoms = b.atoms) = false := by simpa using e
    simp -implicitDefEqProofs (maxSteps := 2000000) only [go_sem, e]
  have e : decide (a.atoms = b.atoms) = true := by simpa using e
  simp -implicitDefEqProofs (maxSteps := 2000000) only [go_sem, e]
  refine call_of (eqIntS_sat a.free b.free h.2) (by simp -implicitDefEqProofs (maxSteps := 2000000) only [go_sem]) (by kernel_rfl) (by simp -implicitDefEqProofs (maxSteps := 2000000) only [go_sem]) ?_
  simp -implicitDefEqProofs (maxSteps := 2000000) only [go_sem]
  refine cond_split (fun f => ?_) fun f => ?_
  · have f : decide (a.free = b.free) = false := by simpa using f
    simp -implicitDefEqProofs (maxSteps := 2000000) only [go_sem, f]
  · have f : decide (a.free = b.free) = true := by simpa using f
    simp -implicitDefEqProofs (maxSteps := 2000000) only [go_sem, f]
end Go.Proofs.YtedciihjgbkjgabGreatDoor.A


/- WHAT A LAW READS: reading into structures of mine. Conditions: none. -/
namespace Go.Proofs.YtedciihjgbkjgabGreatDoor.A
open Go Go.ChangeShapes Go.WideShapes Go.ChangeAt Go.RowKit
set_option linter.unusedVariables false
variable {H : Type} {enc : TypeId × Value → H} {P : Program} {W : World}
theorem okWide_slice_ne {t e : TypeId} (ht : P.underlying t = some (.slice e)) {r : Reach} {base : Nat} {v : Value} (h : Value.okWide P W r base t v) : ∀ cs, v ≠ .agg cs := by
  obtain ⟨a, l, c, rfl⟩ := okWide_slice ht h
  intro cs h
  cases h
theorem readsC_map {t : TypeId} {α β : Type} {row : α → List Cell} {row' : β → List Cell} {g : α → Prop} {g' : β → Prop} (h : ReadsC enc P W t row g) (f : α → β) (h1 : ∀ a, row' (f a) = row a) (h2 : ∀ a, g a → g' (f a)) : ReadsC enc P W t row' g' := by
  intro n cs x hx
  obtain ⟨a, ha, hr⟩ := h n cs x hx
  exact ⟨f a, h2 a ha, by rw [h1]; exact hr⟩
theorem readsL_ints {t e : TypeId} (ht : P.underlying t = some (.slice e)) (hc : P.cellsOf e = 1) (he : P.underlying e = some (.int .i64)) : ReadsL enc P W t (fun a : List Int => Leaf.im 1 (ints a)) (fun a => a.length ≤ 9223372036854775807) := by
  intro n v x h
  obtain ⟨l, h1, h2⟩ := readsL_slice ht hc (by omega) (fun _ => rfl) (readsC_int he) n v x h
  exact ⟨l, h1.1, fun k => by show LeafRep W (lab0 W) k (Leaf.im 1 (ints l)) v; rw [ints_eq]; exact h2 k⟩
theorem readsL_rows {t e : TypeId} {w : Nat} {α : Type} {row : α → List Cell} {g : α → Prop} (h : ReadsC enc P W e row g) (ht : P.underlying t = some (.slice e)) (hc : P.cellsOf e = w) (hw : 0 < w) (hrow : ∀ a, (row a).length = w) (rows : List α → Rows) (hr : ∀ l, rows l = l.map row) : ReadsL enc P W t (fun l : List α => Leaf.im w (rows l)) (fun l => l.length ≤ 9223372036854775807 ∧ ∀ a ∈ l, g a) := by
  intro n v x hx
  obtain ⟨l, h1, h2⟩ := readsL_slice ht hc hw hrow h n v x hx
  exact ⟨l, h1, fun k => by show LeafRep W (lab0 W) k (Leaf.im w (rows l)) v; rw [hr]; exact h2 k⟩
end Go.Proofs.YtedciihjgbkjgabGreatDoor.A


/- MARKS AND MEMBERS: lists of numbers that a law writes and reads back. Conditions: none. -/
namespace Go.Proofs.YtedciihjgbkjgabGreatDoor.A
open Go
set_option linter.unusedSimpArgs false
set_option linter.unusedVariables false
set_option maxRecDepth 100000

theorem i64_plus {k : Int} {i : Nat} (h0 : 0 ≤ k) (h : k + i < 9223372036854775807) : IntKind.i64.wrap (k + i + 1) = k + ((i + 1 : Nat) : Int) := by
  rw [IntWalk.i64_in _ (by omega)]; omega
theorem plus0 (k : Int) : k + ((0 : Nat) : Int) = k := by simp
attribute [go_sem] Int.add_zero Int.ofNat_zero
/-- The numbers from k on. -/
def cnt : Int → Nat → List Int
  | _, 0 => []
  | k, n + 1 => k :: cnt (k + 1) n
theorem cnt_length : ∀ (k : Int) (n : Nat), (cnt k n).length = n
  | _, 0 => rfl
  | k, n + 1 => by rw [cnt, List.length_cons, cnt_length]
theorem cnt_get : ∀ {k : Int} {n i : Nat}, i < n → (cnt k n).getD i 0 = k + i
  | k, n + 1, 0, _ => by simp [cnt]
  | k, n + 1, i + 1, h => by
    rw [cnt, List.getD_cons_succ, cnt_get (by omega)]; omega
theorem cnt_full (k : Int) (n : Nat) : List.take n (cnt k n) = cnt k n := List.take_of_length_le (by rw [cnt_length]; omega)
attribute [go_sem] cnt_full
theorem markIntS_sat (a : List Int) (k : Int) (h : 0 ≤ k ∧ k + a.length ≤ 9223372036854775807) : Sat Tryz.prog 65 [oInts a, lInt k] [lInt (k + a.length)] [oInts (cnt k a.length), g1] := by
  refine sat_of_body mixed Tryz.func65 rfl (by kernel_rfl) (by kernel_rfl) (rs := [.tmp 4]) rfl rfl rfl ?_
  simp -implicitDefEqProofs (maxSteps := 2000000) only [go_sem]
  refine awp_loop (Nat × List Int) (fun x => mkSt [(0, .one (.ref 0 1 0 a.length)), (1, .sc (.int .i64 (k + x.1))), (5, .sc (.int .i64 x.1))] [] [(0, (1, ints x.2))] 1000)
    (fun x => x.1 ≤ a.length ∧ x.2.length = a.length ∧ x.2.take x.1 = (cnt k a.length).take x.1) (fun x => a.length - x.1) (0, a) ⟨by simp, rfl, rfl⟩ (le_st _ _ [⟨0, some 0, false, 1, _⟩] [] _ rfl (by simp -implicitDefEqProofs (maxSteps := 2000000) only [go_sem] <;> rfl) (by simp -implicitDefEqProofs (maxSteps := 2000000) only [go_sem] <;> rfl) (by simp -implicitDefEqProofs (maxSteps := 2000000) only [go_sem] <;> rfl)) ?_
  rintro ⟨i, b⟩ ⟨h1, h2, h3⟩
  simp only at h1 h2 h3
  by_cases c1 : i < a.length
  · simp -implicitDefEqProofs (maxSteps := 2000000) only [go_sem, c1, h2, List.length_take, Nat.min_self]
    rw [i64_succ (by omega), i64_plus h.1 (by omega)]
    refine ⟨(i + 1, b.set i (k + i)), ⟨c1, by simpa using h2, ?_⟩, by simp; omega, (le_st _ _ [⟨0, some 0, false, 1, _⟩] [] _ rfl (by simp -implicitDefEqProofs (maxSteps := 2000000) only [go_sem] <;> rfl) (by simp -implicitDefEqProofs (maxSteps := 2000000) only [go_sem] <;> rfl) (by simp -implicitDefEqProofs (maxSteps := 2000000) only [go_sem] <;> rfl))⟩
    have h4 := take_set_snoc (a := cnt k a.length) 0 (by rw [cnt_length]; exact h2) h3 (by rw [cnt_length]; exact c1)
    rwa [cnt_get c1] at h4
  · have hb : b = cnt k a.length := of_take (by rw [cnt_length]; exact h2) h3 (by rw [cnt_length]; omega)
    simp -implicitDefEqProofs (maxSteps := 2000000) only [go_sem, c1, h2, List.length_take, Nat.min_self]
    obtain rfl : i = a.length := by omega
    rw [hb]; exact ⟨rfl, rfl, rfl⟩
theorem heldIntS_sat (n : Nat) (k : Int) (h : 0 ≤ k ∧ k + n ≤ 9223372036854775807) : Sat Tryz.prog 67 [lInts (cnt k n), lInt k] [lInt (k + n)] [g1, g1] := by
  refine sat_of_body mixed Tryz.func67 rfl (by kernel_rfl) (by kernel_rfl) (rs := [.tmp 4]) rfl rfl rfl ?_
  simp -implicitDefEqProofs (maxSteps := 2000000) only [go_sem]
  refine awp_loop Nat (fun i => mkSt [(0, .one (.im 1 (ints (cnt k n)))), (1, .sc (.int .i64 (k + i))), (5, .sc (.int .i64 i))] [] [] 1000)
    (fun i => i ≤ n) (fun i => n - i) 0 (by omega) (le_st _ _ [] [] _ rfl (by simp -implicitDefEqProofs (maxSteps := 2000000) only [go_sem] <;> rfl) trivial trivial) ?_
  rintro i h1
  by_cases c1 : i < n
  · simp -implicitDefEqProofs (maxSteps := 2000000) only [go_sem, c1, cnt_length]
    rw [cnt_get c1]
    simp -implicitDefEqProofs (maxSteps := 2000000) only [go_sem]
    rw [i64_succ (by omega), i64_plus h.1 (by omega)]
    exact ⟨i + 1, c1, by omega, (le_st _ _ [] [] _ rfl (by simp -implicitDefEqProofs (maxSteps := 2000000) only [go_sem] <;> rfl) trivial trivial)⟩
  · obtain rfl : i = n := by omega
    simp -implicitDefEqProofs (maxSteps := 2000000) only [go_sem, c1, cnt_length]
/-- Where a number stands in a list, or -1. -/
def posI (x : Int) : List Int → Nat → Int
  | [], _ => -1
  | a :: l, k => if a = x then k else posI x l (k + 1)
theorem posI_mem (x : Int) : ∀ (l : List Int) (k : Nat), decide (0 ≤ posI x l k) = decide (x ∈ l)
  | [], k => by simp [posI]
  | a :: l, k => by
    unfold posI
    split
    · rename_i h; subst h; simp
    · rename_i h
      rw [posI_mem x l (k + 1)]
      have : ¬ x = a := fun e => h e.symm
      simp [this]
theorem slicesIndex_sat (a : List Int) (x : Int) (ha : a.length ≤ 9223372036854775807) : Sat Tryz.prog 84 [lInts a, lInt x] [lInt (posI x a 0)] [g1, g1] := by
  refine sat_of_body mixed Tryz.func84 rfl (by kernel_rfl) (by kernel_rfl) (rs := [.tmp 4]) rfl rfl rfl ?_
  simp -implicitDefEqProofs (maxSteps := 2000000) only [go_sem]
  refine awp_loop Nat (fun k => mkSt [(0, .one (.im 1 (ints a))), (1, .sc (.int .i64 x)), (7, .sc (.int .i64 a.length)), (8, .sc (.int .i64 k))] [] [] 1000)
    (fun k => k ≤ a.length ∧ posI x (a.drop k) k = posI x a 0) (fun k => a.length - k) 0 ⟨by omega, rfl⟩ (le_st _ _ [] [] _ rfl (by simp -implicitDefEqProofs (maxSteps := 2000000) only [go_sem] <;> rfl) trivial trivial) ?_
  rintro k ⟨h1, h2⟩
  by_cases c1 : k < a.length
  · rw [drop_cons 0 c1, posI] at h2
    simp -implicitDefEqProofs (maxSteps := 2000000) only [go_sem, c1]
    refine cond_split (fun d => ?_) fun d => ?_
    · simp -implicitDefEqProofs (maxSteps := 2000000) only [go_sem]
      have d : a.getD k 0 = x := by have d := eq_of_beq d; exact d.symm
      rw [if_pos d] at h2
      rw [← h2]
    simp -implicitDefEqProofs (maxSteps := 2000000) only [go_sem]
    rw [if_neg (by intro e; rw [e] at d; simp at d)] at h2
    rw [i64_succ (by omega)]
    exact ⟨k + 1, ⟨c1, h2⟩, by omega, (le_st _ _ [] [] _ rfl (by simp -implicitDefEqProofs (maxSteps := 2000000) only [go_sem] <;> rfl) trivial trivial)⟩
  · simp -implicitDefEqProofs (maxSteps := 2000000) only [go_sem, c1]
    rw [List.drop_of_length_le (by omega), posI] at h2
    rw [← h2]
theorem slicesContains_sat (a : List Int) (x : Int) (ha : a.length ≤ 9223372036854775807) : Sat Tryz.prog 44 [lInts a, lInt x] [lBool (decide (x ∈ a))] [g1, g1] := by
  refine sat_of_body mixed Tryz.func44 rfl (by kernel_rfl) (by kernel_rfl) (rs := [.tmp 4]) rfl rfl rfl ?_
  simp -implicitDefEqProofs (maxSteps := 2000000) only [go_sem]
  refine call_of (slicesIndex_sat a x ha) (by simp -implicitDefEqProofs (maxSteps := 2000000) only [go_sem]) (by kernel_rfl) (by simp -implicitDefEqProofs (maxSteps := 2000000) only [go_sem]) ?_
  simp -implicitDefEqProofs (maxSteps := 2000000) only [go_sem]
  rw [posI_mem]
end Go.Proofs.YtedciihjgbkjgabGreatDoor.A


/- THE LIBRARY'S Max AT NUMBERS, of this program. Conditions: none. -/
namespace Go.Proofs.YtedciihjgbkjgabGreatDoor.A
open Go Go.Shelf
set_option linter.unusedVariables false
set_option maxRecDepth 100000
def laysMax_ren : Go.Shelf.Ren := ⟨fun | 113 => 58 | n => n, fun | 0 => 0 | 3 => 3 | 4 => 4 | 9 => 9 | 20 => 20 | 28 => 40 | n => n, fun n => n⟩
theorem laysMax : Lays.n113 Tryz.prog laysMax_ren where
  mixed := by kernel_rfl
  f113 := Tryz.func58.trans (congrArg some (by kernel_rfl))
  t0 := Tryz.underlying0
  a0 := Tryz.isAgg0
  z0 := Tryz.sizeOf0
  v0 := Tryz.zeroValue0
  t3 := Tryz.underlying3
  a3 := Tryz.isAgg3
  z3 := Tryz.sizeOf3
  v3 := Tryz.zeroValue3
  t4 := Tryz.underlying4
  a4 := Tryz.isAgg4
  z4 := Tryz.sizeOf4
  v4 := Tryz.zeroValue4
  t9 := Tryz.underlying9
  a9 := Tryz.isAgg9
  z9 := Tryz.sizeOf9
  v9 := Tryz.zeroValue9
  t20 := Tryz.underlying20
  a20 := Tryz.isAgg20
  z20 := Tryz.sizeOf20
  v20 := Tryz.zeroValue20
  t28 := Tryz.underlying40
  a28 := Tryz.isAgg40
  z28 := Tryz.sizeOf40
  v28 := Tryz.zeroValue40
theorem max_calls (b n c : Nat) (zs : List Int) (w : World) (hn : 0 < n) (hz : n ≤ zs.length) (hbig : n ≤ 9223372036854775807) (hc : ∀ j, j < zs.length → w.cell? ⟨b, 0 + j, none⟩ = some (.int .i64 (zs.getD j 0))) :
    Calls Tryz.prog 58 #[.slice (some ⟨b, 0, none⟩) n c] w fun e w' => e = .returned (.int .i64 (Lib.maxOf (zs.take n))) ∧ w' = w :=
  Any.slices_Max_int laysMax b 0 n c zs w hn hz hbig hc
end Go.Proofs.YtedciihjgbkjgabGreatDoor.A


/- MARKS OF ATOMS AND QUERIES. Conditions: none. -/
namespace Go.Proofs.YtedciihjgbkjgabGreatDoor.A
open Go
set_option linter.unusedSimpArgs false
set_option linter.unusedVariables false
set_option maxRecDepth 100000

/-- How many numbers stand in rows. -/
def numRI : List RI → Nat
  | [] => 0
  | a :: l => 1 + a.l.length + numRI l
theorem numRI_nil : numRI [] = 0 := rfl
attribute [go_sem] numRI_nil
def markRI : List RI → Int → List RI
  | [], _ => []
  | a :: l, k => ⟨k, cnt (k + 1) a.l.length⟩ :: markRI l (k + 1 + a.l.length)
theorem markRI_length : ∀ (a : List RI) (k : Int), (markRI a k).length = a.length
  | [], _ => rfl
  | a :: l, k => by rw [markRI, List.length_cons, List.length_cons, markRI_length]
theorem numRI_take {a : List RI} {i : Nat} (h : i < a.length) : numRI (a.take (i + 1)) = numRI (a.take i) + 1 + (a.getD i default).l.length := by
  induction a generalizing i with
  | nil => simp at h
  | cons x a ih =>
    cases i with
    | zero => simp [numRI]
    | succ i =>
      have := ih (i := i) (by simpa using h)
      rw [List.take_succ_cons, List.take_succ_cons, numRI, numRI, this, List.getD_cons_succ]; omega
theorem numRI_le : ∀ {a : List RI} (i : Nat), numRI (a.take i) ≤ numRI a
  | [], i => by simp [numRI]
  | x :: a, 0 => by simp [numRI]
  | x :: a, i + 1 => by
    rw [List.take_succ_cons, numRI, numRI]
    have := numRI_le (a := a) i
    omega
theorem numRI_ok : ∀ {a : List RI}, (∀ x ∈ a, x.ok) → numRI a ≤ a.length * 1048577
  | [], _ => by simp [numRI]
  | x :: a, h => by
    have h1 := numRI_ok (a := a) fun y hy => h y (List.mem_cons_of_mem _ hy)
    have h2 := h x (List.mem_cons_self ..)
    unfold RI.ok at h2
    rw [numRI, List.length_cons]; omega
theorem markRI_get : ∀ {a : List RI} {k : Int} {i : Nat}, i < a.length → (markRI a k).getD i default = ⟨k + numRI (a.take i), cnt (k + numRI (a.take i) + 1) (a.getD i default).l.length⟩
  | x :: a, k, 0, _ => by simp [markRI, numRI]
  | x :: a, k, i + 1, h => by
    rw [markRI, List.getD_cons_succ, markRI_get (by simpa using h), List.getD_cons_succ, List.take_succ_cons, numRI]
    have e : k + 1 + (x.l.length : Int) + (numRI (a.take i) : Int) = k + ((1 + x.l.length + numRI (a.take i) : Nat) : Int) := by omega
    rw [e]
theorem drop_get {α : Type} {d : α} {a b : List α} {i : Nat} (hl : b.length = a.length) (h : b.drop i = a.drop i) (hi : i < a.length) : b.getD i d = a.getD i d := by
  rw [drop_cons d (by omega), drop_cons d hi] at h
  exact (List.cons.inj h).1
theorem drop_set {α : Type} {a b : List α} {i : Nat} (x : α) (h : b.drop i = a.drop i) : (b.set i x).drop (i + 1) = a.drop (i + 1) := by
  rw [List.drop_set_of_lt (by omega), ← List.drop_drop, ← List.drop_drop, h]
theorem take_set_to {α : Type} {a b : List α} {i : Nat} {x d : α} (hl : b.length = a.length) (h : b.take i = a.take i) (hi : i < a.length) (hx : a.getD i d = x) : (b.set i x).take (i + 1) = a.take (i + 1) := by
  rw [← hx]; exact take_set_snoc d hl h hi
theorem markAtomS_sat (a : List RI) (k : Int) (h : 0 ≤ k ∧ k + numRI a ≤ 9223372036854775807) (hl : a.length ≤ 9223372036854775807) : Sat Tryz.prog 64 [oRIs a, lInt k] [lInt (k + numRI a)] [oRIs (markRI a k), g1] := by
  refine sat_of_body mixed Tryz.func64 rfl (by kernel_rfl) (by kernel_rfl) (rs := [.tmp 4]) rfl rfl rfl ?_
  simp -implicitDefEqProofs (maxSteps := 2000000) only [go_sem]
  refine awp_loop (Nat × List RI) (fun x => mkSt [(0, .one (.ref 0 2 0 a.length)), (1, .sc (.int .i64 (k + numRI (a.take x.1)))), (5, .sc (.int .i64 x.1))] [] [(0, (2, ris 999 x.2))] 1000)
    (fun x => x.1 ≤ a.length ∧ x.2.length = a.length ∧ x.2.take x.1 = (markRI a k).take x.1 ∧ x.2.drop x.1 = a.drop x.1) (fun x => a.length - x.1) (0, a) ⟨by simp, rfl, rfl, rfl⟩ (le_st _ _ [⟨0, some 0, false, 2, _⟩] [] _ rfl (by simp -implicitDefEqProofs (maxSteps := 2000000) only [go_sem] <;> rfl) (by simp -implicitDefEqProofs (maxSteps := 2000000) only [go_sem] <;> rfl) (by simp -implicitDefEqProofs (maxSteps := 2000000) only [go_sem] <;> rfl)) ?_
  rintro ⟨i, b⟩ ⟨h1, h2, h3, h4⟩
  simp only at h1 h2 h3 h4
  by_cases c1 : i < a.length
  · have n1 := numRI_take c1
    have n2 := numRI_le (a := a) (i + 1)
    have e1 := drop_get (d := default) h2 h4 c1
    simp -implicitDefEqProofs (maxSteps := 2000000) only [go_sem, c1, h2, List.length_take, Nat.min_self]
    rw [IntWalk.i64_in _ (by omega)]
    refine call_of (markIntS_sat (b.getD i default).l (k + numRI (a.take i) + 1) (by rw [e1]; omega)) (by simp -implicitDefEqProofs (maxSteps := 2000000) only [go_sem, c1, h2, List.length_take, Nat.min_self]) (by kernel_rfl) (by simp -implicitDefEqProofs (maxSteps := 2000000) only [go_sem, c1, h2, List.length_take, Nat.min_self]) ?_
    simp -implicitDefEqProofs (maxSteps := 2000000) only [go_sem, c1, h2, List.length_take, Nat.min_self]
    rw [i64_succ (by omega), show k + (numRI (a.take i) : Int) + 1 + ((b.getD i default).l.length : Int) = k + (numRI (a.take (i + 1)) : Int) by rw [n1, e1]; omega]
    refine ⟨(i + 1, b.set i ⟨k + numRI (a.take i), cnt (k + numRI (a.take i) + 1) (b.getD i default).l.length⟩), ⟨c1, by simpa using h2, ?_, drop_set _ h4⟩, by simp; omega, (le_st _ _ [⟨0, some 0, false, 2, _⟩] [] _ rfl (by simp -implicitDefEqProofs (maxSteps := 2000000) only [go_sem, c1, h2] <;> rfl) (by simp -implicitDefEqProofs (maxSteps := 2000000) only [go_sem, c1, h2] <;> rfl) (by simp -implicitDefEqProofs (maxSteps := 2000000) only [go_sem, c1, h2] <;> rfl))⟩
    exact take_set_to (d := default) (by rw [markRI_length]; exact h2) h3 (by rw [markRI_length]; exact c1) (by rw [markRI_get c1, e1])
  · have hb : b = markRI a k := of_take (by rw [markRI_length]; exact h2) h3 (by rw [markRI_length]; omega)
    simp -implicitDefEqProofs (maxSteps := 2000000) only [go_sem, c1, h2, List.length_take, Nat.min_self]
    rw [List.take_of_length_le (by omega), hb]
    exact ⟨rfl, rfl, rfl⟩
theorem heldAtomS_sat (a : List RI) (k : Int) (h : 0 ≤ k ∧ k + numRI a ≤ 9223372036854775807) (hl : a.length ≤ 9223372036854775807) : Sat Tryz.prog 66 [lRIs (markRI a k), lInt k] [lInt (k + numRI a)] [g1, g1] := by
  refine sat_of_body mixed Tryz.func66 rfl (by kernel_rfl) (by kernel_rfl) (rs := [.tmp 4]) rfl rfl rfl ?_
  simp -implicitDefEqProofs (maxSteps := 2000000) only [go_sem]
  refine awp_loop Nat (fun i => mkSt [(0, .one (.im 2 (ris 0 (markRI a k)))), (1, .sc (.int .i64 (k + numRI (a.take i)))), (5, .sc (.int .i64 i))] [] [] 1000)
    (fun i => i ≤ a.length) (fun i => a.length - i) 0 (by omega) (le_st _ _ [] [] _ rfl (by simp -implicitDefEqProofs (maxSteps := 2000000) only [go_sem] <;> rfl) trivial trivial) ?_
  rintro i h1
  by_cases c1 : i < a.length
  · have n1 := numRI_take c1
    have n2 := numRI_le (a := a) (i + 1)
    have e1 := markRI_get (k := k) c1
    simp -implicitDefEqProofs (maxSteps := 2000000) only [go_sem, c1, markRI_length, e1]
    rw [IntWalk.i64_in _ (by omega)]
    refine call_of (heldIntS_sat (a.getD i default).l.length (k + numRI (a.take i) + 1) (by omega)) (by simp -implicitDefEqProofs (maxSteps := 2000000) only [go_sem, c1, markRI_length, e1]) (by kernel_rfl) (by simp -implicitDefEqProofs (maxSteps := 2000000) only [go_sem, c1, markRI_length, e1]) ?_
    simp -implicitDefEqProofs (maxSteps := 2000000) only [go_sem, c1, markRI_length, e1]
    refine cond_split (fun d => ?_) fun d => ?_
    · have := of_decide_eq_true d; omega
    simp -implicitDefEqProofs (maxSteps := 2000000) only [go_sem]
    rw [i64_succ (by omega), show k + (numRI (a.take i) : Int) + 1 + ((a.getD i default).l.length : Int) = k + (numRI (a.take (i + 1)) : Int) by rw [n1]; omega]
    refine ⟨i + 1, c1, by omega, (le_st _ _ [] [] _ rfl (by simp -implicitDefEqProofs (maxSteps := 2000000) only [go_sem] <;> rfl) trivial trivial)⟩
  · simp -implicitDefEqProofs (maxSteps := 2000000) only [go_sem, c1, markRI_length]
    rw [List.take_of_length_le (by omega)]
def numQu (q : Qu) : Nat := numRI q.atoms + q.free.length
def markQu (q : Qu) (k : Int) : Qu := ⟨q.vc, markRI q.atoms k, cnt (k + numRI q.atoms) q.free.length⟩
theorem numQu_ok {q : Qu} (h : q.ok) : numQu q ≤ 1048577 * 1048577 := by
  have h1 := numRI_ok h.1.2
  have h2 := h.2
  have h3 := h.1.1
  unfold numQu
  have : q.atoms.length * 1048577 ≤ 1048576 * 1048577 := Nat.mul_le_mul_right _ h3
  omega
theorem markQuery_sat (q : Qu) (k : Int) (h : 0 ≤ k ∧ k + numQu q ≤ 9223372036854775807) (hl : q.fit) : Sat Tryz.prog 24 [oQu q, lInt k] [lInt (k + numQu q)] [uQu (markQu q k), g1] := by
  refine sat_of_body mixed Tryz.func24 rfl (by kernel_rfl) (by kernel_rfl) (rs := [.tmp 4]) rfl rfl rfl ?_
  unfold numQu at h ⊢
  simp -implicitDefEqProofs (maxSteps := 2000000) only [go_sem]
  refine call_of (markAtomS_sat q.atoms k (by omega) hl.1.1) (by simp -implicitDefEqProofs (maxSteps := 2000000) only [go_sem]) (by kernel_rfl) (by simp -implicitDefEqProofs (maxSteps := 2000000) only [go_sem]) ?_
  simp -implicitDefEqProofs (maxSteps := 2000000) only [go_sem]
  refine call_of (markIntS_sat q.free (k + numRI q.atoms) (by omega)) (by simp -implicitDefEqProofs (maxSteps := 2000000) only [go_sem]) (by kernel_rfl) (by simp -implicitDefEqProofs (maxSteps := 2000000) only [go_sem]) ?_
  simp -implicitDefEqProofs (maxSteps := 2000000) only [go_sem]
  refine ⟨by rw [Int.natCast_add, Int.add_assoc], ⟨rfl, rfl⟩, rfl⟩
theorem heldQuery_sat (q : Qu) (k : Int) (h : 0 ≤ k ∧ k + numQu q ≤ 9223372036854775807) (hl : q.fit) : Sat Tryz.prog 25 [lQu (markQu q k), lInt k] [lInt (k + numQu q)] [g3, g1] := by
  refine sat_of_body mixed Tryz.func25 rfl (by kernel_rfl) (by kernel_rfl) (rs := [.tmp 4]) rfl rfl rfl ?_
  unfold numQu at h ⊢
  unfold markQu
  simp -implicitDefEqProofs (maxSteps := 2000000) only [go_sem]
  refine call_of (heldAtomS_sat q.atoms k (by omega) hl.1.1) (by simp -implicitDefEqProofs (maxSteps := 2000000) only [go_sem]) (by kernel_rfl) (by simp -implicitDefEqProofs (maxSteps := 2000000) only [go_sem]) ?_
  simp -implicitDefEqProofs (maxSteps := 2000000) only [go_sem]
  refine cond_split (fun d => ?_) fun d => ?_
  · have := of_decide_eq_true d; omega
  simp -implicitDefEqProofs (maxSteps := 2000000) only [go_sem]
  refine call_of (heldIntS_sat q.free.length (k + numRI q.atoms) (by omega)) (by simp -implicitDefEqProofs (maxSteps := 2000000) only [go_sem]) (by kernel_rfl) (by simp -implicitDefEqProofs (maxSteps := 2000000) only [go_sem]) ?_
  simp -implicitDefEqProofs (maxSteps := 2000000) only [go_sem]
  refine cond_split (fun d => ?_) fun d => ?_
  · have := of_decide_eq_true d; omega
  simp -implicitDefEqProofs (maxSteps := 2000000) only [go_sem]
  rw [Int.natCast_add, Int.add_assoc]
end Go.Proofs.YtedciihjgbkjgabGreatDoor.A


/- RELATIONS, FACTS AND DATABASES: size, copy, comparison, marks. Conditions: none. -/
namespace Go.Proofs.YtedciihjgbkjgabGreatDoor.A
open Go
set_option linter.unusedSimpArgs false
set_option linter.unusedVariables false
set_option maxRecDepth 100000

def szRel (a : Rel) (n : Int) : Int := if n - a.name.size < 0 then -1 else n - a.name.size
def Rel.ok (a : Rel) : Prop := a.name.size ≤ 1048576
def Rel.fit (a : Rel) : Prop := a.name.size ≤ 9223372036854775807
theorem szRel_ok : SzOk szRel Rel.ok := by
  intro a n h
  unfold szRel Rel.ok
  split
  · exact ⟨by omega, fun h => absurd (by omega) h⟩
  · exact ⟨by omega, fun h => by omega⟩
theorem szRelation_sat (a : Rel) (n : Int) (h : -1 ≤ n ∧ n ≤ 1048576) (h1 : a.fit) : Sat Tryz.prog 48 [lRel a, lInt n] [lInt (szRel a n)] [g3, g1] := by
  refine sat_of_body mixed Tryz.func48 rfl (by kernel_rfl) (by kernel_rfl) (rs := [.tmp 4]) rfl rfl rfl ?_
  unfold szRel
  unfold Rel.fit at h1
  simp -implicitDefEqProofs (maxSteps := 2000000) only [go_sem]
  rw [IntWalk.i64_in _ (by omega)]
  refine cond_split (fun d => ?_) fun d => ?_
  · simp -implicitDefEqProofs (maxSteps := 2000000) only [go_sem]
    rw [if_pos (of_decide_eq_true d)]
  · simp -implicitDefEqProofs (maxSteps := 2000000) only [go_sem]
    rw [if_neg (of_decide_eq_false d)]
theorem szRelationS_sat (a : List Rel) (n : Int) (h : -1 ≤ n ∧ n ≤ 1048576) (h1 : a.length ≤ 9223372036854775807) (h2 : ∀ x ∈ a, x.fit) : Sat Tryz.prog 17 [lRels a, lInt n] [lInt (szAll szRel a n)] [g1, g1] := by
  refine sat_of_body mixed Tryz.func17 rfl (by kernel_rfl) (by kernel_rfl) (rs := [.tmp 4]) rfl rfl rfl ?_
  simp -implicitDefEqProofs (maxSteps := 2000000) only [go_sem]
  rw [IntWalk.i64_in _ (by omega)]
  refine cond_split (fun d => ?_) fun d => ?_
  · simp -implicitDefEqProofs (maxSteps := 2000000) only [go_sem]
    have d := of_decide_eq_true d
    rw [szAll, if_pos d]
  have d := of_decide_eq_false d
  simp -implicitDefEqProofs (maxSteps := 2000000) only [go_sem]
  refine awp_loop (Nat × Int) (fun x => mkSt [(0, .one (.im 3 (rels a))), (1, .sc (.int .i64 x.2)), (5, .sc (.int .i64 x.1))] [] [] 1000)
    (fun x => x.1 ≤ a.length ∧ (-1 ≤ x.2 ∧ x.2 ≤ 1048576) ∧ szF szRel (a.drop x.1) x.2 = szAll szRel a n) (fun x => a.length - x.1) (0, n - a.length) ⟨by simp, by simp; omega, by rw [szAll, if_neg d]; rfl⟩ (le_st _ _ [] [] _ rfl (by simp -implicitDefEqProofs (maxSteps := 2000000) only [go_sem] <;> rfl) trivial trivial) ?_
  rintro ⟨k, m⟩ ⟨c1, c2, c3⟩
  simp only at c1 c2 c3
  by_cases c : k < a.length
  · rw [drop_cons default c, szF] at c3
    have e := szRel_ok (a.getD k default) m c2
    simp -implicitDefEqProofs (maxSteps := 2000000) only [go_sem, c]
    refine call_of (szRelation_sat (a.getD k default) m c2 (h2 _ (mem_getD _ c))) (by simp -implicitDefEqProofs (maxSteps := 2000000) only [go_sem]) (by kernel_rfl) (by simp -implicitDefEqProofs (maxSteps := 2000000) only [go_sem]) ?_
    simp -implicitDefEqProofs (maxSteps := 2000000) only [go_sem]
    refine cond_split (fun f => ?_) fun f => ?_
    · simp -implicitDefEqProofs (maxSteps := 2000000) only [go_sem]
      rw [if_pos (of_decide_eq_true f)] at c3
      rw [← c3]
    simp -implicitDefEqProofs (maxSteps := 2000000) only [go_sem]
    rw [if_neg (of_decide_eq_false f)] at c3
    rw [i64_succ (by omega)]
    exact ⟨(k + 1, szRel (a.getD k default) m), ⟨c, e.1, c3⟩, by simp; omega, (le_st _ _ [] [] _ rfl (by simp -implicitDefEqProofs (maxSteps := 2000000) only [go_sem] <;> rfl) trivial trivial)⟩
  · simp -implicitDefEqProofs (maxSteps := 2000000) only [go_sem, c]
    rw [List.drop_of_length_le (by omega), szF] at c3
    rw [c3]
theorem toRelation_sat (a : Rel) : Sat Tryz.prog 53 [lRel a] [lRel a] [g3] := by
  refine sat_of_body mixed Tryz.func53 rfl (by kernel_rfl) (by kernel_rfl) (rs := [.cell 2 74]) rfl rfl rfl ?_
  simp -implicitDefEqProofs (maxSteps := 2000000) only [go_sem]
theorem toRelationS_sat (a : List Rel) (h : a.length ≤ 1048576) : Sat Tryz.prog 19 [lRels a] [oRels a] [g1] := by
  refine sat_of_body mixed Tryz.func19 rfl (by kernel_rfl) (by kernel_rfl) (rs := [.tmp 2]) rfl rfl rfl ?_
  simp -implicitDefEqProofs (maxSteps := 2000000) only [go_sem]
  refine ⟨by omega, ?_⟩
  refine awp_loop (Nat × List Rel) (fun x => mkSt [(0, .one (.im 3 (rels a))), (3, .one (.ref 960 3 0 a.length)), (4, .sc (.int .i64 x.1))] [] [(960, (3, rels x.2))] 1000)
    (fun x => x.1 ≤ a.length ∧ x.2.length = a.length ∧ x.2.take x.1 = a.take x.1) (fun x => a.length - x.1) (0, List.replicate a.length ⟨ByteArray.empty, 0, 0⟩) ⟨by simp, by simp, by simp⟩ (le_st _ _ [⟨960, some 1192, false, 3, _⟩] [] _ rfl (by simp -implicitDefEqProofs (maxSteps := 2000000) only [go_sem] <;> rfl) (by simp -implicitDefEqProofs (maxSteps := 2000000) only [go_sem] <;> rfl) (by simp -implicitDefEqProofs (maxSteps := 2000000) only [go_sem] <;> rfl)) ?_
  rintro ⟨k, b⟩ ⟨h1, h2, h3⟩
  simp only at h1 h2 h3
  by_cases c1 : k < a.length
  · simp -implicitDefEqProofs (maxSteps := 2000000) only [go_sem, c1, h2]
    refine call_of (toRelation_sat (a.getD k default)) (by simp -implicitDefEqProofs (maxSteps := 2000000) only [go_sem, h2, c1]) (by kernel_rfl) (by simp -implicitDefEqProofs (maxSteps := 2000000) only [go_sem, h2, c1]) ?_
    simp -implicitDefEqProofs (maxSteps := 2000000) only [go_sem, h2, c1]
    rw [i64_succ (by omega)]
    exact ⟨(k + 1, b.set k (a.getD k default)), ⟨c1, by simpa using h2, take_set_snoc default h2 h3 c1⟩, by simp; omega, (le_st _ _ [⟨960, some 960, false, 3, _⟩] [] _ rfl (by simp -implicitDefEqProofs (maxSteps := 2000000) only [go_sem] <;> rfl) (by simp -implicitDefEqProofs (maxSteps := 2000000) only [go_sem] <;> rfl) (by simp -implicitDefEqProofs (maxSteps := 2000000) only [go_sem] <;> rfl))⟩
  · obtain rfl := of_take h2 h3 (by omega)
    simp -implicitDefEqProofs (maxSteps := 2000000) only [go_sem, c1]
    rfl
theorem Rel.eq_iff (a b : Rel) : decide (a = b) = (decide (a.name = b.name) && (decide (a.ar = b.ar) && decide (a.kl = b.kl))) := by cases a; cases b; simp
theorem eqRelation_sat (a b : Rel) : Sat Tryz.prog 62 [lRel a, lRel b] [lBool (decide (a = b))] [g3, g3] := by
  refine sat_of_body mixed Tryz.func62 rfl (by kernel_rfl) (by kernel_rfl) (rs := [.tmp 4]) rfl rfl rfl ?_
  rw [Rel.eq_iff]
  simp -implicitDefEqProofs (maxSteps := 2000000) only [go_sem]
  refine cond_split (fun d => ?_) fun d => ?_
  · have d : ¬ a.name = b.name := by simpa using d
    simp -implicitDefEqProofs (maxSteps := 2000000) only [go_sem, d, decide_false]
  have d : decide (a.name = b.name) = true := by simpa using d
  simp -implicitDefEqProofs (maxSteps := 2000000) only [go_sem, d]
  refine cond_split (fun e => ?_) fun e => ?_
  · have e : ¬ a.ar = b.ar := by simpa using e
    simp -implicitDefEqProofs (maxSteps := 2000000) only [go_sem, e, decide_false]
  have e : decide (a.ar = b.ar) = true := by simpa using e
  simp -implicitDefEqProofs (maxSteps := 2000000) only [go_sem, e]
  refine cond_split (fun f => ?_) fun f => ?_
  · have f : ¬ a.kl = b.kl := by simpa using f
    simp -implicitDefEqProofs (maxSteps := 2000000) only [go_sem, f, decide_false]
  have f : decide (a.kl = b.kl) = true := by simpa using f
  simp -implicitDefEqProofs (maxSteps := 2000000) only [go_sem, f]
theorem eqRelationS_sat (a b : List Rel) (ha : a.length ≤ 9223372036854775807) : Sat Tryz.prog 22 [lRels a, lRels b] [lBool (decide (a = b))] [g1, g1] := by
  refine sat_of_body mixed Tryz.func22 rfl (by kernel_rfl) (by kernel_rfl) (rs := [.tmp 4]) rfl rfl rfl ?_
  simp -implicitDefEqProofs (maxSteps := 2000000) only [go_sem]
  refine cond_split (fun d => ?_) fun d => ?_
  · simp -implicitDefEqProofs (maxSteps := 2000000) only [go_sem]
    have d : ¬ (a.length : Int) = b.length := by simpa using d
    rw [decide_eq_false (fun h => d (by rw [h]))]
  have d : a.length = b.length := cast_ne d
  simp -implicitDefEqProofs (maxSteps := 2000000) only [go_sem]
  refine awp_loop Nat (fun k => mkSt [(0, .one (.im 3 (rels a))), (1, .one (.im 3 (rels b))), (5, .sc (.int .i64 k))] [] [] 1000)
    (fun k => k ≤ a.length ∧ a.take k = b.take k) (fun k => a.length - k) 0 ⟨by omega, rfl⟩ (le_st _ _ [] [] _ rfl (by simp -implicitDefEqProofs (maxSteps := 2000000) only [go_sem] <;> rfl) trivial trivial) ?_
  rintro k ⟨h1, h2⟩
  by_cases c1 : k < a.length
  · have c2 : k < b.length := by omega
    simp -implicitDefEqProofs (maxSteps := 2000000) only [go_sem, c1, c2]
    refine call_of (eqRelation_sat (a.getD k default) (b.getD k default)) (by simp -implicitDefEqProofs (maxSteps := 2000000) only [go_sem]) (by kernel_rfl) (by simp -implicitDefEqProofs (maxSteps := 2000000) only [go_sem]) ?_
    simp -implicitDefEqProofs (maxSteps := 2000000) only [go_sem]
    refine cond_split (fun e => ?_) fun e => ?_
    · simp -implicitDefEqProofs (maxSteps := 2000000) only [go_sem]
      rw [decide_eq_false (list_ne (d := default) (k := k) (by simpa using e))]
    simp -implicitDefEqProofs (maxSteps := 2000000) only [go_sem]
    rw [i64_succ (by omega)]
    exact ⟨k + 1, ⟨c1, list_step default c1 c2 h2 (by simpa using e)⟩, by omega, (le_st _ _ [] [] _ rfl (by simp -implicitDefEqProofs (maxSteps := 2000000) only [go_sem] <;> rfl) trivial trivial)⟩
  · simp -implicitDefEqProofs (maxSteps := 2000000) only [go_sem, c1]
    rw [List.take_of_length_le (by omega), List.take_of_length_le (by omega)] at h2
    rw [decide_eq_true h2]

/-! #### facts -/
def szDb (d : Db) (n : Int) : Int := if szAll szRel d.rels n < 0 then -1 else szAll szRI d.facts (szAll szRel d.rels n)
def Db.ok (d : Db) : Prop := (d.rels.length ≤ 1048576 ∧ ∀ x ∈ d.rels, x.ok) ∧ (d.facts.length ≤ 1048576 ∧ ∀ x ∈ d.facts, x.ok)
def Db.fit (d : Db) : Prop := (d.rels.length ≤ 9223372036854775807 ∧ ∀ x ∈ d.rels, x.fit) ∧ (d.facts.length ≤ 9223372036854775807 ∧ ∀ x ∈ d.facts, x.fit)
theorem Rel.ok.fit {a : Rel} (h : a.ok) : a.fit := by unfold Rel.ok at h; unfold Rel.fit; omega
theorem Db.ok.fit {d : Db} (h : d.ok) : d.fit := by
  unfold Db.ok at h; unfold Db.fit
  exact ⟨⟨by omega, fun x hx => (h.1.2 x hx).fit⟩, by omega, fun x hx => (h.2.2 x hx).fit⟩
theorem szDb_ok : SzOk szDb Db.ok := by
  intro d n h
  unfold szDb Db.ok
  have h1 := szAll_ok szRel_ok d.rels n h
  split
  · exact ⟨by omega, fun h => absurd (by omega) h⟩
  · rename_i c
    have h2 := szAll_ok szRI_ok d.facts _ h1.1
    exact ⟨h2.1, fun h3 => ⟨h1.2 c, h2.2 h3⟩⟩
theorem Db.eq_iff (a b : Db) : decide (a = b) = (decide (a.rels = b.rels) && decide (a.facts = b.facts)) := by cases a; cases b; simp
end Go.Proofs.YtedciihjgbkjgabGreatDoor.A


/- VALID RELATIONS, FACTS AND DATABASES. Conditions: none. -/
namespace Go.Proofs.YtedciihjgbkjgabGreatDoor.A
open Go
set_option linter.unusedSimpArgs false
set_option linter.unusedVariables false
set_option maxRecDepth 100000

/-- Does something hold of all numbers below k. -/
def upTo (p : Nat → Bool) : Nat → Bool
  | 0 => true
  | k + 1 => upTo p k && p k
theorem upTo_false {p : Nat → Bool} {n k : Nat} (h : k < n) (hp : p k = false) : upTo p n = false := by
  induction n with
  | zero => omega
  | succ n ih =>
    unfold upTo
    by_cases e : k = n
    · subst e; simp [hp]
    · rw [ih (by omega)]; rfl
theorem upTo_step {p : Nat → Bool} {k : Nat} (h : upTo p k = true) (hp : p k = true) : upTo p (k + 1) = true := by rw [upTo, h, hp]; rfl
theorem upTo_at {p : Nat → Bool} {n k : Nat} (h : upTo p n = true) (hk : k < n) : p k = true := by
  rcases hp : p k
  · rw [upTo_false hk hp] at h; cases h
  · rfl
def inB (x a b : Int) : Bool := decide (a ≤ x) && decide (x ≤ b)
theorem inB_sat (x a b : Int) : Sat Tryz.prog 40 [lInt x, lInt a, lInt b] [lBool (inB x a b)] [g1, g1, g1] := l1In_sat x a b
theorem inW_sat (x a b : Int) : Sat Tryz.prog 39 [lInt x, lInt a, lInt b] [lBool (inB x a b)] [g1, g1, g1] := within_sat x a b
theorem inB_of {x a b : Int} (h : inB x a b = true) : a ≤ x ∧ x ≤ b := by
  unfold inB at h
  simpa using h
abbrev n0 (r : Rel) : Int := ((r.name.data.toList.getD 0 0).toNat : Int)
def goodRel (r : Rel) : Bool := ((r.name.size : Int) == 1) && (decide (n0 r ≥ 97) && (decide (n0 r ≤ 122) && (inB r.ar 1 3 && inB r.kl 0 r.ar)))
theorem specIsValidRelation_sat (r : Rel) : Sat Tryz.prog 80 [lRel r] [lBool (goodRel r)] [g3] := by
  refine sat_of_body mixed Tryz.func80 rfl (by kernel_rfl) (by kernel_rfl) (rs := [.tmp 2]) rfl rfl rfl ?_
  unfold goodRel
  rcases d1 : ((r.name.size : Int) == 1)
  · simp -implicitDefEqProofs (maxSteps := 2000000) only [go_sem, d1]
  have s1 : 0 < r.name.size := by have := eq_of_beq d1; omega
  rcases d2 : decide (n0 r ≥ 97)
  · simp -implicitDefEqProofs (maxSteps := 2000000) only [go_sem, d1, d2, s1]
  rcases d3 : decide (n0 r ≤ 122)
  · simp -implicitDefEqProofs (maxSteps := 2000000) only [go_sem, d1, d2, d3, s1]
  simp -implicitDefEqProofs (maxSteps := 2000000) only [go_sem, d1, d2, d3, s1]
  rcases d4 : inB r.ar 1 3
  · refine call_of (inB_sat r.ar 1 3) (by simp -implicitDefEqProofs (maxSteps := 2000000) only [go_sem, d4]) (by kernel_rfl) (by simp -implicitDefEqProofs (maxSteps := 2000000) only [go_sem, d4]) ?_
    simp -implicitDefEqProofs (maxSteps := 2000000) only [go_sem, d4]
  · refine call_of (inB_sat r.ar 1 3) (by simp -implicitDefEqProofs (maxSteps := 2000000) only [go_sem, d4]) (by kernel_rfl) (by simp -implicitDefEqProofs (maxSteps := 2000000) only [go_sem, d4]) ?_
    simp -implicitDefEqProofs (maxSteps := 2000000) only [go_sem, d4]
    refine call_of (inB_sat r.kl 0 r.ar) (by simp -implicitDefEqProofs (maxSteps := 2000000) only [go_sem]) (by kernel_rfl) (by simp -implicitDefEqProofs (maxSteps := 2000000) only [go_sem]) ?_
    simp -implicitDefEqProofs (maxSteps := 2000000) only [go_sem]
theorem implIsValidRelation_sat (r : Rel) : Sat Tryz.prog 108 [lRel r] [lBool (goodRel r)] [g3] := by
  refine sat_of_body mixed Tryz.func108 rfl (by kernel_rfl) (by kernel_rfl) (rs := [.tmp 2]) rfl rfl rfl ?_
  unfold goodRel
  rcases d1 : ((r.name.size : Int) == 1)
  · simp -implicitDefEqProofs (maxSteps := 2000000) only [go_sem, d1]
  have s1 : 0 < r.name.size := by have := eq_of_beq d1; omega
  rcases d2 : decide (n0 r ≥ 97)
  · simp -implicitDefEqProofs (maxSteps := 2000000) only [go_sem, d1, d2, s1]
  rcases d3 : decide (n0 r ≤ 122)
  · simp -implicitDefEqProofs (maxSteps := 2000000) only [go_sem, d1, d2, d3, s1]
  simp -implicitDefEqProofs (maxSteps := 2000000) only [go_sem, d1, d2, d3, s1]
  rcases d4 : inB r.ar 1 3
  · refine call_of (inW_sat r.ar 1 3) (by simp -implicitDefEqProofs (maxSteps := 2000000) only [go_sem, d4]) (by kernel_rfl) (by simp -implicitDefEqProofs (maxSteps := 2000000) only [go_sem, d4]) ?_
    simp -implicitDefEqProofs (maxSteps := 2000000) only [go_sem, d4]
  · refine call_of (inW_sat r.ar 1 3) (by simp -implicitDefEqProofs (maxSteps := 2000000) only [go_sem, d4]) (by kernel_rfl) (by simp -implicitDefEqProofs (maxSteps := 2000000) only [go_sem, d4]) ?_
    simp -implicitDefEqProofs (maxSteps := 2000000) only [go_sem, d4]
    refine call_of (inW_sat r.kl 0 r.ar) (by simp -implicitDefEqProofs (maxSteps := 2000000) only [go_sem]) (by kernel_rfl) (by simp -implicitDefEqProofs (maxSteps := 2000000) only [go_sem]) ?_
    simp -implicitDefEqProofs (maxSteps := 2000000) only [go_sem]
/-- Is the i-th relation valid, and behind the one before it. -/
def relOk (l : List Rel) (i : Nat) : Bool := goodRel (l.getD i default) && (decide (i = 0) || Op.bytesLess (l.getD (i - 1) default).name.toList (l.getD i default).name.toList)
def goodRels (l : List Rel) : Bool := upTo (relOk l) l.length && decide ((l.length : Int) ≤ 4)
theorem specAreValidRelations_sat (l : List Rel) (h : l.length ≤ 9223372036854775807) : Sat Tryz.prog 38 [lRels l] [lBool (goodRels l)] [g1] := by
  refine sat_of_body mixed Tryz.func38 rfl (by kernel_rfl) (by kernel_rfl) (rs := [.tmp 2]) rfl rfl rfl ?_
  simp -implicitDefEqProofs (maxSteps := 2000000) only [go_sem]
  refine awp_loop Nat (fun k => mkSt [(0, .one (.im 3 (rels l))), (3, .sc (.int .i64 k))] [] [] 1000)
    (fun k => k ≤ l.length ∧ upTo (relOk l) k = true) (fun k => l.length - k) 0 ⟨by omega, rfl⟩ (le_st _ _ [] [] _ rfl (by simp -implicitDefEqProofs (maxSteps := 2000000) only [go_sem] <;> rfl) trivial trivial) ?_
  rintro k ⟨h1, h2⟩
  by_cases c1 : k < l.length
  · rcases d1 : goodRel (l.getD k default)
    · have e : relOk l k = false := by rw [relOk, d1]; rfl
      rw [show goodRels l = false by rw [goodRels, upTo_false c1 e]; rfl]
      simp -implicitDefEqProofs (maxSteps := 2000000) only [go_sem, c1]
      refine call_of (specIsValidRelation_sat (l.getD k default)) (by simp -implicitDefEqProofs (maxSteps := 2000000) only [go_sem, d1, c1]) (by kernel_rfl) (by simp -implicitDefEqProofs (maxSteps := 2000000) only [go_sem, d1, c1]) ?_
      simp -implicitDefEqProofs (maxSteps := 2000000) only [go_sem, d1, c1]
    rcases k with _ | j
    · have e : relOk l 0 = true := by rw [relOk, d1]; rfl
      have c0 : (0 : Int) < l.length := by omega
      simp -implicitDefEqProofs (maxSteps := 2000000) only [go_sem, c1, c0]
      refine call_of (specIsValidRelation_sat (l.getD 0 default)) (by simp -implicitDefEqProofs (maxSteps := 2000000) only [go_sem, d1, c1, c0]) (by kernel_rfl) (by simp -implicitDefEqProofs (maxSteps := 2000000) only [go_sem, d1, c1, c0]) ?_
      simp -implicitDefEqProofs (maxSteps := 2000000) only [go_sem, d1, c1, c0]
      exact ⟨1, ⟨c1, upTo_step h2 e⟩, by omega, (le_st _ _ [] [] _ rfl (by simp -implicitDefEqProofs (maxSteps := 2000000) only [go_sem] <;> rfl) trivial trivial)⟩
    · have c2 : j < l.length := by omega
      have c3 : 0 < ((j + 1 : Nat) : Int) := by omega
      have w1 := i64_pred (j := j) (by omega)
      rcases d2 : Op.bytesLess (l.getD j default).name.toList (l.getD (j + 1) default).name.toList
      · have e : relOk l (j + 1) = false := by rw [relOk, d1, Nat.add_sub_cancel, d2]; rfl
        rw [show goodRels l = false by rw [goodRels, upTo_false c1 e]; rfl]
        simp -implicitDefEqProofs (maxSteps := 2000000) only [go_sem, c1]
        refine call_of (specIsValidRelation_sat (l.getD (j + 1) default)) (by simp -implicitDefEqProofs (maxSteps := 2000000) only [go_sem, d1, d2, c1, c2, c3, w1]) (by kernel_rfl) (by simp -implicitDefEqProofs (maxSteps := 2000000) only [go_sem, d1, d2, c1, c2, c3, w1]) ?_
        simp -implicitDefEqProofs (maxSteps := 2000000) only [go_sem, d1, d2, c1, c2, c3, w1]
      · have e : relOk l (j + 1) = true := by rw [relOk, d1, Nat.add_sub_cancel, d2]; rfl
        simp -implicitDefEqProofs (maxSteps := 2000000) only [go_sem, c1]
        refine call_of (specIsValidRelation_sat (l.getD (j + 1) default)) (by simp -implicitDefEqProofs (maxSteps := 2000000) only [go_sem, d1, d2, c1, c2, c3, w1]) (by kernel_rfl) (by simp -implicitDefEqProofs (maxSteps := 2000000) only [go_sem, d1, d2, c1, c2, c3, w1]) ?_
        simp -implicitDefEqProofs (maxSteps := 2000000) only [go_sem, d1, d2, c1, c2, c3, w1]
        rw [i64_succ (by omega)]
        exact ⟨j + 1 + 1, ⟨c1, upTo_step h2 e⟩, by omega, (le_st _ _ [] [] _ rfl (by simp -implicitDefEqProofs (maxSteps := 2000000) only [go_sem] <;> rfl) trivial trivial)⟩
  · obtain rfl : k = l.length := by omega
    simp -implicitDefEqProofs (maxSteps := 2000000) only [go_sem, c1]
    rw [goodRels, h2]
    rfl
theorem implAreValidRelations_sat (l : List Rel) (h : l.length ≤ 9223372036854775807) : Sat Tryz.prog 73 [lRels l] [lBool (goodRels l)] [g1] := by
  refine sat_of_body mixed Tryz.func73 rfl (by kernel_rfl) (by kernel_rfl) (rs := [.tmp 2]) rfl rfl rfl ?_
  simp -implicitDefEqProofs (maxSteps := 2000000) only [go_sem]
  refine awp_loop Nat (fun k => mkSt [(0, .one (.im 3 (rels l))), (5, .one (.im 3 (rels l))), (6, .sc (.int .i64 l.length)), (7, .sc (.int .i64 k))] [] [] 1000)
    (fun k => k ≤ l.length ∧ upTo (relOk l) k = true) (fun k => l.length - k) 0 ⟨by omega, rfl⟩ (le_st _ _ [] [] _ rfl (by simp -implicitDefEqProofs (maxSteps := 2000000) only [go_sem] <;> rfl) trivial trivial) ?_
  rintro k ⟨h1, h2⟩
  by_cases c1 : k < l.length
  · rcases d1 : goodRel (l.getD k default)
    · have e : relOk l k = false := by rw [relOk, d1]; rfl
      rw [show goodRels l = false by rw [goodRels, upTo_false c1 e]; rfl]
      simp -implicitDefEqProofs (maxSteps := 2000000) only [go_sem, c1]
      refine call_of (implIsValidRelation_sat (l.getD k default)) (by simp -implicitDefEqProofs (maxSteps := 2000000) only [go_sem, d1, c1]) (by kernel_rfl) (by simp -implicitDefEqProofs (maxSteps := 2000000) only [go_sem, d1, c1]) ?_
      simp -implicitDefEqProofs (maxSteps := 2000000) only [go_sem, d1, c1]
    rcases k with _ | j
    · have e : relOk l 0 = true := by rw [relOk, d1]; rfl
      have c0 : (0 : Int) < l.length := by omega
      simp -implicitDefEqProofs (maxSteps := 2000000) only [go_sem, c1, c0]
      refine call_of (implIsValidRelation_sat (l.getD 0 default)) (by simp -implicitDefEqProofs (maxSteps := 2000000) only [go_sem, d1, c1, c0]) (by kernel_rfl) (by simp -implicitDefEqProofs (maxSteps := 2000000) only [go_sem, d1, c1, c0]) ?_
      simp -implicitDefEqProofs (maxSteps := 2000000) only [go_sem, d1, c1, c0]
      exact ⟨1, ⟨c1, upTo_step h2 e⟩, by omega, (le_st _ _ [] [] _ rfl (by simp -implicitDefEqProofs (maxSteps := 2000000) only [go_sem] <;> rfl) trivial trivial)⟩
    · have c2 : j < l.length := by omega
      have c3 : 0 < ((j + 1 : Nat) : Int) := by omega
      have w1 := i64_pred (j := j) (by omega)
      rcases d2 : Op.bytesLess (l.getD j default).name.toList (l.getD (j + 1) default).name.toList
      · have e : relOk l (j + 1) = false := by rw [relOk, d1, Nat.add_sub_cancel, d2]; rfl
        rw [show goodRels l = false by rw [goodRels, upTo_false c1 e]; rfl]
        simp -implicitDefEqProofs (maxSteps := 2000000) only [go_sem, c1]
        refine call_of (implIsValidRelation_sat (l.getD (j + 1) default)) (by simp -implicitDefEqProofs (maxSteps := 2000000) only [go_sem, d1, d2, c1, c2, c3, w1]) (by kernel_rfl) (by simp -implicitDefEqProofs (maxSteps := 2000000) only [go_sem, d1, d2, c1, c2, c3, w1]) ?_
        simp -implicitDefEqProofs (maxSteps := 2000000) only [go_sem, d1, d2, c1, c2, c3, w1]
      · have e : relOk l (j + 1) = true := by rw [relOk, d1, Nat.add_sub_cancel, d2]; rfl
        simp -implicitDefEqProofs (maxSteps := 2000000) only [go_sem, c1]
        refine call_of (implIsValidRelation_sat (l.getD (j + 1) default)) (by simp -implicitDefEqProofs (maxSteps := 2000000) only [go_sem, d1, d2, c1, c2, c3, w1]) (by kernel_rfl) (by simp -implicitDefEqProofs (maxSteps := 2000000) only [go_sem, d1, d2, c1, c2, c3, w1]) ?_
        simp -implicitDefEqProofs (maxSteps := 2000000) only [go_sem, d1, d2, c1, c2, c3, w1]
        rw [i64_succ (by omega)]
        exact ⟨j + 1 + 1, ⟨c1, upTo_step h2 e⟩, by omega, (le_st _ _ [] [] _ rfl (by simp -implicitDefEqProofs (maxSteps := 2000000) only [go_sem] <;> rfl) trivial trivial)⟩
  · obtain rfl : k = l.length := by omega
    simp -implicitDefEqProofs (maxSteps := 2000000) only [go_sem, c1]
    rw [goodRels, h2]
    rfl
/-- The first number below which something fails, or -1. -/
def firstNo (p : Nat → Bool) : Nat → Nat → Int
  | 0, _ => -1
  | n + 1, k => if p k then firstNo p n (k + 1) else k
theorem firstNo_ge (p : Nat → Bool) : ∀ (n k : Nat), upTo p k = true → decide (firstNo p n k ≥ 0) = !upTo p (k + n)
  | 0, k, h => by rw [Nat.add_zero, h]; rfl
  | n + 1, k, h => by
    unfold firstNo
    split
    · rename_i e
      rw [firstNo_ge p n (k + 1) (upTo_step h e), show k + 1 + n = k + (n + 1) by omega]
    · rename_i e
      rw [upTo_false (k := k) (by omega) (by simpa using e)]
      exact decide_eq_true (by omega)
def valOk (l : List Int) (i : Nat) : Bool := inB (l.getD i 0) 0 9
theorem areValues1_sat (x : Int) : Sat Tryz.prog 143 [lInt x] [lBool (!inB x 0 9)] [g1] := by
  refine sat_of_body mixed Tryz.func143 rfl (by kernel_rfl) (by kernel_rfl) (rs := [.tmp 2]) rfl rfl rfl ?_
  simp -implicitDefEqProofs (maxSteps := 2000000) only [go_sem]
  refine call_of (inW_sat x 0 9) (by simp -implicitDefEqProofs (maxSteps := 2000000) only [go_sem]) (by kernel_rfl) (by simp -implicitDefEqProofs (maxSteps := 2000000) only [go_sem]) ?_
  simp -implicitDefEqProofs (maxSteps := 2000000) only [go_sem]
theorem areValuesIndex_sat (l : List Int) (h : l.length ≤ 9223372036854775807) : Sat Tryz.prog 166 [lInts l, .one (.fn 143 [])] [lInt (firstNo (valOk l) l.length 0)] [g1, g1] := by
  refine sat_of_body mixed Tryz.func166 rfl (by kernel_rfl) (by kernel_rfl) (rs := [.tmp 4]) rfl rfl rfl ?_
  simp -implicitDefEqProofs (maxSteps := 2000000) only [go_sem]
  refine awp_loop Nat (fun k => mkSt [(0, .one (.im 1 (ints l))), (1, .one (.fni 143 [])), (7, .sc (.int .i64 l.length)), (8, .sc (.int .i64 k))] [] [] 1000)
    (fun k => k ≤ l.length ∧ firstNo (valOk l) (l.length - k) k = firstNo (valOk l) l.length 0) (fun k => l.length - k) 0 ⟨by omega, rfl⟩ (le_st _ _ [] [] _ rfl (by simp -implicitDefEqProofs (maxSteps := 2000000) only [go_sem] <;> rfl) trivial trivial) ?_
  rintro k ⟨h1, h2⟩
  by_cases c1 : k < l.length
  · rw [show l.length - k = (l.length - (k + 1)) + 1 by omega, firstNo] at h2
    rcases d : inB (l.getD k 0) 0 9
    · rw [if_neg (by rw [valOk, d]; simp)] at h2
      simp -implicitDefEqProofs (maxSteps := 2000000) only [go_sem, c1]
      refine call_of (areValues1_sat (l.getD k 0)) (by simp -implicitDefEqProofs (maxSteps := 2000000) only [go_sem, d, c1]) (by kernel_rfl) (by simp -implicitDefEqProofs (maxSteps := 2000000) only [go_sem, d, c1]) ?_
      simp -implicitDefEqProofs (maxSteps := 2000000) only [go_sem, d, c1]
      rw [← h2]
    · rw [if_pos (by rw [valOk, d])] at h2
      simp -implicitDefEqProofs (maxSteps := 2000000) only [go_sem, c1]
      refine call_of (areValues1_sat (l.getD k 0)) (by simp -implicitDefEqProofs (maxSteps := 2000000) only [go_sem, d, c1]) (by kernel_rfl) (by simp -implicitDefEqProofs (maxSteps := 2000000) only [go_sem, d, c1]) ?_
      simp -implicitDefEqProofs (maxSteps := 2000000) only [go_sem, d, c1]
      rw [i64_succ (by omega)]
      exact ⟨k + 1, ⟨c1, h2⟩, by omega, (le_st _ _ [] [] _ rfl (by simp -implicitDefEqProofs (maxSteps := 2000000) only [go_sem] <;> rfl) trivial trivial)⟩
  · obtain rfl : k = l.length := by omega
    rw [Nat.sub_self, firstNo] at h2
    simp -implicitDefEqProofs (maxSteps := 2000000) only [go_sem, c1]
    rw [← h2]
theorem areValuesContains_sat (l : List Int) (h : l.length ≤ 9223372036854775807) : Sat Tryz.prog 142 [lInts l, .one (.fn 143 [])] [lBool (!upTo (valOk l) l.length)] [g1, g1] := by
  refine sat_of_body mixed Tryz.func142 rfl (by kernel_rfl) (by kernel_rfl) (rs := [.tmp 4]) rfl rfl rfl ?_
  simp -implicitDefEqProofs (maxSteps := 2000000) only [go_sem]
  refine call_of (areValuesIndex_sat l h) (by simp -implicitDefEqProofs (maxSteps := 2000000) only [go_sem]) (by kernel_rfl) (by simp -implicitDefEqProofs (maxSteps := 2000000) only [go_sem]) ?_
  simp -implicitDefEqProofs (maxSteps := 2000000) only [go_sem]
  rw [firstNo_ge _ _ _ rfl, Nat.zero_add]
theorem areValues_sat (l : List Int) (h : l.length ≤ 9223372036854775807) : Sat Tryz.prog 109 [lInts l] [lBool (upTo (valOk l) l.length)] [g1] := by
  refine sat_of_body mixed Tryz.func109 rfl (by kernel_rfl) (by kernel_rfl) (rs := [.tmp 2]) rfl rfl rfl ?_
  simp -implicitDefEqProofs (maxSteps := 2000000) only [go_sem]
  refine call_of (areValuesContains_sat l h) (by simp -implicitDefEqProofs (maxSteps := 2000000) only [go_sem]) (by kernel_rfl) (by simp -implicitDefEqProofs (maxSteps := 2000000) only [go_sem]) ?_
  simp -implicitDefEqProofs (maxSteps := 2000000) only [go_sem]
  rw [Bool.not_not]
def goodFact (l : List Rel) (f : RI) : Bool := inB f.r 0 ((l.length : Int) - 1) && (((f.l.length : Int) == (l.getD f.r.toNat default).ar) && upTo (valOk f.l) f.l.length)
theorem isFact_sat (l : List Rel) (f : RI) (h : l.length ≤ 9223372036854775807) (hf : f.fit) : Sat Tryz.prog 74 [lRels l, lRI f] [lBool (goodFact l f)] [g1, g2] := by
  refine sat_of_body mixed Tryz.func74 rfl (by kernel_rfl) (by kernel_rfl) (rs := [.tmp 4]) rfl rfl rfl ?_
  rcases f with ⟨r, vs⟩
  have w0 : IntKind.i64.wrap ((l.length : Int) - 1) = (l.length : Int) - 1 := IntWalk.i64_in _ (by omega)
  rcases d1 : inB r 0 ((l.length : Int) - 1)
  · rw [show goodFact l ⟨r, vs⟩ = false by rw [goodFact, d1]; rfl]
    simp -implicitDefEqProofs (maxSteps := 2000000) only [go_sem, w0]
    refine call_of (inW_sat r 0 ((l.length : Int) - 1)) (by simp -implicitDefEqProofs (maxSteps := 2000000) only [go_sem, d1]) (by kernel_rfl) (by simp -implicitDefEqProofs (maxSteps := 2000000) only [go_sem, d1]) ?_
    simp -implicitDefEqProofs (maxSteps := 2000000) only [go_sem, d1]
  obtain ⟨r1, r2⟩ := inB_of d1
  obtain ⟨m, rfl⟩ : ∃ m : Nat, r = m := ⟨r.toNat, by omega⟩
  have c1 : m < l.length := by omega
  have t0 : ((m : Int)).toNat = m := by omega
  rcases d2 : ((vs.length : Int) == (l.getD m default).ar)
  · rw [show goodFact l ⟨m, vs⟩ = false by rw [goodFact, d1]; simp only [t0, d2]; rfl]
    simp -implicitDefEqProofs (maxSteps := 2000000) only [go_sem, w0]
    refine call_of (inW_sat m 0 ((l.length : Int) - 1)) (by simp -implicitDefEqProofs (maxSteps := 2000000) only [go_sem, d1, d2, c1]) (by kernel_rfl) (by simp -implicitDefEqProofs (maxSteps := 2000000) only [go_sem, d1, d2, c1]) ?_
    simp -implicitDefEqProofs (maxSteps := 2000000) only [go_sem, d1, d2, c1]
  rw [show goodFact l ⟨m, vs⟩ = upTo (valOk vs) vs.length by rw [goodFact, d1]; simp only [t0, d2]; rfl]
  simp -implicitDefEqProofs (maxSteps := 2000000) only [go_sem, w0]
  refine call_of (inW_sat m 0 ((l.length : Int) - 1)) (by simp -implicitDefEqProofs (maxSteps := 2000000) only [go_sem, d1, d2, c1]) (by kernel_rfl) (by simp -implicitDefEqProofs (maxSteps := 2000000) only [go_sem, d1, d2, c1]) ?_
  simp -implicitDefEqProofs (maxSteps := 2000000) only [go_sem, d1, d2, c1]
  refine call_of (areValues_sat vs hf) (by simp -implicitDefEqProofs (maxSteps := 2000000) only [go_sem]) (by kernel_rfl) (by simp -implicitDefEqProofs (maxSteps := 2000000) only [go_sem]) ?_
  simp -implicitDefEqProofs (maxSteps := 2000000) only [go_sem]
theorem specIsValidFact_sat (l : List Rel) (f : RI) (h : l.length ≤ 9223372036854775807) (hf : f.fit) : Sat Tryz.prog 36 [lRels l, lRI f] [lBool (goodRels l && goodFact l f)] [g1, g2] := by
  refine sat_of_body mixed Tryz.func36 rfl (by kernel_rfl) (by kernel_rfl) (rs := [.tmp 4]) rfl rfl rfl ?_
  rcases f with ⟨r, vs⟩
  have w0 : IntKind.i64.wrap ((l.length : Int) - 1) = (l.length : Int) - 1 := IntWalk.i64_in _ (by omega)
  rcases d0 : goodRels l
  · simp -implicitDefEqProofs (maxSteps := 2000000) only [go_sem]
    refine call_of (specAreValidRelations_sat l h) (by simp -implicitDefEqProofs (maxSteps := 2000000) only [go_sem, d0]) (by kernel_rfl) (by simp -implicitDefEqProofs (maxSteps := 2000000) only [go_sem, d0]) ?_
    simp -implicitDefEqProofs (maxSteps := 2000000) only [go_sem, d0]
  rw [Bool.true_and]
  simp -implicitDefEqProofs (maxSteps := 2000000) only [go_sem]
  rcases d1 : inB r 0 ((l.length : Int) - 1)
  · rw [show goodFact l ⟨r, vs⟩ = false by rw [goodFact, d1]; rfl]
    refine call_of (specAreValidRelations_sat l h) (by simp -implicitDefEqProofs (maxSteps := 2000000) only [go_sem, d0, w0]) (by kernel_rfl) (by simp -implicitDefEqProofs (maxSteps := 2000000) only [go_sem, d0, w0]) ?_
    simp -implicitDefEqProofs (maxSteps := 2000000) only [go_sem, d0, w0]
    refine call_of (inB_sat r 0 ((l.length : Int) - 1)) (by simp -implicitDefEqProofs (maxSteps := 2000000) only [go_sem, d1]) (by kernel_rfl) (by simp -implicitDefEqProofs (maxSteps := 2000000) only [go_sem, d1]) ?_
    simp -implicitDefEqProofs (maxSteps := 2000000) only [go_sem, d1]
  obtain ⟨r1, r2⟩ := inB_of d1
  obtain ⟨m, rfl⟩ : ∃ m : Nat, r = m := ⟨r.toNat, by omega⟩
  have c1 : m < l.length := by omega
  have t0 : ((m : Int)).toNat = m := by omega
  rcases d2 : ((vs.length : Int) == (l.getD m default).ar)
  · rw [show goodFact l ⟨m, vs⟩ = false by rw [goodFact, d1]; simp only [t0, d2]; rfl]
    have d3 : ((vs.length : Int) != (l.getD m default).ar) = true := by rw [bne, d2]; rfl
    refine call_of (specAreValidRelations_sat l h) (by simp -implicitDefEqProofs (maxSteps := 2000000) only [go_sem, d0, w0]) (by kernel_rfl) (by simp -implicitDefEqProofs (maxSteps := 2000000) only [go_sem, d0, w0]) ?_
    simp -implicitDefEqProofs (maxSteps := 2000000) only [go_sem, d0, w0]
    refine call_of (inB_sat m 0 ((l.length : Int) - 1)) (by simp -implicitDefEqProofs (maxSteps := 2000000) only [go_sem, d1, d3, c1]) (by kernel_rfl) (by simp -implicitDefEqProofs (maxSteps := 2000000) only [go_sem, d1, d3, c1]) ?_
    simp -implicitDefEqProofs (maxSteps := 2000000) only [go_sem, d1, d3, c1]
  rw [show goodFact l ⟨m, vs⟩ = upTo (valOk vs) vs.length by rw [goodFact, d1]; simp only [t0, d2]; rfl]
  have d3 : ((vs.length : Int) != (l.getD m default).ar) = false := by rw [bne, d2]; rfl
  refine call_of (specAreValidRelations_sat l h) (by simp -implicitDefEqProofs (maxSteps := 2000000) only [go_sem, d0, w0]) (by kernel_rfl) (by simp -implicitDefEqProofs (maxSteps := 2000000) only [go_sem, d0, w0]) ?_
  simp -implicitDefEqProofs (maxSteps := 2000000) only [go_sem, d0, w0]
  refine call_of (inB_sat m 0 ((l.length : Int) - 1)) (by simp -implicitDefEqProofs (maxSteps := 2000000) only [go_sem, d1, d3, c1]) (by kernel_rfl) (by simp -implicitDefEqProofs (maxSteps := 2000000) only [go_sem, d1, d3, c1]) ?_
  simp -implicitDefEqProofs (maxSteps := 2000000) only [go_sem, d1, d3, c1]
  refine awp_loop Nat (fun k => mkSt [(3, .one (.vad 1000 0)), (5, .sc (.int .i64 k))] [(1000, sRI ⟨m, vs⟩)] [] 2000)
    (fun k => k ≤ vs.length ∧ upTo (valOk vs) k = true) (fun k => vs.length - k) 0 ⟨by omega, rfl⟩ (le_st _ _ [] [] _ rfl (by simp -implicitDefEqProofs (maxSteps := 2000000) only [go_sem] <;> rfl) (by simp -implicitDefEqProofs (maxSteps := 2000000) only [go_sem] <;> rfl) (by simp -implicitDefEqProofs (maxSteps := 2000000) only [go_sem] <;> rfl)) ?_
  rintro k ⟨h1, h2⟩
  unfold RI.fit at hf
  by_cases c : k < vs.length
  · rcases d : inB (vs.getD k 0) 0 9
    · simp -implicitDefEqProofs (maxSteps := 2000000) only [go_sem, c]
      refine call_of (inB_sat (vs.getD k 0) 0 9) (by simp -implicitDefEqProofs (maxSteps := 2000000) only [go_sem, d]) (by kernel_rfl) (by simp -implicitDefEqProofs (maxSteps := 2000000) only [go_sem, d]) ?_
      simp -implicitDefEqProofs (maxSteps := 2000000) only [go_sem, d]
      rw [upTo_false c (by rw [valOk, d])]
    · simp -implicitDefEqProofs (maxSteps := 2000000) only [go_sem, c]
      refine call_of (inB_sat (vs.getD k 0) 0 9) (by simp -implicitDefEqProofs (maxSteps := 2000000) only [go_sem, d]) (by kernel_rfl) (by simp -implicitDefEqProofs (maxSteps := 2000000) only [go_sem, d]) ?_
      simp -implicitDefEqProofs (maxSteps := 2000000) only [go_sem, d]
      rw [i64_succ (by simp only at hf; omega)]
      exact ⟨k + 1, ⟨c, upTo_step h2 (by rw [valOk, d])⟩, by omega, (le_st _ _ [] [] _ rfl (by simp -implicitDefEqProofs (maxSteps := 2000000) only [go_sem] <;> rfl) (by simp -implicitDefEqProofs (maxSteps := 2000000) only [go_sem] <;> rfl) (by simp -implicitDefEqProofs (maxSteps := 2000000) only [go_sem] <;> rfl))⟩
  · obtain rfl : k = vs.length := by omega
    simp -implicitDefEqProofs (maxSteps := 2000000) only [go_sem, c]
    rw [h2]
end Go.Proofs.YtedciihjgbkjgabGreatDoor.A


/- WHAT IS DRAWN FROM A CODE: the reference's cursor. Conditions: none. -/
namespace Go.Proofs.YtedciihjgbkjgabGreatDoor.A
open Go
set_option linter.unusedSimpArgs false
set_option linter.unusedVariables false
set_option maxRecDepth 100000

/-! #### bytes -/
def cBy (z : Int) : List Cell := [.sc (.int .u8 z)]
def bys (l : List Int) : Rows := l.map cBy
theorem bys_length (l : List Int) : (bys l).length = l.length := by simp [bys]
theorem bys_get {l : List Int} {i : Nat} (h : i < l.length) : (bys l).getD i [] = [.sc (.int .u8 (l.getD i 0))] := by
  simp [bys, cBy, List.getD_eq_getElem?_getD, h]
theorem bys_frz (l : List Int) : frz (bys l) = bys l := frz_map _ _ (fun _ => rfl) l
attribute [go_sem] bys_length bys_get bys_frz
abbrev lBys (l : List Int) : LV := .one (.im 1 (bys l))
structure Cur where
  b : List Int
  i : Nat
  h : Int
abbrev fCur (c : Cur) : List Fld := [.im 1 (bys c.b), .sc (.int .i64 c.i), .sc (.int .i64 c.h)]
abbrev lCur (c : Cur) : LV := .one (.op (fCur c))
abbrev sCur (c : Cur) : List SV := [.im 1 (bys c.b), .sc (.int .i64 c.i), .sc (.int .i64 c.h)]
def bytesOk (l : List Int) : Prop := ∀ z ∈ l, 0 ≤ z ∧ z ≤ 255
/-- The lowest bits. -/
def low (a m : Int) : Int := IntKind.i64.wrap ((BitVec.ofInt IntKind.i64.bits a &&& BitVec.ofInt IntKind.i64.bits m).toNat : Int)
theorem low_255 (a : Int) : 0 ≤ low a 255 ∧ low a 255 ≤ 255 := by
  unfold low
  have h : (BitVec.ofInt IntKind.i64.bits a &&& BitVec.ofInt IntKind.i64.bits 255).toNat ≤ 255 := by
    rw [BitVec.toNat_and]
    exact Nat.and_le_right
  rw [IntWalk.i64_in _ (by omega)]
  omega
def hAt (b : List Int) : Nat → Int
  | 0 => IntKind.i64.wrap (10101 + (b.length : Int))
  | k + 1 => low (IntKind.i64.wrap (IntKind.i64.wrap (IntKind.i64.wrap (hAt b k * 131) + IntKind.i64.wrap (b.getD k 0)) + 7)) 1073741823
def curN (b : List Int) : Cur := ⟨b, 0, hAt b (min b.length 4000)⟩
theorem l1New_sat (b : List Int) (h : b.length ≤ 9223372036854775807) : Sat Tryz.prog 26 [lBys b] [lCur (curN b)] [g1] := by
  refine sat_of_body mixed Tryz.func26 rfl (by kernel_rfl) (by kernel_rfl) (rs := [.tmp 2]) rfl rfl rfl ?_
  simp -implicitDefEqProofs (maxSteps := 2000000) only [go_sem]
  refine awp_loop Nat (fun k => mkSt [(0, .one (.im 1 (bys b))), (3, .sc (.int .i64 (hAt b k))), (4, .sc (.int .i64 k))] [] [] 2000)
    (fun k => k ≤ b.length ∧ k ≤ 4000) (fun k => b.length - k) 0 ⟨by omega, by omega⟩ (le_st _ _ [] [] _ rfl (by simp -implicitDefEqProofs (maxSteps := 2000000) only [go_sem, hAt] <;> rfl) (by simp -implicitDefEqProofs (maxSteps := 2000000) only [go_sem, hAt] <;> rfl) (by simp -implicitDefEqProofs (maxSteps := 2000000) only [go_sem, hAt] <;> rfl)) ?_
  rintro k ⟨h1, h2⟩
  by_cases c1 : k < b.length
  · by_cases c2 : k < 4000
    · have d2 : decide ((k : Int) < 4000) = true := decide_eq_true (by omega)
      have wk : IntKind.i64.wrap ((k : Int) + 1) = ((k + 1 : Nat) : Int) := i64_succ (by omega)
      simp -implicitDefEqProofs (maxSteps := 2000000) only [go_sem, c1, d2]
      rw [wk]
      exact ⟨k + 1, ⟨c1, by omega⟩, by omega, (le_st _ _ [] [] _ rfl (by simp -implicitDefEqProofs (maxSteps := 2000000) only [go_sem, hAt, low] <;> rfl) (by simp -implicitDefEqProofs (maxSteps := 2000000) only [go_sem, hAt, low] <;> rfl) (by simp -implicitDefEqProofs (maxSteps := 2000000) only [go_sem, hAt, low] <;> rfl))⟩
    · have d2 : decide ((k : Int) < 4000) = false := decide_eq_false (by omega)
      obtain rfl : k = 4000 := by omega
      simp -implicitDefEqProofs (maxSteps := 2000000) only [go_sem, c1, d2]
      rw [curN, Nat.min_eq_right (by omega)]
      first | done | rfl | exact ⟨rfl, rfl⟩ | exact ⟨rfl, rfl, rfl⟩ | (refine tr_and ?_ ?_ <;> first | rfl | exact ⟨rfl, rfl⟩ | kernel_rfl)
  · obtain rfl : k = b.length := by omega
    simp -implicitDefEqProofs (maxSteps := 2000000) only [go_sem, c1]
    rw [curN, Nat.min_eq_left (by omega)]
    first | done | rfl | exact ⟨rfl, rfl⟩ | exact ⟨rfl, rfl, rfl⟩ | (refine tr_and ?_ ?_ <;> first | rfl | exact ⟨rfl, rfl⟩ | kernel_rfl)
def hNext (h : Int) : Int := IntKind.i64.wrap (IntKind.i64.wrap (h * 6364136223846793005) + 1442695040888963407)
def mixB (h : Int) : Int := low (IntKind.i64.wrap ((BitVec.ofInt IntKind.i64.bits (h.fdiv (2 ^ min 33 64)) ^^^ BitVec.ofInt IntKind.i64.bits (h.fdiv (2 ^ min 45 64))).toNat : Int)) 255
def byV (c : Cur) : Int := if c.i < c.b.length then low (IntKind.i64.wrap (mixB (hNext c.h) + IntKind.i64.wrap (c.b.getD c.i 0))) 255 else mixB (hNext c.h)
def byC (c : Cur) : Cur := ⟨c.b, if c.i < c.b.length then c.i + 1 else c.i, hNext c.h⟩
/-- The cursor stands within its bytes. -/
def Cur.ok (c : Cur) : Prop := c.i ≤ c.b.length ∧ c.b.length ≤ 1048576
theorem byC_ok {c : Cur} (h : c.ok) : (byC c).ok := by
  obtain ⟨h1, h2⟩ := h
  refine ⟨?_, h2⟩
  show (if c.i < c.b.length then c.i + 1 else c.i) ≤ c.b.length
  split <;> omega
theorem curN_ok {b : List Int} (h : b.length ≤ 1048576) : (curN b).ok := ⟨Nat.zero_le _, h⟩
theorem byV_lo (c : Cur) : 0 ≤ byV c ∧ byV c ≤ 255 := by
  unfold byV
  split
  · exact low_255 _
  · exact low_255 _
theorem l1Byte_sat (c : Cur) (hc : c.ok) : Sat Tryz.prog 106 [lCur c] [lInt (byV c)] [lCur (byC c)] := by
  refine sat_of_body mixed Tryz.func106 rfl (by kernel_rfl) (by kernel_rfl) (rs := [.tmp 2]) rfl rfl rfl ?_
  rcases c with ⟨b, i, h⟩
  obtain ⟨hi, hb⟩ := hc
  simp only at hi hb
  by_cases c1 : i < b.length
  · have wi : IntKind.i64.wrap ((i : Int) + 1) = ((i + 1 : Nat) : Int) := i64_succ (by omega)
    have e1 : byV ⟨b, i, h⟩ = low (IntKind.i64.wrap (mixB (hNext h) + IntKind.i64.wrap (b.getD i 0))) 255 := if_pos c1
    have e2 : byC ⟨b, i, h⟩ = ⟨b, i + 1, hNext h⟩ := by unfold byC; simp only; rw [if_pos c1]
    rw [e1, e2]
    simp -implicitDefEqProofs (maxSteps := 2000000) only [go_sem, c1, wi]
    exact ⟨rfl, rfl, rfl⟩
  · have e1 : byV ⟨b, i, h⟩ = mixB (hNext h) := if_neg c1
    have e2 : byC ⟨b, i, h⟩ = ⟨b, i, hNext h⟩ := by unfold byC; simp only; rw [if_neg c1]
    rw [e1, e2]
    simp -implicitDefEqProofs (maxSteps := 2000000) only [go_sem, c1]
    exact ⟨rfl, rfl, rfl⟩
/-- Less than this. -/
def beV (c : Cur) (n : Nat) : Nat := (byV c).toNat % n
theorem beV_lt (c : Cur) {n : Nat} (h : 0 < n) : beV c n < n := Nat.mod_lt _ h
theorem l1Below_sat (c : Cur) (n : Nat) (hc : c.ok) (h1 : 0 < n) (h2 : n ≤ 256) : Sat Tryz.prog 69 [lCur c, lInt n] [lInt (beV c n)] [lCur (byC c), g1] := by
  refine sat_of_body mixed Tryz.func69 rfl (by kernel_rfl) (by kernel_rfl) (rs := [.tmp 4]) rfl rfl rfl ?_
  have d1 : decide ((n : Int) ≤ 0) = false := decide_eq_false (by omega)
  have d2 : decide ((n : Int) ≤ 256) = true := decide_eq_true (by omega)
  have hv := byV_lo c
  have e : Int.tmod (byV c) (n : Int) = ((beV c n : Nat) : Int) := by
    obtain ⟨v, hv'⟩ : ∃ v : Nat, byV c = v := ⟨(byV c).toNat, by omega⟩
    unfold beV
    rw [hv', Int.toNat_natCast, ← Int.ofNat_tmod]
  have hn0 : ¬ ((n : Int) = 0) := by omega
  simp -implicitDefEqProofs (maxSteps := 2000000) only [go_sem, d1, d2]
  refine call_of (l1Byte_sat c hc) (by simp -implicitDefEqProofs (maxSteps := 2000000) only [go_sem, e, hn0]) (by kernel_rfl) (by simp -implicitDefEqProofs (maxSteps := 2000000) only [go_sem, e, hn0]) ?_
  simp -implicitDefEqProofs (maxSteps := 2000000) only [go_sem, e, hn0]
  exact ⟨hn0, rfl⟩
theorem l1PickInt_sat (c : Cur) (l : List Int) (hc : c.ok) (h1 : 0 < l.length) (h2 : l.length ≤ 256) : Sat Tryz.prog 103 [lCur c, lInts l] [lInt (l.getD (beV c l.length) 0)] [lCur (byC c), g1] := by
  refine sat_of_body mixed Tryz.func103 rfl (by kernel_rfl) (by kernel_rfl) (rs := [.tmp 4]) rfl rfl rfl ?_
  have hv := beV_lt c h1
  simp -implicitDefEqProofs (maxSteps := 2000000) only [go_sem]
  refine call_of (l1Below_sat c l.length hc h1 h2) (by simp -implicitDefEqProofs (maxSteps := 2000000) only [go_sem, hv]) (by kernel_rfl) (by simp -implicitDefEqProofs (maxSteps := 2000000) only [go_sem, hv]) ?_
  simp -implicitDefEqProofs (maxSteps := 2000000) only [go_sem, hv]
  rfl
/-- The same, of a list that is handed over. -/
theorem l1PickInt_own (c : Cur) (l : List Int) (hc : c.ok) (h1 : 0 < l.length) (h2 : l.length ≤ 256) : Sat Tryz.prog 103 [lCur c, oInts l] [lInt (l.getD (beV c l.length) 0)] [lCur (byC c), g1] := by
  refine sat_of_body mixed Tryz.func103 rfl (by kernel_rfl) (by kernel_rfl) (rs := [.tmp 4]) rfl rfl rfl ?_
  have hv := beV_lt c h1
  simp -implicitDefEqProofs (maxSteps := 2000000) only [go_sem]
  refine call_of (l1Below_sat c l.length hc h1 h2) (by simp -implicitDefEqProofs (maxSteps := 2000000) only [go_sem, hv]) (by kernel_rfl) (by simp -implicitDefEqProofs (maxSteps := 2000000) only [go_sem, hv]) ?_
  simp -implicitDefEqProofs (maxSteps := 2000000) only [go_sem, hv]
  rfl
end Go.Proofs.YtedciihjgbkjgabGreatDoor.A


/- FACTS IN ORDER; VALID DATABASES. Conditions: none. -/
namespace Go.Proofs.YtedciihjgbkjgabGreatDoor.A
open Go
set_option linter.unusedSimpArgs false
set_option linter.unusedVariables false
set_option maxRecDepth 100000

def cmpI (a b : Int) : Int := if a < b then -1 else if a > b then 1 else 0
theorem compare_sat (a b : Int) : Sat Tryz.prog 110 [lInt a, lInt b] [lInt (cmpI a b)] [g1, g1] := by
  refine sat_of_body mixed Tryz.func110 rfl (by kernel_rfl) (by kernel_rfl) (rs := [.tmp 4]) rfl rfl rfl ?_
  unfold cmpI
  simp -implicitDefEqProofs (maxSteps := 2000000) only [go_sem]
  refine cond_split (fun d => ?_) fun d => ?_
  · simp -implicitDefEqProofs (maxSteps := 2000000) only [go_sem]
    rw [if_pos (of_decide_eq_true d)]
  rw [if_neg (of_decide_eq_false d)]
  simp -implicitDefEqProofs (maxSteps := 2000000) only [go_sem]
  refine cond_split (fun e => ?_) fun e => ?_
  · simp -implicitDefEqProofs (maxSteps := 2000000) only [go_sem]
    rw [if_pos (of_decide_eq_true e)]
  · simp -implicitDefEqProofs (maxSteps := 2000000) only [go_sem]
    rw [if_neg (of_decide_eq_false e)]
theorem isNaN_sat (a : Int) : Sat Tryz.prog 151 [lInt a] [lBool false] [g1] := by
  refine sat_of_body mixed Tryz.func151 rfl (by kernel_rfl) (by kernel_rfl) (rs := [.tmp 2]) rfl rfl rfl ?_
  simp -implicitDefEqProofs (maxSteps := 2000000) only [go_sem]
theorem cmpCompare_sat (a b : Int) : Sat Tryz.prog 144 [lInt a, lInt b] [lInt (cmpI a b)] [g1, g1] := by
  refine sat_of_body mixed Tryz.func144 rfl (by kernel_rfl) (by kernel_rfl) (rs := [.tmp 4]) rfl rfl rfl ?_
  unfold cmpI
  simp -implicitDefEqProofs (maxSteps := 2000000) only [go_sem]
  refine call_of (isNaN_sat a) (by simp -implicitDefEqProofs (maxSteps := 2000000) only [go_sem]) (by kernel_rfl) (by simp -implicitDefEqProofs (maxSteps := 2000000) only [go_sem]) ?_
  simp -implicitDefEqProofs (maxSteps := 2000000) only [go_sem]
  refine call_of (isNaN_sat b) (by simp -implicitDefEqProofs (maxSteps := 2000000) only [go_sem]) (by kernel_rfl) (by simp -implicitDefEqProofs (maxSteps := 2000000) only [go_sem]) ?_
  simp -implicitDefEqProofs (maxSteps := 2000000) only [go_sem]
  refine cond_split (fun d => ?_) fun d => ?_
  · simp -implicitDefEqProofs (maxSteps := 2000000) only [go_sem]
    rw [if_pos (of_decide_eq_true d)]
  rw [if_neg (of_decide_eq_false d)]
  simp -implicitDefEqProofs (maxSteps := 2000000) only [go_sem]
  refine cond_split (fun e => ?_) fun e => ?_
  · simp -implicitDefEqProofs (maxSteps := 2000000) only [go_sem]
    rw [if_pos (of_decide_eq_true e)]
  · simp -implicitDefEqProofs (maxSteps := 2000000) only [go_sem]
    rw [if_neg (of_decide_eq_false e)]
theorem slicesCompare_sat (a b : List Int) (ha : a.length ≤ 9223372036854775807) : Sat Tryz.prog 111 [lInts a, lInts b] [lInt (cmpInts a b)] [g1, g1] := by
  refine sat_of_body mixed Tryz.func111 rfl (by kernel_rfl) (by kernel_rfl) (rs := [.tmp 4]) rfl rfl rfl ?_
  simp -implicitDefEqProofs (maxSteps := 2000000) only [go_sem]
  refine awp_loop Nat (fun k => mkSt [(0, .one (.im 1 (ints a))), (1, .one (.im 1 (ints b))), (9, .one (.im 1 (ints a))), (10, .sc (.int .i64 a.length)), (11, .sc (.int .i64 k))] [] [] 1000)
    (fun k => k ≤ a.length ∧ k ≤ b.length ∧ cmpInts (a.drop k) (b.drop k) = cmpInts a b) (fun k => a.length - k) 0 ⟨by omega, by omega, rfl⟩ (le_st _ _ [] [] _ rfl (by simp -implicitDefEqProofs (maxSteps := 2000000) only [go_sem] <;> rfl) trivial trivial) ?_
  rintro k ⟨h1, h2, h3⟩
  by_cases c1 : k < a.length
  · rw [drop_cons 0 c1] at h3
    by_cases c2 : k < b.length
    · have c3 : ¬ b.length ≤ k := by omega
      rw [drop_cons 0 c2, cmpInts] at h3
      simp -implicitDefEqProofs (maxSteps := 2000000) only [go_sem, c1, c2, c3]
      refine call_of (cmpCompare_sat (a.getD k 0) (b.getD k 0)) (by simp -implicitDefEqProofs (maxSteps := 2000000) only [go_sem]) (by kernel_rfl) (by simp -implicitDefEqProofs (maxSteps := 2000000) only [go_sem]) ?_
      simp -implicitDefEqProofs (maxSteps := 2000000) only [go_sem]
      unfold cmpI
      by_cases e1 : a.getD k 0 < b.getD k 0
      · rw [if_pos e1] at h3 ⊢
        simp -implicitDefEqProofs (maxSteps := 2000000) only [go_sem]
        rw [← h3]
      rw [if_neg e1] at h3 ⊢
      by_cases e2 : a.getD k 0 > b.getD k 0
      · rw [if_pos e2] at h3 ⊢
        simp -implicitDefEqProofs (maxSteps := 2000000) only [go_sem]
        rw [← h3]
      rw [if_neg e2] at h3 ⊢
      simp -implicitDefEqProofs (maxSteps := 2000000) only [go_sem]
      rw [i64_succ (by omega)]
      exact ⟨k + 1, ⟨c1, c2, h3⟩, by omega, (le_st _ _ [] [] _ rfl (by simp -implicitDefEqProofs (maxSteps := 2000000) only [go_sem] <;> rfl) trivial trivial)⟩
    · obtain rfl : k = b.length := by omega
      rw [List.drop_length, cmpInts] at h3
      simp -implicitDefEqProofs (maxSteps := 2000000) only [go_sem, c1, Nat.le_refl]
      rw [← h3]
  · obtain rfl : k = a.length := by omega
    simp -implicitDefEqProofs (maxSteps := 2000000) only [go_sem, c1]
    rw [List.drop_length] at h3
    refine cond_split (fun d => ?_) fun d => ?_
    · simp -implicitDefEqProofs (maxSteps := 2000000) only [go_sem]
      have d := of_decide_eq_true d
      rw [drop_cons 0 (by omega), cmpInts] at h3
      rw [← h3]
    · simp -implicitDefEqProofs (maxSteps := 2000000) only [go_sem]
      have d := of_decide_eq_false d
      rw [List.drop_of_length_le (by omega), cmpInts] at h3
      rw [← h3]
def cmpRI (a b : RI) : Int := if a.r < b.r then -1 else if a.r > b.r then 1 else cmpInts a.l b.l
theorem specCompareFacts_sat (a b : RI) (h : a.fit) : Sat Tryz.prog 37 [lRI a, lRI b] [lInt (cmpRI a b)] [g2, g2] := by
  refine sat_of_body mixed Tryz.func37 rfl (by kernel_rfl) (by kernel_rfl) (rs := [.tmp 4]) rfl rfl rfl ?_
  unfold cmpRI
  simp -implicitDefEqProofs (maxSteps := 2000000) only [go_sem]
  refine cond_split (fun d => ?_) fun d => ?_
  · simp -implicitDefEqProofs (maxSteps := 2000000) only [go_sem]
    rw [if_pos (of_decide_eq_true d)]
  rw [if_neg (of_decide_eq_false d)]
  simp -implicitDefEqProofs (maxSteps := 2000000) only [go_sem]
  refine cond_split (fun e => ?_) fun e => ?_
  · simp -implicitDefEqProofs (maxSteps := 2000000) only [go_sem]
    rw [if_pos (of_decide_eq_true e)]
  rw [if_neg (of_decide_eq_false e)]
  simp -implicitDefEqProofs (maxSteps := 2000000) only [go_sem]
  refine call_of (l3Ints_sat a.l b.l h) (by simp -implicitDefEqProofs (maxSteps := 2000000) only [go_sem]) (by kernel_rfl) (by simp -implicitDefEqProofs (maxSteps := 2000000) only [go_sem]) ?_
  simp -implicitDefEqProofs (maxSteps := 2000000) only [go_sem]
theorem implCompareFacts_sat (a b : RI) (h : a.fit) : Sat Tryz.prog 75 [lRI a, lRI b] [lInt (cmpRI a b)] [g2, g2] := by
  refine sat_of_body mixed Tryz.func75 rfl (by kernel_rfl) (by kernel_rfl) (rs := [.tmp 4]) rfl rfl rfl ?_
  unfold cmpRI
  simp -implicitDefEqProofs (maxSteps := 2000000) only [go_sem]
  refine cond_split (fun d => ?_) fun d => ?_
  · simp -implicitDefEqProofs (maxSteps := 2000000) only [go_sem]
    refine call_of (compare_sat a.r b.r) (by simp -implicitDefEqProofs (maxSteps := 2000000) only [go_sem]) (by kernel_rfl) (by simp -implicitDefEqProofs (maxSteps := 2000000) only [go_sem]) ?_
    simp -implicitDefEqProofs (maxSteps := 2000000) only [go_sem]
    have d : ¬ a.r = b.r := by simpa using d
    unfold cmpI
    split
    · rfl
    · rw [if_pos (by omega), if_pos (by omega)]
  · have d : a.r = b.r := by simpa using d
    rw [if_neg (by omega), if_neg (by omega)]
    simp -implicitDefEqProofs (maxSteps := 2000000) only [go_sem]
    refine call_of (slicesCompare_sat a.l b.l h) (by simp -implicitDefEqProofs (maxSteps := 2000000) only [go_sem]) (by kernel_rfl) (by simp -implicitDefEqProofs (maxSteps := 2000000) only [go_sem]) ?_
    simp -implicitDefEqProofs (maxSteps := 2000000) only [go_sem]
/-- Is the i-th fact valid, and behind the one before it. -/
def factOk (d : Db) (i : Nat) : Bool := goodFact d.rels (d.facts.getD i default) && (decide (i = 0) || !decide (cmpRI (d.facts.getD (i - 1) default) (d.facts.getD i default) ≥ 0))
def goodDb (d : Db) : Bool := goodRels d.rels && (decide ((d.facts.length : Int) ≤ 14) && upTo (factOk d) d.facts.length)
theorem specIsValidDatabase_sat (d : Db) (h : d.fit) : Sat Tryz.prog 9 [lDb d] [lBool (goodDb d)] [g2] := by
  refine sat_of_body mixed Tryz.func9 rfl (by kernel_rfl) (by kernel_rfl) (rs := [.tmp 2]) rfl rfl rfl ?_
  have hm := fun k (hk : k < d.facts.length) => h.2.2 _ (mem_getD default hk)
  rcases g : goodRels d.rels
  · rw [show goodDb d = false by rw [goodDb, g]; rfl]
    simp -implicitDefEqProofs (maxSteps := 2000000) only [go_sem]
    refine awp_loop Nat (fun k => mkSt [(1, .one (.vad 1000 0)), (3, .sc (.int .i64 k))] [(1000, sDb d)] [] 2000)
      (fun k => k = 0) (fun k => 0) 0 rfl (le_st _ _ [] [] _ rfl (by simp -implicitDefEqProofs (maxSteps := 2000000) only [go_sem] <;> rfl) (by simp -implicitDefEqProofs (maxSteps := 2000000) only [go_sem] <;> rfl) (by simp -implicitDefEqProofs (maxSteps := 2000000) only [go_sem] <;> rfl)) ?_
    rintro k rfl
    by_cases c1 : 0 < d.facts.length
    · have c0 : (0 : Int) < d.facts.length := by omega
      simp -implicitDefEqProofs (maxSteps := 2000000) only [go_sem, c1, c0]
      refine call_of (specIsValidFact_sat d.rels (d.facts.getD 0 default) h.1.1 (hm 0 c1)) (by simp -implicitDefEqProofs (maxSteps := 2000000) only [go_sem, g, c1, c0]) (by kernel_rfl) (by simp -implicitDefEqProofs (maxSteps := 2000000) only [go_sem, g, c1, c0]) ?_
      simp -implicitDefEqProofs (maxSteps := 2000000) only [go_sem, g, c1, c0]
    · have c0 : ¬ (0 : Int) < d.facts.length := by omega
      simp -implicitDefEqProofs (maxSteps := 2000000) only [go_sem, c1, c0]
      refine call_of (specAreValidRelations_sat d.rels h.1.1) (by simp -implicitDefEqProofs (maxSteps := 2000000) only [go_sem, g]) (by kernel_rfl) (by simp -implicitDefEqProofs (maxSteps := 2000000) only [go_sem, g]) ?_
      simp -implicitDefEqProofs (maxSteps := 2000000) only [go_sem, g]
  simp -implicitDefEqProofs (maxSteps := 2000000) only [go_sem]
  refine awp_loop Nat (fun k => mkSt [(1, .one (.vad 1000 0)), (3, .sc (.int .i64 k))] [(1000, sDb d)] [] 2000)
    (fun k => k ≤ d.facts.length ∧ upTo (factOk d) k = true) (fun k => d.facts.length - k) 0 ⟨by omega, rfl⟩ (le_st _ _ [] [] _ rfl (by simp -implicitDefEqProofs (maxSteps := 2000000) only [go_sem] <;> rfl) (by simp -implicitDefEqProofs (maxSteps := 2000000) only [go_sem] <;> rfl) (by simp -implicitDefEqProofs (maxSteps := 2000000) only [go_sem] <;> rfl)) ?_
  rintro k ⟨h1, h2⟩
  have hbig := h.2.1
  by_cases c1 : k < d.facts.length
  · rcases d1 : goodFact d.rels (d.facts.getD k default)
    · have e : factOk d k = false := by rw [factOk, d1]; rfl
      rw [show goodDb d = false by rw [goodDb, g, upTo_false c1 e]; simp]
      simp -implicitDefEqProofs (maxSteps := 2000000) only [go_sem, c1]
      refine call_of (specIsValidFact_sat d.rels (d.facts.getD k default) h.1.1 (hm k c1)) (by simp -implicitDefEqProofs (maxSteps := 2000000) only [go_sem, g, d1, c1]) (by kernel_rfl) (by simp -implicitDefEqProofs (maxSteps := 2000000) only [go_sem, g, d1, c1]) ?_
      simp -implicitDefEqProofs (maxSteps := 2000000) only [go_sem, g, d1, c1]
    rcases k with _ | j
    · have e : factOk d 0 = true := by rw [factOk, d1]; rfl
      have c0 : (0 : Int) < d.facts.length := by omega
      simp -implicitDefEqProofs (maxSteps := 2000000) only [go_sem, c1, c0]
      refine call_of (specIsValidFact_sat d.rels (d.facts.getD 0 default) h.1.1 (hm 0 c1)) (by simp -implicitDefEqProofs (maxSteps := 2000000) only [go_sem, g, d1, c1, c0]) (by kernel_rfl) (by simp -implicitDefEqProofs (maxSteps := 2000000) only [go_sem, g, d1, c1, c0]) ?_
      simp -implicitDefEqProofs (maxSteps := 2000000) only [go_sem, g, d1, c1, c0]
      exact ⟨1, ⟨c1, upTo_step h2 e⟩, by omega, (le_st _ _ [] [] _ rfl (by simp -implicitDefEqProofs (maxSteps := 2000000) only [go_sem] <;> rfl) (by simp -implicitDefEqProofs (maxSteps := 2000000) only [go_sem] <;> rfl) (by simp -implicitDefEqProofs (maxSteps := 2000000) only [go_sem] <;> rfl))⟩
    · have c2 : j < d.facts.length := by omega
      have c3 : 0 < ((j + 1 : Nat) : Int) := by omega
      have w1 := i64_pred (j := j) (by omega)
      rcases d2 : decide (cmpRI (d.facts.getD j default) (d.facts.getD (j + 1) default) ≥ 0)
      · have e : factOk d (j + 1) = true := by rw [factOk, d1, Nat.add_sub_cancel, d2]; rfl
        simp -implicitDefEqProofs (maxSteps := 2000000) only [go_sem, c1]
        refine call_of (specIsValidFact_sat d.rels (d.facts.getD (j + 1) default) h.1.1 (hm _ c1)) (by simp -implicitDefEqProofs (maxSteps := 2000000) only [go_sem, g, d1, c1, c2, c3, w1]) (by kernel_rfl) (by simp -implicitDefEqProofs (maxSteps := 2000000) only [go_sem, g, d1, c1, c2, c3, w1]) ?_
        simp -implicitDefEqProofs (maxSteps := 2000000) only [go_sem, g, d1, c1, c2, c3, w1]
        refine call_of (specCompareFacts_sat (d.facts.getD j default) (d.facts.getD (j + 1) default) (hm _ c2)) (by simp -implicitDefEqProofs (maxSteps := 2000000) only [go_sem, d2]) (by kernel_rfl) (by simp -implicitDefEqProofs (maxSteps := 2000000) only [go_sem, d2]) ?_
        simp -implicitDefEqProofs (maxSteps := 2000000) only [go_sem, d2]
        rw [i64_succ (by omega)]
        exact ⟨j + 1 + 1, ⟨c1, upTo_step h2 e⟩, by omega, (le_st _ _ [] [] _ rfl (by simp -implicitDefEqProofs (maxSteps := 2000000) only [go_sem] <;> rfl) (by simp -implicitDefEqProofs (maxSteps := 2000000) only [go_sem] <;> rfl) (by simp -implicitDefEqProofs (maxSteps := 2000000) only [go_sem] <;> rfl))⟩
      · have e : factOk d (j + 1) = false := by rw [factOk, d1, Nat.add_sub_cancel, d2]; rfl
        rw [show goodDb d = false by rw [goodDb, g, upTo_false c1 e]; simp]
        simp -implicitDefEqProofs (maxSteps := 2000000) only [go_sem, c1]
        refine call_of (specIsValidFact_sat d.rels (d.facts.getD (j + 1) default) h.1.1 (hm _ c1)) (by simp -implicitDefEqProofs (maxSteps := 2000000) only [go_sem, g, d1, c1, c2, c3, w1]) (by kernel_rfl) (by simp -implicitDefEqProofs (maxSteps := 2000000) only [go_sem, g, d1, c1, c2, c3, w1]) ?_
        simp -implicitDefEqProofs (maxSteps := 2000000) only [go_sem, g, d1, c1, c2, c3, w1]
        refine call_of (specCompareFacts_sat (d.facts.getD j default) (d.facts.getD (j + 1) default) (hm _ c2)) (by simp -implicitDefEqProofs (maxSteps := 2000000) only [go_sem, d2]) (by kernel_rfl) (by simp -implicitDefEqProofs (maxSteps := 2000000) only [go_sem, d2]) ?_
        simp -implicitDefEqProofs (maxSteps := 2000000) only [go_sem, d2]
  · obtain rfl : k = d.facts.length := by omega
    simp -implicitDefEqProofs (maxSteps := 2000000) only [go_sem, c1]
    refine call_of (specAreValidRelations_sat d.rels h.1.1) (by simp -implicitDefEqProofs (maxSteps := 2000000) only [go_sem, g]) (by kernel_rfl) (by simp -implicitDefEqProofs (maxSteps := 2000000) only [go_sem, g]) ?_
    simp -implicitDefEqProofs (maxSteps := 2000000) only [go_sem, g]
    rw [goodDb, g, h2]
    simp
theorem implIsValidDatabase_sat (d : Db) (h : d.fit) : Sat Tryz.prog 29 [lDb d] [lBool (goodDb d)] [g2] := by
  refine sat_of_body mixed Tryz.func29 rfl (by kernel_rfl) (by kernel_rfl) (rs := [.tmp 2]) rfl rfl rfl ?_
  have hm := fun k (hk : k < d.facts.length) => h.2.2 _ (mem_getD default hk)
  have hbig := h.2.1
  simp -implicitDefEqProofs (maxSteps := 2000000) only [go_sem]
  rcases g : goodRels d.rels
  · rw [show goodDb d = false by rw [goodDb, g]; rfl]
    refine call_of (implAreValidRelations_sat d.rels h.1.1) (by simp -implicitDefEqProofs (maxSteps := 2000000) only [go_sem, g]) (by kernel_rfl) (by simp -implicitDefEqProofs (maxSteps := 2000000) only [go_sem, g]) ?_
    simp -implicitDefEqProofs (maxSteps := 2000000) only [go_sem, g]
  by_cases c14 : (d.facts.length : Int) > 14
  · rw [show goodDb d = false by rw [goodDb, g, decide_eq_false (by omega)]; rfl]
    refine call_of (implAreValidRelations_sat d.rels h.1.1) (by simp -implicitDefEqProofs (maxSteps := 2000000) only [go_sem, g, c14]) (by kernel_rfl) (by simp -implicitDefEqProofs (maxSteps := 2000000) only [go_sem, g, c14]) ?_
    simp -implicitDefEqProofs (maxSteps := 2000000) only [go_sem, g, c14]
  rw [show goodDb d = upTo (factOk d) d.facts.length by rw [goodDb, g, decide_eq_true (by omega)]; rfl]
  refine call_of (implAreValidRelations_sat d.rels h.1.1) (by simp -implicitDefEqProofs (maxSteps := 2000000) only [go_sem, g, c14]) (by kernel_rfl) (by simp -implicitDefEqProofs (maxSteps := 2000000) only [go_sem, g, c14]) ?_
  simp -implicitDefEqProofs (maxSteps := 2000000) only [go_sem, g, c14]
  refine awp_loop Nat (fun k => mkSt [(1, .one (.vad 1000 0)), (16, .one (.im 2 (ris 0 d.facts))), (17, .sc (.int .i64 d.facts.length)), (18, .sc (.int .i64 k))] [(1000, sDb d)] [] 2000)
    (fun k => k ≤ d.facts.length ∧ upTo (factOk d) k = true) (fun k => d.facts.length - k) 0 ⟨by omega, rfl⟩ (le_st _ _ [] [] _ rfl (by simp -implicitDefEqProofs (maxSteps := 2000000) only [go_sem] <;> rfl) (by simp -implicitDefEqProofs (maxSteps := 2000000) only [go_sem] <;> rfl) (by simp -implicitDefEqProofs (maxSteps := 2000000) only [go_sem] <;> rfl)) ?_
  rintro k ⟨h1, h2⟩
  by_cases c1 : k < d.facts.length
  · rcases d1 : goodFact d.rels (d.facts.getD k default)
    · have e : factOk d k = false := by rw [factOk, d1]; rfl
      rw [upTo_false c1 e]
      simp -implicitDefEqProofs (maxSteps := 2000000) only [go_sem, c1]
      refine call_of (isFact_sat d.rels (d.facts.getD k default) h.1.1 (hm k c1)) (by simp -implicitDefEqProofs (maxSteps := 2000000) only [go_sem, d1, c1]) (by kernel_rfl) (by simp -implicitDefEqProofs (maxSteps := 2000000) only [go_sem, d1, c1]) ?_
      simp -implicitDefEqProofs (maxSteps := 2000000) only [go_sem, d1, c1]
    rcases k with _ | j
    · have e : factOk d 0 = true := by rw [factOk, d1]; rfl
      have c0 : (0 : Int) < d.facts.length := by omega
      simp -implicitDefEqProofs (maxSteps := 2000000) only [go_sem, c1, c0]
      refine call_of (isFact_sat d.rels (d.facts.getD 0 default) h.1.1 (hm 0 c1)) (by simp -implicitDefEqProofs (maxSteps := 2000000) only [go_sem, d1, c1, c0]) (by kernel_rfl) (by simp -implicitDefEqProofs (maxSteps := 2000000) only [go_sem, d1, c1, c0]) ?_
      simp -implicitDefEqProofs (maxSteps := 2000000) only [go_sem, d1, c1, c0]
      exact ⟨1, ⟨c1, upTo_step h2 e⟩, by omega, (le_st _ _ [] [] _ rfl (by simp -implicitDefEqProofs (maxSteps := 2000000) only [go_sem] <;> rfl) (by simp -implicitDefEqProofs (maxSteps := 2000000) only [go_sem] <;> rfl) (by simp -implicitDefEqProofs (maxSteps := 2000000) only [go_sem] <;> rfl))⟩
    · have c2 : j < d.facts.length := by omega
      have c3 : 0 < ((j + 1 : Nat) : Int) := by omega
      have w1 := i64_pred (j := j) (by omega)
      rcases d2 : decide (cmpRI (d.facts.getD j default) (d.facts.getD (j + 1) default) ≥ 0)
      · have e : factOk d (j + 1) = true := by rw [factOk, d1, Nat.add_sub_cancel, d2]; rfl
        simp -implicitDefEqProofs (maxSteps := 2000000) only [go_sem, c1]
        refine call_of (isFact_sat d.rels (d.facts.getD (j + 1) default) h.1.1 (hm _ c1)) (by simp -implicitDefEqProofs (maxSteps := 2000000) only [go_sem, d1, c1, c2, c3, w1]) (by kernel_rfl) (by simp -implicitDefEqProofs (maxSteps := 2000000) only [go_sem, d1, c1, c2, c3, w1]) ?_
        simp -implicitDefEqProofs (maxSteps := 2000000) only [go_sem, d1, c1, c2, c3, w1]
        refine call_of (implCompareFacts_sat (d.facts.getD j default) (d.facts.getD (j + 1) default) (hm _ c2)) (by simp -implicitDefEqProofs (maxSteps := 2000000) only [go_sem, d2]) (by kernel_rfl) (by simp -implicitDefEqProofs (maxSteps := 2000000) only [go_sem, d2]) ?_
        simp -implicitDefEqProofs (maxSteps := 2000000) only [go_sem, d2]
        rw [i64_succ (by omega)]
        exact ⟨j + 1 + 1, ⟨c1, upTo_step h2 e⟩, by omega, (le_st _ _ [] [] _ rfl (by simp -implicitDefEqProofs (maxSteps := 2000000) only [go_sem] <;> rfl) (by simp -implicitDefEqProofs (maxSteps := 2000000) only [go_sem] <;> rfl) (by simp -implicitDefEqProofs (maxSteps := 2000000) only [go_sem] <;> rfl))⟩
      · have e : factOk d (j + 1) = false := by rw [factOk, d1, Nat.add_sub_cancel, d2]; rfl
        rw [upTo_false c1 e]
        simp -implicitDefEqProofs (maxSteps := 2000000) only [go_sem, c1]
        refine call_of (isFact_sat d.rels (d.facts.getD (j + 1) default) h.1.1 (hm _ c1)) (by simp -implicitDefEqProofs (maxSteps := 2000000) only [go_sem, d1, c1, c2, c3, w1]) (by kernel_rfl) (by simp -implicitDefEqProofs (maxSteps := 2000000) only [go_sem, d1, c1, c2, c3, w1]) ?_
        simp -implicitDefEqProofs (maxSteps := 2000000) only [go_sem, d1, c1, c2, c3, w1]
        refine call_of (implCompareFacts_sat (d.facts.getD j default) (d.facts.getD (j + 1) default) (hm _ c2)) (by simp -implicitDefEqProofs (maxSteps := 2000000) only [go_sem, d2]) (by kernel_rfl) (by simp -implicitDefEqProofs (maxSteps := 2000000) only [go_sem, d2]) ?_
        simp -implicitDefEqProofs (maxSteps := 2000000) only [go_sem, d2]
  · obtain rfl : k = d.facts.length := by omega
    simp -implicitDefEqProofs (maxSteps := 2000000) only [go_sem, c1]
    rw [h2]
end Go.Proofs.YtedciihjgbkjgabGreatDoor.A


/- DENIAL CONSTRAINTS: data, validity, violation. Conditions: none. -/
namespace Go.Proofs.YtedciihjgbkjgabGreatDoor.A
open Go
set_option linter.unusedSimpArgs false
set_option linter.unusedVariables false
set_option maxRecDepth 100000

structure Den where
  fr : Int
  sr : Int
  fj : Int
  sj : Int
  fc : Int
  sc : Int
  cp : Int
  deriving DecidableEq
instance : Inhabited Den := ⟨⟨0, 0, 0, 0, 0, 0, 0⟩⟩
def cDen (x : Den) : List Cell := [.sc (.int .i64 x.fr), .sc (.int .i64 x.sr), .sc (.int .i64 x.fj), .sc (.int .i64 x.sj), .sc (.int .i64 x.fc), .sc (.int .i64 x.sc), .sc (.int .i64 x.cp)]
def dens (l : List Den) : Rows := l.map cDen
theorem dens_length (l : List Den) : (dens l).length = l.length := by simp [dens]
theorem dens_get {l : List Den} {i : Nat} (h : i < l.length) : (dens l).getD i [] = [.sc (.int .i64 (l.getD i default).fr), .sc (.int .i64 (l.getD i default).sr), .sc (.int .i64 (l.getD i default).fj), .sc (.int .i64 (l.getD i default).sj), .sc (.int .i64 (l.getD i default).fc), .sc (.int .i64 (l.getD i default).sc), .sc (.int .i64 (l.getD i default).cp)] := get_map default cDen h
theorem dens_frz (l : List Den) : frz (dens l) = dens l := frz_map _ _ (fun _ => rfl) l
theorem dens_rst (l : List Den) : rst (dens l) = dens l := rst_map _ _ (fun _ => rfl) l
theorem dens_stm (n : Nat) (l : List Den) : stm n (dens l) = dens l := stm_map n _ _ (fun _ => rfl) l
theorem dens_flat (l : List Den) : flatB (dens l) = true := by simp [flatB, dens, cDen, Cell.flatB]
theorem dens_take (l : List Den) (k : Nat) : (dens l).take k = dens (l.take k) := by simp [dens]
theorem dens_drop (l : List Den) (k : Nat) : (dens l).drop k = dens (l.drop k) := by simp [dens]
theorem dens_set (l : List Den) (i : Nat) (a b c d e f g : Int) : (dens l).set i [.sc (.int .i64 a), .sc (.int .i64 b), .sc (.int .i64 c), .sc (.int .i64 d), .sc (.int .i64 e), .sc (.int .i64 f), .sc (.int .i64 g)] = dens (l.set i ⟨a, b, c, d, e, f, g⟩) := by simp [dens, List.map_set, cDen]
theorem dens_rep (n : Nat) (a b c d e f g : Int) : List.replicate n [Cell.sc (.int .i64 a), .sc (.int .i64 b), .sc (.int .i64 c), .sc (.int .i64 d), .sc (.int .i64 e), .sc (.int .i64 f), .sc (.int .i64 g)] = dens (List.replicate n ⟨a, b, c, d, e, f, g⟩) := by simp [dens, cDen]
theorem dens_still (l : List Den) : stillRows (dens l) = true := by simp [stillRows, dens, cDen, Cell.still]
attribute [go_sem] dens_length dens_get dens_frz dens_rst dens_stm dens_flat dens_take dens_drop dens_set dens_rep
abbrev lDen (x : Den) : LV := .agg [.sc (.int .i64 x.fr), .sc (.int .i64 x.sr), .sc (.int .i64 x.fj), .sc (.int .i64 x.sj), .sc (.int .i64 x.fc), .sc (.int .i64 x.sc), .sc (.int .i64 x.cp)]
abbrev sDen (x : Den) : List SV := [.sc (.int .i64 x.fr), .sc (.int .i64 x.sr), .sc (.int .i64 x.fj), .sc (.int .i64 x.sj), .sc (.int .i64 x.fc), .sc (.int .i64 x.sc), .sc (.int .i64 x.cp)]
abbrev lDens (l : List Den) : LV := .one (.im 7 (dens l))
abbrev oDens (l : List Den) : LV := .one (.ow 7 (dens l))
abbrev g7 : LV := .agg [.gone, .gone, .gone, .gone, .gone, .gone, .gone]
def szDens (a : List Den) (n : Int) : Int := if n - a.length < 0 then -1 else n - a.length
theorem szDens_ok : SzOk szDens (fun a => a.length ≤ 1048576) := by
  intro a n h
  unfold szDens
  split
  · exact ⟨by omega, fun h => absurd (by omega) h⟩
  · exact ⟨by omega, fun h => by omega⟩
theorem rel_of {l : List Rel} {k : Nat} (h : goodRels l = true) (hk : k < l.length) : (1 ≤ (l.getD k default).ar ∧ (l.getD k default).ar ≤ 3) ∧ 0 ≤ (l.getD k default).kl ∧ (l.getD k default).kl ≤ (l.getD k default).ar := by
  unfold goodRels at h
  rw [Bool.and_eq_true] at h
  have h1 := upTo_at h.1 hk
  unfold relOk goodRel at h1
  simp only [Bool.and_eq_true] at h1
  exact ⟨inB_of h1.1.2.2.2.1, inB_of h1.1.2.2.2.2⟩
theorem db_of {d : Db} (h : goodDb d = true) : goodRels d.rels = true ∧ d.facts.length ≤ 14 ∧ upTo (factOk d) d.facts.length = true := by
  unfold goodDb at h
  simp only [Bool.and_eq_true] at h
  refine ⟨h.1, ?_, h.2.2⟩
  have := of_decide_eq_true h.2.1
  omega
theorem fact_of {d : Db} {k : Nat} (h : goodDb d = true) (hk : k < d.facts.length) : goodFact d.rels (d.facts.getD k default) = true := by
  have h1 := upTo_at (db_of h).2.2 hk
  unfold factOk at h1
  rw [Bool.and_eq_true] at h1
  exact h1.1
theorem fact_at {l : List Rel} {f : RI} (h : goodFact l f = true) : ∃ m : Nat, f.r = m ∧ m < l.length ∧ (f.l.length : Int) = (l.getD m default).ar := by
  unfold goodFact at h
  simp only [Bool.and_eq_true] at h
  obtain ⟨h1, h2⟩ := inB_of h.1
  refine ⟨f.r.toNat, by omega, by omega, eq_of_beq h.2.1⟩

/-! #### valid constraints -/
abbrev arOf (d : Db) (r : Int) : Int := (d.rels.getD r.toNat default).ar
def goodDen (d : Db) (x : Den) : Bool := goodDb d && (inB x.fr 0 ((d.rels.length : Int) - 1) && (inB x.sr 0 ((d.rels.length : Int) - 1) && (inB x.fj 0 (arOf d x.fr - 1) && (inB x.fc 0 (arOf d x.fr - 1) && (inB x.sj 0 (arOf d x.sr - 1) && (inB x.sc 0 (arOf d x.sr - 1) && inB x.cp 1 2))))))
theorem specIsValidConstraint_sat (d : Db) (x : Den) (h : d.fit) : Sat Tryz.prog 11 [lDb d, lDen x] [lBool (goodDen d x)] [g2, g7] := by
  refine sat_of_body mixed Tryz.func11 rfl (by kernel_rfl) (by kernel_rfl) (rs := [.tmp 4]) rfl rfl rfl ?_
  rcases x with ⟨fr, sr, fj, sj, fc, sc, cp⟩
  have hb := h.1.1
  have w0 : IntKind.i64.wrap ((d.rels.length : Int) - 1) = (d.rels.length : Int) - 1 := IntWalk.i64_in _ (by omega)
  simp -implicitDefEqProofs (maxSteps := 2000000) only [go_sem]
  rcases g : goodDb d
  · rw [show goodDen d ⟨fr, sr, fj, sj, fc, sc, cp⟩ = false by rw [goodDen, g]; rfl]
    refine call_of (specIsValidDatabase_sat d h) (by simp -implicitDefEqProofs (maxSteps := 2000000) only [go_sem, g]) (by kernel_rfl) (by simp -implicitDefEqProofs (maxSteps := 2000000) only [go_sem, g]) ?_
    simp -implicitDefEqProofs (maxSteps := 2000000) only [go_sem, g]
  rcases i1 : inB fr 0 ((d.rels.length : Int) - 1)
  · rw [show goodDen d ⟨fr, sr, fj, sj, fc, sc, cp⟩ = false by rw [goodDen, g, i1]; rfl]
    refine call_of (specIsValidDatabase_sat d h) (by simp -implicitDefEqProofs (maxSteps := 2000000) only [go_sem, g, w0]) (by kernel_rfl) (by simp -implicitDefEqProofs (maxSteps := 2000000) only [go_sem, g, w0]) ?_
    simp -implicitDefEqProofs (maxSteps := 2000000) only [go_sem, g, w0]
    refine call_of (inB_sat fr 0 ((d.rels.length : Int) - 1)) (by simp -implicitDefEqProofs (maxSteps := 2000000) only [go_sem, i1]) (by kernel_rfl) (by simp -implicitDefEqProofs (maxSteps := 2000000) only [go_sem, i1]) ?_
    simp -implicitDefEqProofs (maxSteps := 2000000) only [go_sem, i1]
  rcases i2 : inB sr 0 ((d.rels.length : Int) - 1)
  · rw [show goodDen d ⟨fr, sr, fj, sj, fc, sc, cp⟩ = false by rw [goodDen, g, i1, i2]; rfl]
    refine call_of (specIsValidDatabase_sat d h) (by simp -implicitDefEqProofs (maxSteps := 2000000) only [go_sem, g, w0]) (by kernel_rfl) (by simp -implicitDefEqProofs (maxSteps := 2000000) only [go_sem, g, w0]) ?_
    simp -implicitDefEqProofs (maxSteps := 2000000) only [go_sem, g, w0]
    refine call_of (inB_sat fr 0 ((d.rels.length : Int) - 1)) (by simp -implicitDefEqProofs (maxSteps := 2000000) only [go_sem, i1, w0]) (by kernel_rfl) (by simp -implicitDefEqProofs (maxSteps := 2000000) only [go_sem, i1, w0]) ?_
    simp -implicitDefEqProofs (maxSteps := 2000000) only [go_sem, i1, w0]
    refine call_of (inB_sat sr 0 ((d.rels.length : Int) - 1)) (by simp -implicitDefEqProofs (maxSteps := 2000000) only [go_sem, i2]) (by kernel_rfl) (by simp -implicitDefEqProofs (maxSteps := 2000000) only [go_sem, i2]) ?_
    simp -implicitDefEqProofs (maxSteps := 2000000) only [go_sem, i2]
  obtain ⟨r1, r2⟩ := inB_of i1
  obtain ⟨m, rfl⟩ : ∃ m : Nat, fr = m := ⟨fr.toNat, by omega⟩
  obtain ⟨r3, r4⟩ := inB_of i2
  obtain ⟨n, rfl⟩ : ∃ n : Nat, sr = n := ⟨sr.toNat, by omega⟩
  have c1 : m < d.rels.length := by omega
  have c2 : n < d.rels.length := by omega
  have o1 := (rel_of (db_of g).1 c1).1
  have o2 := (rel_of (db_of g).1 c2).1
  have w1 : IntKind.i64.wrap ((d.rels.getD m default).ar - 1) = (d.rels.getD m default).ar - 1 := IntWalk.i64_in _ (by omega)
  have w2 : IntKind.i64.wrap ((d.rels.getD n default).ar - 1) = (d.rels.getD n default).ar - 1 := IntWalk.i64_in _ (by omega)
  rw [show goodDen d ⟨m, n, fj, sj, fc, sc, cp⟩ = (inB fj 0 ((d.rels.getD m default).ar - 1) && (inB fc 0 ((d.rels.getD m default).ar - 1) && (inB sj 0 ((d.rels.getD n default).ar - 1) && (inB sc 0 ((d.rels.getD n default).ar - 1) && inB cp 1 2)))) by rw [goodDen, g, i1, i2]; rfl]
  refine call_of (specIsValidDatabase_sat d h) (by simp -implicitDefEqProofs (maxSteps := 2000000) only [go_sem, g, w0]) (by kernel_rfl) (by simp -implicitDefEqProofs (maxSteps := 2000000) only [go_sem, g, w0]) ?_
  simp -implicitDefEqProofs (maxSteps := 2000000) only [go_sem, g, w0]
  refine call_of (inB_sat m 0 ((d.rels.length : Int) - 1)) (by simp -implicitDefEqProofs (maxSteps := 2000000) only [go_sem, i1, w0]) (by kernel_rfl) (by simp -implicitDefEqProofs (maxSteps := 2000000) only [go_sem, i1, w0]) ?_
  simp -implicitDefEqProofs (maxSteps := 2000000) only [go_sem, i1, w0]
  refine call_of (inB_sat n 0 ((d.rels.length : Int) - 1)) (by simp -implicitDefEqProofs (maxSteps := 2000000) only [go_sem, i2, c1, c2, w1, w2]) (by kernel_rfl) (by simp -implicitDefEqProofs (maxSteps := 2000000) only [go_sem, i2, c1, c2, w1, w2]) ?_
  simp -implicitDefEqProofs (maxSteps := 2000000) only [go_sem, i2, c1, c2, w1, w2]
  rcases j1 : inB fj 0 ((d.rels.getD m default).ar - 1)
  · refine call_of (inB_sat fj 0 ((d.rels.getD m default).ar - 1)) (by simp -implicitDefEqProofs (maxSteps := 2000000) only [go_sem, j1]) (by kernel_rfl) (by simp -implicitDefEqProofs (maxSteps := 2000000) only [go_sem, j1]) ?_
    simp -implicitDefEqProofs (maxSteps := 2000000) only [go_sem, j1]
  refine call_of (inB_sat fj 0 ((d.rels.getD m default).ar - 1)) (by simp -implicitDefEqProofs (maxSteps := 2000000) only [go_sem, j1, w1]) (by kernel_rfl) (by simp -implicitDefEqProofs (maxSteps := 2000000) only [go_sem, j1, w1]) ?_
  simp -implicitDefEqProofs (maxSteps := 2000000) only [go_sem, j1, w1]
  rcases j2 : inB fc 0 ((d.rels.getD m default).ar - 1)
  · refine call_of (inB_sat fc 0 ((d.rels.getD m default).ar - 1)) (by simp -implicitDefEqProofs (maxSteps := 2000000) only [go_sem, j2]) (by kernel_rfl) (by simp -implicitDefEqProofs (maxSteps := 2000000) only [go_sem, j2]) ?_
    simp -implicitDefEqProofs (maxSteps := 2000000) only [go_sem, j2]
  refine call_of (inB_sat fc 0 ((d.rels.getD m default).ar - 1)) (by simp -implicitDefEqProofs (maxSteps := 2000000) only [go_sem, j2, w2]) (by kernel_rfl) (by simp -implicitDefEqProofs (maxSteps := 2000000) only [go_sem, j2, w2]) ?_
  simp -implicitDefEqProofs (maxSteps := 2000000) only [go_sem, j2, w2]
  rcases j3 : inB sj 0 ((d.rels.getD n default).ar - 1)
  · refine call_of (inB_sat sj 0 ((d.rels.getD n default).ar - 1)) (by simp -implicitDefEqProofs (maxSteps := 2000000) only [go_sem, j3]) (by kernel_rfl) (by simp -implicitDefEqProofs (maxSteps := 2000000) only [go_sem, j3]) ?_
    simp -implicitDefEqProofs (maxSteps := 2000000) only [go_sem, j3]
  refine call_of (inB_sat sj 0 ((d.rels.getD n default).ar - 1)) (by simp -implicitDefEqProofs (maxSteps := 2000000) only [go_sem, j3, w2]) (by kernel_rfl) (by simp -implicitDefEqProofs (maxSteps := 2000000) only [go_sem, j3, w2]) ?_
  simp -implicitDefEqProofs (maxSteps := 2000000) only [go_sem, j3, w2]
  rcases j4 : inB sc 0 ((d.rels.getD n default).ar - 1)
  · refine call_of (inB_sat sc 0 ((d.rels.getD n default).ar - 1)) (by simp -implicitDefEqProofs (maxSteps := 2000000) only [go_sem, j4]) (by kernel_rfl) (by simp -implicitDefEqProofs (maxSteps := 2000000) only [go_sem, j4]) ?_
    simp -implicitDefEqProofs (maxSteps := 2000000) only [go_sem, j4]
  refine call_of (inB_sat sc 0 ((d.rels.getD n default).ar - 1)) (by simp -implicitDefEqProofs (maxSteps := 2000000) only [go_sem, j4]) (by kernel_rfl) (by simp -implicitDefEqProofs (maxSteps := 2000000) only [go_sem, j4]) ?_
  simp -implicitDefEqProofs (maxSteps := 2000000) only [go_sem, j4]
  refine call_of (inB_sat cp 1 2) (by simp -implicitDefEqProofs (maxSteps := 2000000) only [go_sem]) (by kernel_rfl) (by simp -implicitDefEqProofs (maxSteps := 2000000) only [go_sem]) ?_
  simp -implicitDefEqProofs (maxSteps := 2000000) only [go_sem]
theorem implIsValidConstraint_sat (d : Db) (x : Den) (h : d.fit) : Sat Tryz.prog 10 [lDb d, lDen x] [lBool (goodDen d x)] [g2, g7] := by
  refine sat_of_body mixed Tryz.func10 rfl (by kernel_rfl) (by kernel_rfl) (rs := [.tmp 4]) rfl rfl rfl ?_
  rcases x with ⟨fr, sr, fj, sj, fc, sc, cp⟩
  have hb := h.1.1
  have w0 : IntKind.i64.wrap ((d.rels.length : Int) - 1) = (d.rels.length : Int) - 1 := IntWalk.i64_in _ (by omega)
  simp -implicitDefEqProofs (maxSteps := 2000000) only [go_sem]
  rcases g : goodDb d
  · rw [show goodDen d ⟨fr, sr, fj, sj, fc, sc, cp⟩ = false by rw [goodDen, g]; rfl]
    refine call_of (implIsValidDatabase_sat d h) (by simp -implicitDefEqProofs (maxSteps := 2000000) only [go_sem, g]) (by kernel_rfl) (by simp -implicitDefEqProofs (maxSteps := 2000000) only [go_sem, g]) ?_
    simp -implicitDefEqProofs (maxSteps := 2000000) only [go_sem, g]
  rcases i1 : inB fr 0 ((d.rels.length : Int) - 1)
  · rw [show goodDen d ⟨fr, sr, fj, sj, fc, sc, cp⟩ = false by rw [goodDen, g, i1]; rfl]
    refine call_of (implIsValidDatabase_sat d h) (by simp -implicitDefEqProofs (maxSteps := 2000000) only [go_sem, g, w0]) (by kernel_rfl) (by simp -implicitDefEqProofs (maxSteps := 2000000) only [go_sem, g, w0]) ?_
    simp -implicitDefEqProofs (maxSteps := 2000000) only [go_sem, g, w0]
    refine call_of (inW_sat fr 0 ((d.rels.length : Int) - 1)) (by simp -implicitDefEqProofs (maxSteps := 2000000) only [go_sem, i1]) (by kernel_rfl) (by simp -implicitDefEqProofs (maxSteps := 2000000) only [go_sem, i1]) ?_
    simp -implicitDefEqProofs (maxSteps := 2000000) only [go_sem, i1]
  rcases i2 : inB sr 0 ((d.rels.length : Int) - 1)
  · rw [show goodDen d ⟨fr, sr, fj, sj, fc, sc, cp⟩ = false by rw [goodDen, g, i1, i2]; rfl]
    refine call_of (implIsValidDatabase_sat d h) (by simp -implicitDefEqProofs (maxSteps := 2000000) only [go_sem, g, w0]) (by kernel_rfl) (by simp -implicitDefEqProofs (maxSteps := 2000000) only [go_sem, g, w0]) ?_
    simp -implicitDefEqProofs (maxSteps := 2000000) only [go_sem, g, w0]
    refine call_of (inW_sat fr 0 ((d.rels.length : Int) - 1)) (by simp -implicitDefEqProofs (maxSteps := 2000000) only [go_sem, i1, w0]) (by kernel_rfl) (by simp -implicitDefEqProofs (maxSteps := 2000000) only [go_sem, i1, w0]) ?_
    simp -implicitDefEqProofs (maxSteps := 2000000) only [go_sem, i1, w0]
    refine call_of (inW_sat sr 0 ((d.rels.length : Int) - 1)) (by simp -implicitDefEqProofs (maxSteps := 2000000) only [go_sem, i2]) (by kernel_rfl) (by simp -implicitDefEqProofs (maxSteps := 2000000) only [go_sem, i2]) ?_
    simp -implicitDefEqProofs (maxSteps := 2000000) only [go_sem, i2]
  obtain ⟨r1, r2⟩ := inB_of i1
  obtain ⟨m, rfl⟩ : ∃ m : Nat, fr = m := ⟨fr.toNat, by omega⟩
  obtain ⟨r3, r4⟩ := inB_of i2
  obtain ⟨n, rfl⟩ : ∃ n : Nat, sr = n := ⟨sr.toNat, by omega⟩
  have c1 : m < d.rels.length := by omega
  have c2 : n < d.rels.length := by omega
  have o1 := (rel_of (db_of g).1 c1).1
  have o2 := (rel_of (db_of g).1 c2).1
  have w1 : IntKind.i64.wrap ((d.rels.getD m default).ar - 1) = (d.rels.getD m default).ar - 1 := IntWalk.i64_in _ (by omega)
  have w2 : IntKind.i64.wrap ((d.rels.getD n default).ar - 1) = (d.rels.getD n default).ar - 1 := IntWalk.i64_in _ (by omega)
  rw [show goodDen d ⟨m, n, fj, sj, fc, sc, cp⟩ = (inB fj 0 ((d.rels.getD m default).ar - 1) && (inB fc 0 ((d.rels.getD m default).ar - 1) && (inB sj 0 ((d.rels.getD n default).ar - 1) && (inB sc 0 ((d.rels.getD n default).ar - 1) && inB cp 1 2)))) by rw [goodDen, g, i1, i2]; rfl]
  refine call_of (implIsValidDatabase_sat d h) (by simp -implicitDefEqProofs (maxSteps := 2000000) only [go_sem, g, w0]) (by kernel_rfl) (by simp -implicitDefEqProofs (maxSteps := 2000000) only [go_sem, g, w0]) ?_
  simp -implicitDefEqProofs (maxSteps := 2000000) only [go_sem, g, w0]
  refine call_of (inW_sat m 0 ((d.rels.length : Int) - 1)) (by simp -implicitDefEqProofs (maxSteps := 2000000) only [go_sem, i1, w0]) (by kernel_rfl) (by simp -implicitDefEqProofs (maxSteps := 2000000) only [go_sem, i1, w0]) ?_
  simp -implicitDefEqProofs (maxSteps := 2000000) only [go_sem, i1, w0]
  refine call_of (inW_sat n 0 ((d.rels.length : Int) - 1)) (by simp -implicitDefEqProofs (maxSteps := 2000000) only [go_sem, i2, c1, c2, w1, w2]) (by kernel_rfl) (by simp -implicitDefEqProofs (maxSteps := 2000000) only [go_sem, i2, c1, c2, w1, w2]) ?_
  simp -implicitDefEqProofs (maxSteps := 2000000) only [go_sem, i2, c1, c2, w1, w2]
  rcases j1 : inB fj 0 ((d.rels.getD m default).ar - 1)
  · refine call_of (inW_sat fj 0 ((d.rels.getD m default).ar - 1)) (by simp -implicitDefEqProofs (maxSteps := 2000000) only [go_sem, j1]) (by kernel_rfl) (by simp -implicitDefEqProofs (maxSteps := 2000000) only [go_sem, j1]) ?_
    simp -implicitDefEqProofs (maxSteps := 2000000) only [go_sem, j1]
  refine call_of (inW_sat fj 0 ((d.rels.getD m default).ar - 1)) (by simp -implicitDefEqProofs (maxSteps := 2000000) only [go_sem, j1, w1]) (by kernel_rfl) (by simp -implicitDefEqProofs (maxSteps := 2000000) only [go_sem, j1, w1]) ?_
  simp -implicitDefEqProofs (maxSteps := 2000000) only [go_sem, j1, w1]
  rcases j2 : inB fc 0 ((d.rels.getD m default).ar - 1)
  · refine call_of (inW_sat fc 0 ((d.rels.getD m default).ar - 1)) (by simp -implicitDefEqProofs (maxSteps := 2000000) only [go_sem, j2]) (by kernel_rfl) (by simp -implicitDefEqProofs (maxSteps := 2000000) only [go_sem, j2]) ?_
    simp -implicitDefEqProofs (maxSteps := 2000000) only [go_sem, j2]
  refine call_of (inW_sat fc 0 ((d.rels.getD m default).ar - 1)) (by simp -implicitDefEqProofs (maxSteps := 2000000) only [go_sem, j2, w2]) (by kernel_rfl) (by simp -implicitDefEqProofs (maxSteps := 2000000) only [go_sem, j2, w2]) ?_
  simp -implicitDefEqProofs (maxSteps := 2000000) only [go_sem, j2, w2]
  rcases j3 : inB sj 0 ((d.rels.getD n default).ar - 1)
  · refine call_of (inW_sat sj 0 ((d.rels.getD n default).ar - 1)) (by simp -implicitDefEqProofs (maxSteps := 2000000) only [go_sem, j3]) (by kernel_rfl) (by simp -implicitDefEqProofs (maxSteps := 2000000) only [go_sem, j3]) ?_
    simp -implicitDefEqProofs (maxSteps := 2000000) only [go_sem, j3]
  refine call_of (inW_sat sj 0 ((d.rels.getD n default).ar - 1)) (by simp -implicitDefEqProofs (maxSteps := 2000000) only [go_sem, j3, w2]) (by kernel_rfl) (by simp -implicitDefEqProofs (maxSteps := 2000000) only [go_sem, j3, w2]) ?_
  simp -implicitDefEqProofs (maxSteps := 2000000) only [go_sem, j3, w2]
  rcases j4 : inB sc 0 ((d.rels.getD n default).ar - 1)
  · refine call_of (inW_sat sc 0 ((d.rels.getD n default).ar - 1)) (by simp -implicitDefEqProofs (maxSteps := 2000000) only [go_sem, j4]) (by kernel_rfl) (by simp -implicitDefEqProofs (maxSteps := 2000000) only [go_sem, j4]) ?_
    simp -implicitDefEqProofs (maxSteps := 2000000) only [go_sem, j4]
  refine call_of (inW_sat sc 0 ((d.rels.getD n default).ar - 1)) (by simp -implicitDefEqProofs (maxSteps := 2000000) only [go_sem, j4]) (by kernel_rfl) (by simp -implicitDefEqProofs (maxSteps := 2000000) only [go_sem, j4]) ?_
  simp -implicitDefEqProofs (maxSteps := 2000000) only [go_sem, j4]
  refine call_of (inW_sat cp 1 2) (by simp -implicitDefEqProofs (maxSteps := 2000000) only [go_sem]) (by kernel_rfl) (by simp -implicitDefEqProofs (maxSteps := 2000000) only [go_sem]) ?_
  simp -implicitDefEqProofs (maxSteps := 2000000) only [go_sem]
end Go.Proofs.YtedciihjgbkjgabGreatDoor.A


/- RELATIONS AND FACTS DRAWN. Conditions: none. -/
namespace Go.Proofs.YtedciihjgbkjgabGreatDoor.A
open Go
set_option linter.unusedSimpArgs false
set_option linter.unusedVariables false
set_option maxRecDepth 100000

/-! #### lists of texts -/
def cTx (s : ByteArray) : List Cell := [.sc (.string s)]
def txs (l : List ByteArray) : Rows := l.map cTx
theorem txs_length (l : List ByteArray) : (txs l).length = l.length := by simp [txs]
theorem txs_get {l : List ByteArray} {i : Nat} (h : i < l.length) : (txs l).getD i [] = [.sc (.string (l.getD i ⟨#[]⟩))] := get_map (⟨#[]⟩ : ByteArray) cTx h
theorem txs_rst (l : List ByteArray) : rst (txs l) = txs l := rst_map _ _ (fun _ => rfl) l
theorem txs_set (l : List ByteArray) (i : Nat) (s : ByteArray) : (txs l).set i [.sc (.string s)] = txs (l.set i s) := by simp [txs, List.map_set, cTx]
theorem txs_rep (n : Nat) (s : ByteArray) : List.replicate n [Cell.sc (.string s)] = txs (List.replicate n s) := by simp [txs, cTx]
theorem txs_take (l : List ByteArray) (k : Nat) : (txs l).take k = txs (l.take k) := by simp [txs]
attribute [go_sem] txs_length txs_rst txs_set txs_rep txs_take
abbrev oTxs (l : List ByteArray) : LV := .one (.ow 1 (txs l))
theorem l1Pick_own (c : Cur) (l : List ByteArray) (hc : c.ok) (h1 : 0 < l.length) (h2 : l.length ≤ 256) : Sat Tryz.prog 107 [lCur c, oTxs l] [lStr (l.getD (beV c l.length) ⟨#[]⟩)] [lCur (byC c), g1] := by
  refine sat_of_body mixed Tryz.func107 rfl (by kernel_rfl) (by kernel_rfl) (rs := [.tmp 4]) rfl rfl rfl ?_
  have hv := beV_lt c h1
  have e := txs_get hv
  simp -implicitDefEqProofs (maxSteps := 2000000) only [go_sem]
  refine call_of (l1Below_sat c l.length hc h1 h2) (by simp -implicitDefEqProofs (maxSteps := 2000000) only [go_sem, hv, e]) (by kernel_rfl) (by simp -implicitDefEqProofs (maxSteps := 2000000) only [go_sem, hv, e]) ?_
  simp -implicitDefEqProofs (maxSteps := 2000000) only [go_sem, hv, e]
  rfl

/-! #### relations -/
def sigL : List Int := [1, 1, 2, 0]
def sigK (c : Cur) : Int := sigL.getD (beV c 4) 0
def sigU (c : Cur) : Int := 1 + ((beV c 2 : Nat) : Int)
def sigR (a b : Int) : List Rel := [⟨⟨#[114]⟩, 2, 1⟩, ⟨⟨#[115]⟩, 2, 1⟩, ⟨⟨#[116]⟩, 2, a⟩, ⟨⟨#[117]⟩, 3, b⟩]
def sigs (c : Cur) : List Rel := sigR (sigK c) (sigU (byC c))
theorem l2Sigs_sat (c : Cur) (hc : c.ok) : Sat Tryz.prog 102 [lCur c] [oRels (sigs c)] [lCur (byC (byC c))] := by
  refine sat_of_body mixed Tryz.func102 rfl (by kernel_rfl) (by kernel_rfl) (rs := [.tmp 2]) rfl rfl rfl ?_
  have eL : ((((List.replicate 4 (0 : Int)).set 0 1).set 1 1).set 2 2).set 3 0 = sigL := rfl
  have el : sigL.length = 4 := rfl
  have hb := beV_lt (byC c) (n := 2) (by decide)
  have w : IntKind.i64.wrap (1 + ((beV (byC c) 2 : Nat) : Int)) = sigU (byC c) := IntWalk.i64_in _ (by omega)
  simp -implicitDefEqProofs (maxSteps := 2000000) only [go_sem]
  refine call_of (l1PickInt_own c sigL hc (by decide) (by decide)) (by simp -implicitDefEqProofs (maxSteps := 2000000) only [go_sem, eL, el]) (by kernel_rfl) (by simp -implicitDefEqProofs (maxSteps := 2000000) only [go_sem, eL, el]) ?_
  simp -implicitDefEqProofs (maxSteps := 2000000) only [go_sem, eL, el]
  refine call_of (l1Below_sat (byC c) 2 (byC_ok hc) (by decide) (by decide)) (by simp -implicitDefEqProofs (maxSteps := 2000000) only [go_sem, w] <;> and_intros <;> rfl) (by kernel_rfl) (by simp -implicitDefEqProofs (maxSteps := 2000000) only [go_sem, w]) ?_
  simp -implicitDefEqProofs (maxSteps := 2000000) only [go_sem, w]
  exact ⟨rfl, rfl⟩
def anyN : List ByteArray := [⟨#[114]⟩, ⟨#[122]⟩, ⟨#[97]⟩, ⟨#[]⟩, ⟨#[82]⟩, ⟨#[97, 98]⟩]
theorem anyN_ok : ∀ i : Fin 6, (anyN.getD i.val ⟨#[]⟩).size ≤ 2 := by decide
def anyR (c : Cur) : Rel := ⟨anyN.getD (beV c 6) ⟨#[]⟩, ((beV (byC c) 6 : Nat) : Int) - 1, ((beV (byC (byC c)) 5 : Nat) : Int) - 1⟩
theorem l2Any_sat (c : Cur) (hc : c.ok) : Sat Tryz.prog 71 [lCur c] [lRel (anyR c)] [lCur (byC (byC (byC c)))] := by
  refine sat_of_body mixed Tryz.func71 rfl (by kernel_rfl) (by kernel_rfl) (rs := [.cell 2 74]) rfl rfl rfl ?_
  have eL : ((((((List.replicate 6 ByteArray.empty).set 0 ⟨#[114]⟩).set 1 ⟨#[122]⟩).set 2 ⟨#[97]⟩).set 3 ⟨#[]⟩).set 4 ⟨#[82]⟩).set 5 ⟨#[97, 98]⟩ = anyN := rfl
  have el : anyN.length = 6 := rfl
  have h1 := beV_lt (byC c) (n := 6) (by decide)
  have h2 := beV_lt (byC (byC c)) (n := 5) (by decide)
  have w1 : IntKind.i64.wrap (((beV (byC c) 6 : Nat) : Int) - 1) = ((beV (byC c) 6 : Nat) : Int) - 1 := IntWalk.i64_in _ (by omega)
  have w2 : IntKind.i64.wrap (((beV (byC (byC c)) 5 : Nat) : Int) - 1) = ((beV (byC (byC c)) 5 : Nat) : Int) - 1 := IntWalk.i64_in _ (by omega)
  simp -implicitDefEqProofs (maxSteps := 2000000) only [go_sem]
  refine call_of (l1Pick_own c anyN hc (by decide) (by decide)) (by simp -implicitDefEqProofs (maxSteps := 2000000) only [go_sem, eL, el]) (by kernel_rfl) (by simp -implicitDefEqProofs (maxSteps := 2000000) only [go_sem, eL, el]) ?_
  simp -implicitDefEqProofs (maxSteps := 2000000) only [go_sem, eL, el]
  refine call_of (l1Below_sat (byC c) 6 (byC_ok hc) (by decide) (by decide)) (by simp -implicitDefEqProofs (maxSteps := 2000000) only [go_sem, w1] <;> and_intros <;> rfl) (by kernel_rfl) (by simp -implicitDefEqProofs (maxSteps := 2000000) only [go_sem, w1]) ?_
  simp -implicitDefEqProofs (maxSteps := 2000000) only [go_sem, w1]
  refine call_of (l1Below_sat (byC (byC c)) 5 (byC_ok (byC_ok hc)) (by decide) (by decide)) (by simp -implicitDefEqProofs (maxSteps := 2000000) only [go_sem, w2] <;> and_intros <;> rfl) (by kernel_rfl) (by simp -implicitDefEqProofs (maxSteps := 2000000) only [go_sem, w2]) ?_
  simp -implicitDefEqProofs (maxSteps := 2000000) only [go_sem, w2]
  exact ⟨⟨rfl, rfl, rfl⟩, rfl⟩

/-! #### facts -/
def drawN (c : Cur) (v : Nat) : Nat → List Int × Cur
  | 0 => ([], c)
  | k + 1 => ((drawN c v k).1 ++ [((beV (drawN c v k).2 v : Nat) : Int)], byC (drawN c v k).2)
theorem drawN_len (c : Cur) (v : Nat) : ∀ k, (drawN c v k).1.length = k
  | 0 => rfl
  | k + 1 => by rw [drawN, List.length_append, drawN_len c v k]; rfl
theorem drawN_ok {c : Cur} (h : c.ok) (v : Nat) : ∀ k, (drawN c v k).2.ok
  | 0 => h
  | k + 1 => byC_ok (drawN_ok h v k)
def factA (c : Cur) (l : List Rel) : Nat := (l.getD (beV c l.length) default).ar.toNat
def factD (c : Cur) (l : List Rel) (v : Nat) : RI := ⟨((beV c l.length : Nat) : Int), (drawN (byC c) v (factA c l)).1⟩
def factC (c : Cur) (l : List Rel) (v : Nat) : Cur := (drawN (byC c) v (factA c l)).2
theorem factC_ok {c : Cur} (h : c.ok) (l : List Rel) (v : Nat) : (factC c l v).ok := drawN_ok (byC_ok h) v _
theorem factD_len (c : Cur) (l : List Rel) (v : Nat) : (factD c l v).l.length = factA c l := drawN_len _ _ _
abbrev zRI : List SV := [.sc (.int .i64 0), .sc (.slice none 0 0)]
theorem l3Fact_sat (c : Cur) (l : List Rel) (v : Nat) (hc : c.ok) (h1 : 0 < l.length) (h2 : l.length ≤ 256) (hv : 0 < v) (hv2 : v ≤ 256) (ha : ∀ x ∈ l, x.ar ≤ 100) :
    Sat Tryz.prog 105 [lCur c, lRels l, lInt v] [oRI (factD c l v)] [lCur (factC c l v), g1, g1] := by
  refine sat_of_body mixed Tryz.func105 rfl (by kernel_rfl) (by kernel_rfl) (rs := [.cell 6 67]) rfl rfl rfl ?_
  have hr := beV_lt c h1
  have har := ha _ (mem_getD default hr)
  simp -implicitDefEqProofs (maxSteps := 2000000) only [go_sem]
  refine call_of (l1Below_sat c l.length hc h1 h2) (by simp -implicitDefEqProofs (maxSteps := 2000000) only [go_sem] <;> and_intros <;> rfl) (by kernel_rfl) (by simp -implicitDefEqProofs (maxSteps := 2000000) only [go_sem]) ?_
  simp -implicitDefEqProofs (maxSteps := 2000000) only [go_sem]
  have wz : ints (drawN (byC c) v 0).1 = [] := rfl
  refine awp_loop Nat (fun k => mkSt [(0, .one (.vad 0 0)), (1, .one (.im 3 (rels l))), (2, .sc (.int .i64 v)), (6, .one (.vad 1000 0)), (7, .one (.vad 1384 0))] [(0, sCur (drawN (byC c) v k).2), (1000, zRI), (1384, [.sc (.int .i64 ((beV c l.length : Nat) : Int)), .ref 960 1 0 k])] [(960, (1, ints (drawN (byC c) v k).1))] 4000)
    (fun k => k ≤ factA c l) (fun k => factA c l - k) 0 (by omega) (le_st _ _ [⟨960, none, false, 1, _⟩] [] _ rfl (by simp -implicitDefEqProofs (maxSteps := 2000000) only [go_sem, wz, drawN] <;> rfl) (by simp -implicitDefEqProofs (maxSteps := 2000000) only [go_sem, wz, drawN] <;> rfl) (by simp -implicitDefEqProofs (maxSteps := 2000000) only [go_sem, wz, drawN] <;> rfl)) ?_
  rintro k h3
  have hl := drawN_len (byC c) v k
  have hk := drawN_ok (byC_ok hc) v k
  have htk : List.take k (drawN (byC c) v k).1 = (drawN (byC c) v k).1 := List.take_of_length_le (by omega)
  by_cases c1 : k < factA c l
  · have d1 : decide ((k : Int) < (l.getD (beV c l.length) default).ar) = true := decide_eq_true (by unfold factA at c1; omega)
    simp -implicitDefEqProofs (maxSteps := 2000000) only [go_sem, hr, htk, hl, d1]
    refine call_of (l1Below_sat (drawN (byC c) v k).2 v hk hv hv2) (by simp -implicitDefEqProofs (maxSteps := 2000000) only [go_sem] <;> and_intros <;> rfl) (by kernel_rfl) (by simp -implicitDefEqProofs (maxSteps := 2000000) only [go_sem]) ?_
    simp -implicitDefEqProofs (maxSteps := 2000000) only [go_sem]
    have hka : k ≤ 100 := by unfold factA at c1; omega
    repeat (refine ⟨by omega, ?_⟩)
    first | (with_reducible refine tr_and ?_ ?_; focus kernel_rfl) | (with_reducible refine tr_only ?_; kernel_rfl) | skip
    refine ⟨k + 1, c1, by omega, ?_⟩
    exact (le_st' _ _ [⟨960, some _, false, 1, _⟩] [] _ (by simp -implicitDefEqProofs (maxSteps := 2000000) only [go_sem, drawN, hl] <;> and_intros <;> rfl) (by simp -implicitDefEqProofs (maxSteps := 2000000) only [go_sem, drawN, hl] <;> and_intros <;> rfl) (by simp -implicitDefEqProofs (maxSteps := 2000000) only [go_sem, drawN, hl] <;> and_intros <;> rfl) (by rfl))
  · obtain rfl : k = factA c l := by omega
    have d1 : decide ((factA c l : Int) < (l.getD (beV c l.length) default).ar) = false := decide_eq_false (by unfold factA; omega)
    simp -implicitDefEqProofs (maxSteps := 2000000) only [go_sem, hr, htk, hl, d1]
    and_intros <;> rfl
end Go.Proofs.YtedciihjgbkjgabGreatDoor.A


/- THE LIBRARY'S IndexByte AND Itoa, of this program. Conditions: none. -/
namespace Go.Proofs.YtedciihjgbkjgabGreatDoor.A
open Go Go.Shelf
set_option linter.unusedVariables false
set_option maxRecDepth 100000
def laysIdxB_ren : Go.Shelf.Ren := ⟨fun | 137 => 128 | 217 => 152 | 266 => 172 | n => n, fun | 3 => 3 | 5 => 5 | 9 => 9 | n => n, fun n => n⟩
theorem laysIdxB : Lays.n137 Tryz.prog laysIdxB_ren where
  mixed := by kernel_rfl
  f137 := Tryz.func128.trans (congrArg some (by kernel_rfl))
  f217 := Tryz.func152.trans (congrArg some (by kernel_rfl))
  f266 := Tryz.func172.trans (congrArg some (by kernel_rfl))
  t3 := Tryz.underlying3
  a3 := Tryz.isAgg3
  z3 := Tryz.sizeOf3
  v3 := Tryz.zeroValue3
  t5 := Tryz.underlying5
  a5 := Tryz.isAgg5
  z5 := Tryz.sizeOf5
  v5 := Tryz.zeroValue5
  t9 := Tryz.underlying9
  a9 := Tryz.isAgg9
  z9 := Tryz.sizeOf9
  v9 := Tryz.zeroValue9
theorem stringsIndexByte_sat (s : ByteArray) (c : Int) : Sat Tryz.prog 128 [lStr s, .one (.sc (.int .u8 c))] [lInt (Lib.indexByte s.data.toList c.toNat.toUInt8)] [g1, g1] :=
  pure2_sat Tryz.func128 rfl (by kernel_rfl) _ _ _ (Any.strings_IndexByte laysIdxB s c)
def laysItoa_ren : Go.Shelf.Ren := ⟨fun | 129 => 124 | 171 => 81 | 243 => 112 | 246 => 145 | 283 => 167 | 284 => 168 | 285 => 169 | 286 => 170 | 317 => 180 | 318 => 181 | 319 => 182 | 320 => 183 | 337 => 185 | 338 => 186 | n => n, fun | 0 => 0 | 2 => 2 | 3 => 3 | 4 => 4 | 5 => 5 | 9 => 9 | 20 => 20 | 37 => 22 | 46 => 118 | 51 => 143 | 53 => 145 | 171 => 183 | 173 => 185 | 212 => 201 | 213 => 202 | 232 => 207 | 233 => 208 | n => n, fun | 17 => 1 | 18 => 4 | 19 => 5 | n => n⟩
theorem laysItoa : Lays.n171 Tryz.prog laysItoa_ren where
  mixed := by kernel_rfl
  f129 := Tryz.func124.trans (congrArg some (by kernel_rfl))
  f171 := Tryz.func81.trans (congrArg some (by kernel_rfl))
  f243 := Tryz.func112.trans (congrArg some (by kernel_rfl))
  f246 := Tryz.func145.trans (congrArg some (by kernel_rfl))
  f283 := Tryz.func167.trans (congrArg some (by kernel_rfl))
  f284 := Tryz.func168.trans (congrArg some (by kernel_rfl))
  f285 := Tryz.func169.trans (congrArg some (by kernel_rfl))
  f286 := Tryz.func170.trans (congrArg some (by kernel_rfl))
  f317 := Tryz.func180.trans (congrArg some (by kernel_rfl))
  f318 := Tryz.func181.trans (congrArg some (by kernel_rfl))
  f319 := Tryz.func182.trans (congrArg some (by kernel_rfl))
  f320 := Tryz.func183.trans (congrArg some (by kernel_rfl))
  f337 := Tryz.func185.trans (congrArg some (by kernel_rfl))
  f338 := Tryz.func186.trans (congrArg some (by kernel_rfl))
  t0 := Tryz.underlying0
  a0 := Tryz.isAgg0
  z0 := Tryz.sizeOf0
  v0 := Tryz.zeroValue0
  t2 := Tryz.underlying2
  a2 := Tryz.isAgg2
  z2 := Tryz.sizeOf2
  v2 := Tryz.zeroValue2
  t3 := Tryz.underlying3
  a3 := Tryz.isAgg3
  z3 := Tryz.sizeOf3
  v3 := Tryz.zeroValue3
  t4 := Tryz.underlying4
  a4 := Tryz.isAgg4
  z4 := Tryz.sizeOf4
  v4 := Tryz.zeroValue4
  t5 := Tryz.underlying5
  a5 := Tryz.isAgg5
  z5 := Tryz.sizeOf5
  v5 := Tryz.zeroValue5
  t9 := Tryz.underlying9
  a9 := Tryz.isAgg9
  z9 := Tryz.sizeOf9
  v9 := Tryz.zeroValue9
  t20 := Tryz.underlying20
  a20 := Tryz.isAgg20
  z20 := Tryz.sizeOf20
  v20 := Tryz.zeroValue20
  t37 := Tryz.underlying22
  a37 := Tryz.isAgg22
  z37 := Tryz.sizeOf22
  v37 := Tryz.zeroValue22
  t46 := Tryz.underlying118
  a46 := Tryz.isAgg118
  z46 := Tryz.sizeOf118
  v46 := Tryz.zeroValue118
  t51 := Tryz.underlying143
  a51 := Tryz.isAgg143
  z51 := Tryz.sizeOf143
  v51 := Tryz.zeroValue143
  t53 := Tryz.underlying145
  a53 := Tryz.isAgg145
  z53 := Tryz.sizeOf145
  v53 := Tryz.zeroValue145
  t171 := Tryz.underlying183
  a171 := Tryz.isAgg183
  z171 := Tryz.sizeOf183
  v171 := Tryz.zeroValue183
  t173 := Tryz.underlying185
  a173 := Tryz.isAgg185
  z173 := Tryz.sizeOf185
  v173 := Tryz.zeroValue185
  t212 := Tryz.underlying201
  a212 := Tryz.isAgg201
  z212 := Tryz.sizeOf201
  v212 := Tryz.zeroValue201
  t213 := Tryz.underlying202
  a213 := Tryz.isAgg202
  z213 := Tryz.sizeOf202
  t232 := Tryz.underlying207
  a232 := Tryz.isAgg207
  z232 := Tryz.sizeOf207
  v232 := Tryz.zeroValue207
  t233 := Tryz.underlying208
  a233 := Tryz.isAgg208
  z233 := Tryz.sizeOf208
  v233 := Tryz.zeroValue208
  g17 := by kernel_rfl
  g18 := by kernel_rfl
  g19 := by kernel_rfl
theorem strconvItoa_sat (i : Nat) (hi : i < 100) : Sat Tryz.prog 81 [lInt i] [lStr ⟨(Lib.decDigits i).toArray⟩] [g1] :=
  pure1_sat Tryz.func81 rfl (by kernel_rfl) _ _ (Any.strconv_Itoa_small laysItoa i hi)
end Go.Proofs.YtedciihjgbkjgabGreatDoor.A


/- A CONSTANT's TERM, as the program has it. Conditions: none. -/
namespace Go.Proofs.YtedciihjgbkjgabGreatDoor.A
open Go
set_option linter.unusedSimpArgs false
set_option linter.unusedVariables false
set_option maxRecDepth 100000
theorem constantT_sat (t : Int) (h : -1000 ≤ t ∧ t ≤ 1000) : Sat Tryz.prog 129 [lInt t] [lInt (-1 - t)] [g1] := by
  refine sat_of_body mixed Tryz.func129 rfl (by kernel_rfl) (by kernel_rfl) (rs := [.tmp 2]) rfl rfl rfl ?_
  have w : IntKind.i64.wrap (-1 - t) = -1 - t := IntWalk.i64_in _ (by omega)
  simp -implicitDefEqProofs (maxSteps := 2000000) only [go_sem, w]
  first | done | rfl | exact ⟨rfl, rfl⟩ | exact ⟨rfl, rfl, rfl⟩ | (refine tr_and ?_ ?_ <;> first | rfl | exact ⟨rfl, rfl⟩ | kernel_rfl)
end Go.Proofs.YtedciihjgbkjgabGreatDoor.A
