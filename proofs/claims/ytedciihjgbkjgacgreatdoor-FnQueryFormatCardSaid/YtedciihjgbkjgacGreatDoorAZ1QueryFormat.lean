/- Packed by pack.py: D F1 D2 F3 LK FM FMax FJoin FByt FLib FConst FMQ FD FV FTerm FTerm2 FSort FU F7 FMR FK FQ FQ2 F2 FEmD FW FQF -/
import Derived.Test.YtedciihjgbkjgacGreatDoorAT
import Derived.WideShapes
import Derived.Laws.Strings
import Derived.Test.YtedciihjgbkjgacGreatDoorA40
import Derived.Test.YtedciihjgbkjgacGreatDoorA47
import Derived.Shelf.Slices.Turned
import Derived.Test.YtedciihjgbkjgacGreatDoorA45
import Derived.Test.YtedciihjgbkjgacGreatDoorA46
import Derived.Test.YtedciihjgbkjgacGreatDoorA41
import Derived.Lib.SlicesCompact

/- DATA OF THE PROGRAM, as lists, and how they lie in slices. Conditions: none. -/
namespace Go.Proofs.YtedciihjgbkjgacGreatDoor.A
open Go
set_option linter.unusedSimpArgs false
set_option linter.unusedVariables false

theorem mixed : Tryz.prog.follows .mixedOrders = true := by kernel_rfl

/-! #### numbers -/
def iv (a : List Int) : List Value := a.map (.int .i64)
def ints (a : List Int) : Rows := lift (iv a)
theorem iv_length (a : List Int) : (iv a).length = a.length := by simp [iv]
theorem ints_length (a : List Int) : (ints a).length = a.length := by simp [ints, lift, iv]
theorem ints_eq (a : List Int) : ints a = a.map fun n => [Cell.sc (.int .i64 n)] := by simp [ints, lift, iv]
theorem ints_get {a : List Int} {i : Nat} (h : i < a.length) : (ints a).getD i [] = [Cell.sc (.int .i64 (a.getD i 0))] := by
  simp [ints_eq, List.getD_eq_getElem?_getD, h]
theorem ints_frz (a : List Int) : frz (ints a) = ints a := frz_lift _
theorem ints_rst (a : List Int) : rst (ints a) = ints a := rst_lift _
theorem ints_stm (n : Nat) (a : List Int) : stm n (ints a) = ints a := stm_lift n _
theorem ints_flat (a : List Int) : flatB (ints a) = true := lift_flatB _
theorem ints_unlift (a : List Int) : lift (unlift (ints a)) = ints a := by unfold ints; rw [unlift_lift]
theorem ints_take (a : List Int) (k : Nat) : (ints a).take k = ints (a.take k) := by simp [ints_eq]
theorem ints_drop (a : List Int) (k : Nat) : (ints a).drop k = ints (a.drop k) := by simp [ints_eq]
theorem ints_append (a b : List Int) : ints a ++ ints b = ints (a ++ b) := by simp [ints_eq]
theorem ints_one (n : Int) : [[Cell.sc (.int .i64 n)]] = ints [n] := by simp [ints_eq]
theorem ints_nil : ints [] = [] := rfl
theorem ints_set (a : List Int) (i : Nat) (n : Int) : (ints a).set i [Cell.sc (.int .i64 n)] = ints (a.set i n) := by simp [ints_eq, List.map_set]
theorem ints_rep (n : Nat) (m : Int) : List.replicate n [Cell.sc (.int .i64 m)] = ints (List.replicate n m) := by simp [ints_eq]
theorem lift_iv (a : List Int) : lift (iv a) = ints a := rfl
theorem iv_get {a : List Int} {i : Nat} (h : i < a.length) : (iv a).getD i default = .int .i64 (a.getD i 0) := by
  simp [iv, List.getD_eq_getElem?_getD, h]
theorem iv_take (a : List Int) (k : Nat) : (iv a).take k = iv (a.take k) := by simp [iv]
theorem iv_drop (a : List Int) (k : Nat) : (iv a).drop k = iv (a.drop k) := by simp [iv]
theorem iv_set (a : List Int) (i : Nat) (n : Int) : (iv a).set i (.int .i64 n) = iv (a.set i n) := by simp [iv, List.map_set]
theorem iv_unlift (a : List Int) : unlift (ints a) = iv a := unlift_lift _
theorem cellR_ints {s id len w' : Nat} {a : List Int} {K : Cell → List (Nat × Option Obj') → Prop} : cellR s id 1 0 len (some (w', ints a)) K = (len = a.length ∧ K (.sl s (iv a)) [(id, none)]) := by
  unfold ints; rw [cellR_lift, iv_length]
theorem cell_im_ints {st : St} {s w : Nat} {a : List Int} {K : Cell → List (Nat × Option Obj') → Prop} : cellK st s (.im w (ints a)) K = (w = 1 ∧ K (.sl 0 (iv a)) []) := cell_im
theorem ints_still (a : List Int) : stillRows (ints a) = true := by simp [stillRows, ints_eq, Cell.still]
attribute [go_sem] iv_length ints_length ints_get ints_frz ints_rst ints_stm ints_flat ints_unlift ints_take ints_drop ints_append ints_one ints_set ints_rep lift_iv iv_get iv_take iv_drop iv_set iv_unlift cellR_ints cell_im_ints List.take_length List.drop_length
theorem ofNat_lt_0 {k : Nat} : (0 < k) = ((0 : Nat) < k) := rfl
theorem i64_succ {k : Nat} (h : k < 9223372036854775807) : IntKind.i64.wrap ((k : Int) + 1) = ((k + 1 : Nat) : Int) := by
  rw [IntWalk.i64_in _ (by omega)]; rfl
theorem drop_cons {α : Type} {a : List α} {k : Nat} (d : α) (h : k < a.length) : a.drop k = a.getD k d :: a.drop (k + 1) := by
  rw [List.drop_eq_getElem_cons h]; simp [List.getD_eq_getElem?_getD, h]
theorem take_snoc {α : Type} {a : List α} {k : Nat} (d : α) (h : k < a.length) : a.take (k + 1) = a.take k ++ [a.getD k d] := by
  rw [List.take_succ_eq_append_getElem h]; simp [List.getD_eq_getElem?_getD, h]
theorem take_set_snoc {α : Type} {a b : List α} {k : Nat} (d : α) (hl : b.length = a.length) (h : b.take k = a.take k) (hk : k < a.length) : (b.set k (a.getD k d)).take (k + 1) = a.take (k + 1) := by
  rw [take_snoc d (by simpa [hl] using hk), take_snoc d hk, List.take_set_of_le (by omega), h]
  simp [List.getD_eq_getElem?_getD, hl, hk]
theorem of_take {α : Type} {a b : List α} {k : Nat} (hl : b.length = a.length) (h : b.take k = a.take k) (hk : a.length ≤ k) : b = a := by
  rwa [List.take_of_length_le (by omega), List.take_of_length_le hk] at h
theorem cast_ne {a b : Nat} (h : ((a : Int) != b) = false) : a = b := by
  have : (a : Int) = b := by simpa using h
  omega
attribute [go_sem] Int.reduceToNat Int.reduceLE Int.reduceLT Int.reduceAdd Int.reduceSub Int.reduceBEq Int.reduceBNe Int.reduceEq Int.reduceMul
attribute [go_sem] List.length_set List.length_append List.length_replicate List.length_map Nat.zero_add Nat.add_zero
end Go.Proofs.YtedciihjgbkjgacGreatDoor.A


/- THE SMALLEST FUNCTIONS: lists of numbers. Conditions: none. -/
namespace Go.Proofs.YtedciihjgbkjgacGreatDoor.A
open Go
set_option linter.unusedSimpArgs false
set_option linter.unusedVariables false
set_option maxRecDepth 100000

theorem l1In_sat (x a b : Int) : Sat Tryz.prog 37 [.one (.sc (.int .i64 x)), .one (.sc (.int .i64 a)), .one (.sc (.int .i64 b))] [.one (.sc (.bool (decide (a ≤ x) && decide (x ≤ b))))] [.one .gone, .one .gone, .one .gone] := by
  refine sat_of_body mixed Tryz.func37 rfl (by kernel_rfl) (by kernel_rfl) (rs := [.tmp 6]) rfl rfl rfl ?_
  by_cases h1 : a ≤ x <;> by_cases h2 : x ≤ b <;> simp -implicitDefEqProofs (maxSteps := 2000000) only [go_sem, h1, h2, ge_iff_le, Bool.and_true, Bool.and_false]
theorem within_sat (x a b : Int) : Sat Tryz.prog 39 [.one (.sc (.int .i64 x)), .one (.sc (.int .i64 a)), .one (.sc (.int .i64 b))] [.one (.sc (.bool (decide (a ≤ x) && decide (x ≤ b))))] [.one .gone, .one .gone, .one .gone] := by
  refine sat_of_body mixed Tryz.func39 rfl (by kernel_rfl) (by kernel_rfl) (rs := [.tmp 6]) rfl rfl rfl ?_
  by_cases h1 : a ≤ x <;> by_cases h2 : x ≤ b <;> simp -implicitDefEqProofs (maxSteps := 2000000) only [go_sem, h1, h2, Bool.and_true, Bool.and_false]

def cmpInts : List Int → List Int → Int
  | [], [] => 0
  | [], _ :: _ => -1
  | _ :: _, [] => 1
  | a :: l, b :: m => if a < b then -1 else if a > b then 1 else cmpInts l m
theorem cmpInts_zero : ∀ {a b : List Int}, cmpInts a b = 0 ↔ a = b
  | [], [] => by simp [cmpInts]
  | [], _ :: _ => by simp [cmpInts]
  | _ :: _, [] => by simp [cmpInts]
  | a :: l, b :: m => by
    unfold cmpInts
    rcases Int.lt_trichotomy a b with h | h | h
    · simp [h]; omega
    · subst h; simp [cmpInts_zero]
    · rw [if_neg (by omega), if_pos h]; simp; omega
theorem cmp_beq (a b : List Int) : (cmpInts a b == 0) = decide (a = b) := by
  rw [Bool.eq_iff_iff]; simp [cmpInts_zero]
theorem cmp_bne (a b : List Int) : (cmpInts a b != 0) = !decide (a = b) := by rw [bne, cmp_beq]
attribute [go_sem] beq_self_eq_true bne_self_eq_false Bool.and_self Bool.true_and Bool.false_and Bool.and_true Bool.and_false Bool.not_true Bool.not_false Bool.true_or Bool.false_or Bool.or_true Bool.or_false
theorem l3Ints_sat (a b : List Int) (ha : a.length ≤ 9223372036854775807) : Sat Tryz.prog 45 [.one (.im 1 (ints a)), .one (.im 1 (ints b))] [.one (.sc (.int .i64 (cmpInts a b)))] [.one .gone, .one .gone] := by
  refine sat_of_body mixed Tryz.func45 rfl (by kernel_rfl) (by kernel_rfl) (rs := [.tmp 4]) rfl rfl rfl ?_
  simp -implicitDefEqProofs (maxSteps := 2000000) only [go_sem]
  refine awp_loop Nat (fun k => mkSt [(0, .one (.im 1 (ints a))), (1, .one (.im 1 (ints b))), (5, .sc (.int .i64 k))] [] [] 1000)
    (fun k => k ≤ a.length ∧ k ≤ b.length ∧ cmpInts (a.drop k) (b.drop k) = cmpInts a b) (fun k => a.length - k) 0 ⟨by omega, by omega, rfl⟩ (le_st _ _ [] [] _ rfl (by simp -implicitDefEqProofs (maxSteps := 2000000) only [go_sem] <;> rfl) trivial trivial) ?_
  rintro k ⟨h1, h2, h3⟩
  by_cases c1 : k < a.length
  · by_cases c2 : k < b.length
    · rw [drop_cons 0 c1, drop_cons 0 c2] at h3
      simp -implicitDefEqProofs (maxSteps := 2000000) only [go_sem, c1, c2]
      refine cond_split (fun d => ?_) fun d => ?_
      · simp -implicitDefEqProofs (maxSteps := 2000000) only [go_sem]
        rw [← h3, cmpInts, if_pos (by simpa using d)]
      simp -implicitDefEqProofs (maxSteps := 2000000) only [go_sem, c1, c2]
      refine cond_split (fun e => ?_) fun e => ?_
      · simp -implicitDefEqProofs (maxSteps := 2000000) only [go_sem]
        rw [← h3, cmpInts, if_neg (by simpa using d), if_pos (by simpa using e)]
      simp -implicitDefEqProofs (maxSteps := 2000000) only [go_sem]
      rw [i64_succ (by omega)]
      refine ⟨k + 1, ⟨c1, c2, ?_⟩, by omega, (le_st _ _ [] [] _ rfl (by simp -implicitDefEqProofs (maxSteps := 2000000) only [go_sem] <;> rfl) trivial trivial)⟩
      rw [← h3, cmpInts, if_neg (by simpa using d), if_neg (by simpa using e)]
    · obtain rfl : k = b.length := by omega
      rw [drop_cons 0 c1, List.drop_length] at h3
      simp -implicitDefEqProofs (maxSteps := 2000000) only [go_sem, c1, c2]
      refine cond_split (fun d => ?_) fun d => ?_
      · have := of_decide_eq_true d; omega
      simp -implicitDefEqProofs (maxSteps := 2000000) only [go_sem]
      refine cond_split (fun e => ?_) fun e => ?_
      · simp -implicitDefEqProofs (maxSteps := 2000000) only [go_sem]
        rw [← h3, cmpInts]
      · have := of_decide_eq_false e; omega
  · obtain rfl : k = a.length := by omega
    simp -implicitDefEqProofs (maxSteps := 2000000) only [go_sem, c1]
    refine cond_split (fun d => ?_) fun d => ?_
    · simp -implicitDefEqProofs (maxSteps := 2000000) only [go_sem]
      have d := of_decide_eq_true d
      rw [drop_cons 0 d, List.drop_length] at h3
      rw [← h3, cmpInts]
    · simp -implicitDefEqProofs (maxSteps := 2000000) only [go_sem]
      have d := of_decide_eq_false d
      obtain e : a.length = b.length := by omega
      refine cond_split (fun f => ?_) fun f => ?_
      · have := of_decide_eq_true f; omega
      simp -implicitDefEqProofs (maxSteps := 2000000) only [go_sem]
      rw [e, List.drop_length] at h3
      rw [← e, List.drop_length] at h3
      rw [← h3, cmpInts]

/-- Two lists, element by element. -/
theorem eqList_step {a b : List Int} {k : Nat} (h1 : k < a.length) (h2 : k < b.length) (h : a.take k = b.take k) (e : a.getD k 0 = b.getD k 0) : a.take (k + 1) = b.take (k + 1) := by
  rw [take_snoc 0 h1, take_snoc 0 h2, h, e]
theorem eqList_ne {a b : List Int} {k : Nat} (e : a.getD k 0 ≠ b.getD k 0) : a ≠ b := fun h => e (by rw [h])
theorem slicesEqual_sat (a b : List Int) (ha : a.length ≤ 9223372036854775807) : Sat Tryz.prog 48 [.one (.im 1 (ints a)), .one (.im 1 (ints b))] [.one (.sc (.bool (decide (a = b))))] [.one .gone, .one .gone] := by
  refine sat_of_body mixed Tryz.func48 rfl (by kernel_rfl) (by kernel_rfl) (rs := [.tmp 4]) rfl rfl rfl ?_
  simp -implicitDefEqProofs (maxSteps := 2000000) only [go_sem]
  refine cond_split (fun d => ?_) fun d => ?_
  · simp -implicitDefEqProofs (maxSteps := 2000000) only [go_sem]
    have d : ¬ (a.length : Int) = b.length := by simpa using d
    rw [decide_eq_false (fun h => d (by rw [h]))]
  have d : a.length = b.length := cast_ne d
  simp -implicitDefEqProofs (maxSteps := 2000000) only [go_sem]
  refine awp_loop Nat (fun k => mkSt [(0, .one (.im 1 (ints a))), (1, .one (.im 1 (ints b))), (12, .sc (.int .i64 a.length)), (13, .sc (.int .i64 k))] [] [] 1000)
    (fun k => k ≤ a.length ∧ a.take k = b.take k) (fun k => a.length - k) 0 ⟨by omega, rfl⟩ (le_st _ _ [] [] _ rfl (by simp -implicitDefEqProofs (maxSteps := 2000000) only [go_sem] <;> rfl) trivial trivial) ?_
  rintro k ⟨h1, h2⟩
  by_cases c1 : k < a.length
  · have c2 : k < b.length := by omega
    simp -implicitDefEqProofs (maxSteps := 2000000) only [go_sem, c1, c2]
    refine cond_split (fun e => ?_) fun e => ?_
    · simp -implicitDefEqProofs (maxSteps := 2000000) only [go_sem]
      rw [decide_eq_false (eqList_ne (by simpa using e))]
    simp -implicitDefEqProofs (maxSteps := 2000000) only [go_sem]
    rw [i64_succ (by omega)]
    exact ⟨k + 1, ⟨c1, eqList_step c1 c2 h2 (by simpa using e)⟩, by omega, (le_st _ _ [] [] _ rfl (by simp -implicitDefEqProofs (maxSteps := 2000000) only [go_sem] <;> rfl) trivial trivial)⟩
  · simp -implicitDefEqProofs (maxSteps := 2000000) only [go_sem, c1]
    rw [List.take_of_length_le (by omega), List.take_of_length_le (by omega)] at h2
    rw [decide_eq_true h2]
/-- What is left of a measure of size. -/
def szl (a : List Int) (n : Int) : Int := if n - a.length < 0 then -1 else n - a.length
theorem szl_le {a : List Int} {n : Int} (h : -1 ≤ n ∧ n ≤ 1048576) : -1 ≤ szl a n ∧ szl a n ≤ 1048576 := by unfold szl; split <;> omega
theorem szl_len {a : List Int} {n : Int} (h : n ≤ 1048576) (h0 : ¬ szl a n < 0) : a.length ≤ 1048576 := by unfold szl at h0; split at h0 <;> omega
end Go.Proofs.YtedciihjgbkjgacGreatDoor.A


/- DATA OF THE PROGRAM: relations, facts, atoms, edges, constraints, lists of lists. Conditions: none. -/
namespace Go.Proofs.YtedciihjgbkjgacGreatDoor.A
open Go
set_option linter.unusedSimpArgs false
set_option linter.unusedVariables false

theorem frz_map {α : Type} (c c' : α → List Cell) (h : ∀ a, (c a).map Cell.frz = c' a) (l : List α) : frz (l.map c) = l.map c' := by simp [frz, Function.comp_def, h]
theorem rst_map {α : Type} (c c' : α → List Cell) (h : ∀ a, (c a).map Cell.rst = c' a) (l : List α) : rst (l.map c) = l.map c' := by simp [rst, Function.comp_def, h]
theorem stm_map {α : Type} (n : Nat) (c c' : α → List Cell) (h : ∀ a, (c a).map (Cell.stm n) = c' a) (l : List α) : stm n (l.map c) = l.map c' := by simp [stm, Function.comp_def, h]
theorem get_map {α : Type} (d : α) (c : α → List Cell) {l : List α} {i : Nat} (h : i < l.length) : (l.map c).getD i [] = c (l.getD i d) := by
  simp [List.getD_eq_getElem?_getD, h]
theorem stm_append (n : Nat) (a b : Rows) : stm n (a ++ b) = stm n a ++ stm n b := by simp [stm]
theorem stm_set (n : Nat) (a : Rows) (i : Nat) (r : List Cell) : stm n (a.set i r) = (stm n a).set i (r.map (Cell.stm n)) := by simp [stm, List.map_set]
theorem stm_cons (n : Nat) (r : List Cell) (a : Rows) : stm n (r :: a) = r.map (Cell.stm n) :: stm n a := rfl
theorem stm_nil (n : Nat) : stm n [] = [] := rfl
theorem cstm_sc (n : Nat) (v : Value) : Cell.stm n (.sc v) = .sc v := rfl
theorem cstm_sl (n s : Nat) (xs : List Value) : Cell.stm n (.sl (s + 1) xs) = .sl n xs := rfl
theorem cstm_sl0 (n : Nat) (xs : List Value) : Cell.stm n (.sl 0 xs) = .sl 0 xs := rfl
attribute [go_sem] stm_append stm_set stm_cons stm_nil cstm_sc cstm_sl cstm_sl0

/-! #### relations -/
structure Rel where
  name : ByteArray
  ar : Int
  kl : Int
  deriving DecidableEq
instance : Inhabited Rel := ⟨⟨ByteArray.empty, 0, 0⟩⟩
def cRel (x : Rel) : List Cell := [.sc (.string x.name), .sc (.int .i64 x.ar), .sc (.int .i64 x.kl)]
def rels (l : List Rel) : Rows := l.map cRel
theorem rels_length (l : List Rel) : (rels l).length = l.length := by simp [rels]
theorem rels_get {l : List Rel} {i : Nat} (h : i < l.length) : (rels l).getD i [] = [.sc (.string (l.getD i default).name), .sc (.int .i64 (l.getD i default).ar), .sc (.int .i64 (l.getD i default).kl)] := get_map default cRel h
theorem rels_frz (l : List Rel) : frz (rels l) = rels l := frz_map _ _ (fun _ => rfl) l
theorem rels_rst (l : List Rel) : rst (rels l) = rels l := rst_map _ _ (fun _ => rfl) l
theorem rels_stm (n : Nat) (l : List Rel) : stm n (rels l) = rels l := stm_map n _ _ (fun _ => rfl) l
theorem rels_flat (l : List Rel) : flatB (rels l) = true := by simp [flatB, rels, cRel, Cell.flatB]
theorem rels_take (l : List Rel) (k : Nat) : (rels l).take k = rels (l.take k) := by simp [rels]
theorem rels_drop (l : List Rel) (k : Nat) : (rels l).drop k = rels (l.drop k) := by simp [rels]
theorem rels_append (a b : List Rel) : rels a ++ rels b = rels (a ++ b) := by simp [rels]
theorem rels_set (l : List Rel) (i : Nat) (s : ByteArray) (a k : Int) : (rels l).set i [.sc (.string s), .sc (.int .i64 a), .sc (.int .i64 k)] = rels (l.set i ⟨s, a, k⟩) := by simp [rels, List.map_set, cRel]
theorem rels_rep (n : Nat) (s : ByteArray) (a k : Int) : List.replicate n [Cell.sc (.string s), .sc (.int .i64 a), .sc (.int .i64 k)] = rels (List.replicate n ⟨s, a, k⟩) := by simp [rels, cRel]
theorem rels_nil : rels [] = [] := rfl
attribute [go_sem] rels_length rels_get rels_frz rels_rst rels_stm rels_flat rels_take rels_drop rels_append rels_set rels_rep

/-! #### facts and atoms -/
structure RI where
  r : Int
  l : List Int
  deriving DecidableEq
instance : Inhabited RI := ⟨⟨0, []⟩⟩
def cRI (s : Nat) (x : RI) : List Cell := [.sc (.int .i64 x.r), .sl s (iv x.l)]
def ris (s : Nat) (l : List RI) : Rows := l.map (cRI s)
theorem ris_length (s : Nat) (l : List RI) : (ris s l).length = l.length := by simp [ris]
theorem ris_get {s : Nat} {l : List RI} {i : Nat} (h : i < l.length) : (ris s l).getD i [] = [.sc (.int .i64 (l.getD i default).r), .sl s (iv (l.getD i default).l)] := get_map default (cRI s) h
theorem ris_frz (s : Nat) (l : List RI) : frz (ris s l) = ris 0 l := frz_map _ _ (fun _ => rfl) l
theorem ris_rst0 (l : List RI) : rst (ris 0 l) = ris 0 l := rst_map _ _ (fun _ => rfl) l
theorem ris_rst (s : Nat) (l : List RI) : rst (ris (s + 1) l) = ris 1 l := rst_map _ _ (fun _ => rfl) l
theorem ris_stm (n s : Nat) (l : List RI) : stm n (ris (s + 1) l) = ris n l := stm_map n _ _ (fun _ => rfl) l
theorem ris_flat (l : List RI) : flatB (ris 0 l) = true := by simp [flatB, ris, cRI, Cell.flatB]
theorem ris_take (s : Nat) (l : List RI) (k : Nat) : (ris s l).take k = ris s (l.take k) := by simp [ris]
theorem ris_drop (s : Nat) (l : List RI) (k : Nat) : (ris s l).drop k = ris s (l.drop k) := by simp [ris]
theorem ris_append (s : Nat) (a b : List RI) : ris s a ++ ris s b = ris s (a ++ b) := by simp [ris]
theorem ris_snoc (s : Nat) (a : List RI) (r : Int) (l : List Int) : ris s a ++ [[.sc (.int .i64 r), .sl s (iv l)]] = ris s (a ++ [⟨r, l⟩]) := by simp [ris, cRI]
theorem ris_one (s : Nat) (r : Int) (l : List Int) : [[Cell.sc (.int .i64 r), .sl s (iv l)]] = ris s [⟨r, l⟩] := by simp [ris, cRI]
theorem ris_set (s : Nat) (l : List RI) (i : Nat) (r : Int) (x : List Int) : (ris s l).set i [.sc (.int .i64 r), .sl s (iv x)] = ris s (l.set i ⟨r, x⟩) := by simp [ris, List.map_set, cRI]
theorem ris_setCell {s : Nat} {l : List RI} {i : Nat} (x : List Int) (h : i < l.length) : Rows.setCell (ris s l) i 1 (.sl s (iv x)) = ris s (l.set i ⟨(l.getD i default).r, x⟩) := by
  unfold Rows.setCell
  rw [ris_get h]
  exact ris_set s l i _ x
theorem take1 {α : Type} (d x : α) : List.take 1 ((List.replicate 1 d).set 0 x) = [x] := rfl
theorem take2 {α : Type} (d x y : α) : List.take 2 (((List.replicate 2 d).set 0 x).set 1 y) = [x, y] := rfl
attribute [go_sem] take1 take2 List.length_cons List.length_nil
theorem getD_set_same {α : Type} {l : List α} {i : Nat} {x d : α} (h : i < l.length) : (l.set i x).getD i d = x := by
  simp [List.getD_eq_getElem?_getD, h]
theorem ris_rep (s n : Nat) (r : Int) : List.replicate n [Cell.sc (.int .i64 r), .sl s []] = ris s (List.replicate n ⟨r, []⟩) := by simp [ris, cRI, iv]
theorem ris_nil (s : Nat) : ris s [] = [] := rfl
attribute [go_sem] ris_length ris_get ris_frz ris_rst0 ris_rst ris_stm ris_flat ris_take ris_drop ris_append ris_snoc ris_set ris_rep ris_setCell getD_set_same List.set_set

/-! #### lists of lists -/
def cIS (s : Nat) (x : List Int) : List Cell := [.sl s (iv x)]
def iss (s : Nat) (l : List (List Int)) : Rows := l.map (cIS s)
theorem iss_length (s : Nat) (l : List (List Int)) : (iss s l).length = l.length := by simp [iss]
theorem iss_get {s : Nat} {l : List (List Int)} {i : Nat} (h : i < l.length) : (iss s l).getD i [] = [.sl s (iv (l.getD i []))] := get_map [] (cIS s) h
theorem iss_frz (s : Nat) (l : List (List Int)) : frz (iss s l) = iss 0 l := frz_map _ _ (fun _ => rfl) l
theorem iss_rst0 (l : List (List Int)) : rst (iss 0 l) = iss 0 l := rst_map _ _ (fun _ => rfl) l
theorem iss_rst (s : Nat) (l : List (List Int)) : rst (iss (s + 1) l) = iss 1 l := rst_map _ _ (fun _ => rfl) l
theorem iss_stm (n s : Nat) (l : List (List Int)) : stm n (iss (s + 1) l) = iss n l := stm_map n _ _ (fun _ => rfl) l
theorem iss_flat (l : List (List Int)) : flatB (iss 0 l) = true := by simp [flatB, iss, cIS, Cell.flatB]
theorem iss_append (s : Nat) (a b : List (List Int)) : iss s a ++ iss s b = iss s (a ++ b) := by simp [iss]
theorem iss_take (s : Nat) (l : List (List Int)) (k : Nat) : (iss s l).take k = iss s (l.take k) := by simp [iss]
theorem iss_drop (s : Nat) (l : List (List Int)) (k : Nat) : (iss s l).drop k = iss s (l.drop k) := by simp [iss]
theorem iss_set (s : Nat) (l : List (List Int)) (i : Nat) (x : List Int) : (iss s l).set i [.sl s (iv x)] = iss s (l.set i x) := by simp [iss, List.map_set, cIS]
theorem iss_one (s : Nat) (x : List Int) : [[Cell.sl s (iv x)]] = iss s [x] := by simp [iss, cIS]
theorem iss_nil (s : Nat) : iss s [] = [] := rfl
attribute [go_sem] iss_length iss_get iss_frz iss_rst0 iss_rst iss_stm iss_flat iss_append iss_take iss_drop iss_set

/-! #### edges -/
structure Edge where
  a : Int
  b : Int
  deriving DecidableEq
instance : Inhabited Edge := ⟨⟨0, 0⟩⟩
def cEd (x : Edge) : List Cell := [.sc (.int .i64 x.a), .sc (.int .i64 x.b)]
def eds (l : List Edge) : Rows := l.map cEd
theorem eds_length (l : List Edge) : (eds l).length = l.length := by simp [eds]
theorem eds_get {l : List Edge} {i : Nat} (h : i < l.length) : (eds l).getD i [] = [.sc (.int .i64 (l.getD i default).a), .sc (.int .i64 (l.getD i default).b)] := get_map default cEd h
theorem eds_frz (l : List Edge) : frz (eds l) = eds l := frz_map _ _ (fun _ => rfl) l
theorem eds_rst (l : List Edge) : rst (eds l) = eds l := rst_map _ _ (fun _ => rfl) l
theorem eds_stm (n : Nat) (l : List Edge) : stm n (eds l) = eds l := stm_map n _ _ (fun _ => rfl) l
theorem eds_flat (l : List Edge) : flatB (eds l) = true := by simp [flatB, eds, cEd, Cell.flatB]
theorem eds_take (l : List Edge) (k : Nat) : (eds l).take k = eds (l.take k) := by simp [eds]
theorem eds_drop (l : List Edge) (k : Nat) : (eds l).drop k = eds (l.drop k) := by simp [eds]
theorem eds_append (a b : List Edge) : eds a ++ eds b = eds (a ++ b) := by simp [eds]
theorem eds_snoc (l : List Edge) (a b : Int) : eds l ++ [[.sc (.int .i64 a), .sc (.int .i64 b)]] = eds (l ++ [⟨a, b⟩]) := by simp [eds, cEd]
theorem eds_set (l : List Edge) (i : Nat) (a b : Int) : (eds l).set i [.sc (.int .i64 a), .sc (.int .i64 b)] = eds (l.set i ⟨a, b⟩) := by simp [eds, List.map_set, cEd]
theorem eds_rep (n : Nat) (a b : Int) : List.replicate n [Cell.sc (.int .i64 a), .sc (.int .i64 b)] = eds (List.replicate n ⟨a, b⟩) := by simp [eds, cEd]
theorem eds_nil : eds [] = [] := rfl
attribute [go_sem] eds_length eds_get eds_frz eds_rst eds_stm eds_flat eds_take eds_drop eds_append eds_snoc eds_set eds_rep

/-! #### embeddings -/
structure Emb where
  vs : List Int
  fs : List Int
  deriving DecidableEq
instance : Inhabited Emb := ⟨⟨[], []⟩⟩
def cEm (s : Nat) (x : Emb) : List Cell := [.sl s (iv x.vs), .sl s (iv x.fs)]
def ems (s : Nat) (l : List Emb) : Rows := l.map (cEm s)
theorem ems_length (s : Nat) (l : List Emb) : (ems s l).length = l.length := by simp [ems]
theorem ems_get {s : Nat} {l : List Emb} {i : Nat} (h : i < l.length) : (ems s l).getD i [] = [.sl s (iv (l.getD i default).vs), .sl s (iv (l.getD i default).fs)] := get_map default (cEm s) h
theorem ems_frz (s : Nat) (l : List Emb) : frz (ems s l) = ems 0 l := frz_map _ _ (fun _ => rfl) l
theorem ems_rst0 (l : List Emb) : rst (ems 0 l) = ems 0 l := rst_map _ _ (fun _ => rfl) l
theorem ems_rst (s : Nat) (l : List Emb) : rst (ems (s + 1) l) = ems 1 l := rst_map _ _ (fun _ => rfl) l
theorem ems_stm (n s : Nat) (l : List Emb) : stm n (ems (s + 1) l) = ems n l := stm_map n _ _ (fun _ => rfl) l
theorem ems_flat (l : List Emb) : flatB (ems 0 l) = true := by simp [flatB, ems, cEm, Cell.flatB]
theorem ems_take (s : Nat) (l : List Emb) (k : Nat) : (ems s l).take k = ems s (l.take k) := by simp [ems]
theorem ems_drop (s : Nat) (l : List Emb) (k : Nat) : (ems s l).drop k = ems s (l.drop k) := by simp [ems]
theorem ems_append (s : Nat) (a b : List Emb) : ems s a ++ ems s b = ems s (a ++ b) := by simp [ems]
theorem ems_one (s : Nat) (a b : List Int) : [[Cell.sl s (iv a), .sl s (iv b)]] = ems s [⟨a, b⟩] := by simp [ems, cEm]
theorem ems_set (s : Nat) (l : List Emb) (i : Nat) (a b : List Int) : (ems s l).set i [.sl s (iv a), .sl s (iv b)] = ems s (l.set i ⟨a, b⟩) := by simp [ems, List.map_set, cEm]
theorem ems_nil (s : Nat) : ems s [] = [] := rfl
theorem ems_still (s : Nat) (l : List Emb) : stillRows (ems (s + 1) l) = true := by simp [stillRows, ems, cEm, Cell.still]
theorem ems_set0 {s : Nat} {l : List Emb} {i : Nat} (x : List Int) (h : i < l.length) : Rows.setCell (ems s l) i 0 (.sl s (iv x)) = ems s (l.set i ⟨x, (l.getD i default).fs⟩) := by
  unfold Rows.setCell
  rw [ems_get h]
  exact ems_set s l i x _
theorem ems_set1 {s : Nat} {l : List Emb} {i : Nat} (x : List Int) (h : i < l.length) : Rows.setCell (ems s l) i 1 (.sl s (iv x)) = ems s (l.set i ⟨(l.getD i default).vs, x⟩) := by
  unfold Rows.setCell
  rw [ems_get h]
  exact ems_set s l i _ x
attribute [go_sem] ems_length ems_get ems_frz ems_rst0 ems_rst ems_stm ems_flat ems_take ems_drop ems_append ems_set ems_set0 ems_set1
theorem takeL1 (s : List Int) (x : Int) : List.take (s.length + 1) (s ++ [x]) = s ++ [x] := List.take_of_length_le (by simp)
attribute [go_sem] takeL1

theorem str_beq (a b : ByteArray) : (a.toList == b.toList) = decide (a = b) := by
  rw [ByteArray.toList_eq, ByteArray.toList_eq, Bool.eq_iff_iff, decide_eq_true_iff, beq_iff_eq]
  exact ⟨fun h => Go.WideShapes.bytes_inj h, fun h => by rw [h]⟩
theorem i64_pred {j : Nat} (h : j < 9223372036854775807) : IntKind.i64.wrap (((j + 1 : Nat) : Int) - 1) = (j : Int) := by
  rw [IntWalk.i64_in _ (by omega)]; omega
attribute [go_sem] str_beq
theorem tr_and {ops : List Oper} {tr : List Tr} {c : Prop} (h : trOk ops tr = true) (hc : c) : trOk ops tr = true ∧ c := ⟨h, hc⟩
theorem tr_only {ops : List Oper} {tr : List Tr} (h : trOk ops tr = true) : trOk ops tr = true := h
theorem callOk_still {handed lent : List Nat} {res upd : List LV} (h : (lent.all (fun i => !handed.contains i) && decide handed.Nodup) = true) (h2 : (res.all LV.still && upd.all LV.still) = true) : (callOk handed lent res upd && decide handed.Nodup) = true := by
  rw [Bool.and_eq_true] at h
  unfold callOk
  rw [h.1, h.2, h2]
  simp
theorem ris_still (s : Nat) (l : List RI) : stillRows (ris (s + 1) l) = true := by simp [stillRows, ris, cRI, Cell.still]
theorem eds_still (l : List Edge) : stillRows (eds l) = true := by simp [stillRows, eds, cEd, Cell.still]
theorem rels_still (l : List Rel) : stillRows (rels l) = true := by simp [stillRows, rels, cRel, Cell.still]
theorem iss_still (s : Nat) (l : List (List Int)) : stillRows (iss (s + 1) l) = true := by simp [stillRows, iss, cIS, Cell.still]
theorem le_st' {st : St} (slots : List (Nat × AV)) (vars : List (Nat × List SV)) (obs : List OE) (fro : List Nat) (next : Nat)
    (hs : eachL (fun p : Nat × AV => leAV st obs fro (st.slots p.1) p.2) slots) (hv : eachL (fun p : Nat × List SV => leVar st obs fro (st.vars p.1) p.2) vars) (ho : eachL (OE.okay st next) obs) (hn : namesOk slots vars obs fro next = true) :
    Le st (mkSt slots vars (obs.map fun e => (e.new, (e.w, e.rows))) next) := le_st slots vars obs fro next hn hs hv ho
abbrev lInt (n : Int) : LV := .one (.sc (.int .i64 n))
abbrev lBool (b : Bool) : LV := .one (.sc (.bool b))
abbrev lStr (s : ByteArray) : LV := .one (.sc (.string s))
abbrev lInts (a : List Int) : LV := .one (.im 1 (ints a))
abbrev oInts (a : List Int) : LV := .one (.ow 1 (ints a))
abbrev lISS (a : List (List Int)) : LV := .one (.im 1 (iss 0 a))
abbrev oISS (a : List (List Int)) : LV := .one (.ow 1 (iss 1 a))
abbrev lRels (a : List Rel) : LV := .one (.im 3 (rels a))
abbrev oRels (a : List Rel) : LV := .one (.ow 3 (rels a))
abbrev lRel (a : Rel) : LV := .agg [.sc (.string a.name), .sc (.int .i64 a.ar), .sc (.int .i64 a.kl)]
abbrev lRI (a : RI) : LV := .agg [.sc (.int .i64 a.r), .im 1 (ints a.l)]
abbrev oRI (a : RI) : LV := .agg [.sc (.int .i64 a.r), .ow 1 (ints a.l)]
abbrev lRIs (a : List RI) : LV := .one (.im 2 (ris 0 a))
abbrev oRIs (a : List RI) : LV := .one (.ow 2 (ris 1 a))
abbrev lEds (a : List Edge) : LV := .one (.im 2 (eds a))
abbrev oEds (a : List Edge) : LV := .one (.ow 2 (eds a))
structure Db where
  rels : List Rel
  facts : List RI
  deriving DecidableEq
structure Qu where
  vc : Int
  atoms : List RI
  free : List Int
  deriving DecidableEq
abbrev lDb (d : Db) : LV := .agg [.im 3 (A.rels d.rels), .im 2 (ris 0 d.facts)]
abbrev oDb (d : Db) : LV := .agg [.ow 3 (A.rels d.rels), .ow 2 (ris 1 d.facts)]
abbrev lQu (q : Qu) : LV := .agg [.sc (.int .i64 q.vc), .im 2 (ris 0 q.atoms), .im 1 (ints q.free)]
abbrev oQu (q : Qu) : LV := .agg [.sc (.int .i64 q.vc), .ow 2 (ris 1 q.atoms), .ow 1 (ints q.free)]
abbrev uQu (q : Qu) : LV := .agg [.gone, .ow 2 (ris 1 q.atoms), .ow 1 (ints q.free)]
abbrev uRI (a : RI) : LV := .agg [.gone, .ow 1 (ints a.l)]
abbrev sQu (q : Qu) : List SV := [.sc (.int .i64 q.vc), .im 2 (ris 0 q.atoms), .im 1 (ints q.free)]
abbrev sDb (d : Db) : List SV := [.im 3 (A.rels d.rels), .im 2 (ris 0 d.facts)]
abbrev sRI (a : RI) : List SV := [.sc (.int .i64 a.r), .im 1 (ints a.l)]
abbrev g1 : LV := .one .gone
abbrev g2 : LV := .agg [.gone, .gone]
abbrev g3 : LV := .agg [.gone, .gone, .gone]
end Go.Proofs.YtedciihjgbkjgacGreatDoor.A


/- ATOMS AND QUERIES: size, copy, comparison. Conditions: none. -/
namespace Go.Proofs.YtedciihjgbkjgacGreatDoor.A
open Go
set_option linter.unusedSimpArgs false
set_option linter.unusedVariables false
set_option maxRecDepth 100000

/-! #### measures of size -/
def szF {α : Type} (f : α → Int → Int) : List α → Int → Int
  | [], n => n
  | a :: l, n => if f a n < 0 then -1 else szF f l (f a n)
def szAll {α : Type} (f : α → Int → Int) (l : List α) (n : Int) : Int := if n - l.length < 0 then -1 else szF f l (n - l.length)
def SzOk {α : Type} (f : α → Int → Int) (P : α → Prop) : Prop := ∀ a n, -1 ≤ n ∧ n ≤ 1048576 → (-1 ≤ f a n ∧ f a n ≤ 1048576) ∧ (¬ f a n < 0 → P a)
theorem szF_ok {α : Type} {f : α → Int → Int} {P : α → Prop} (h : SzOk f P) : ∀ (l : List α) (n : Int), -1 ≤ n ∧ n ≤ 1048576 → (-1 ≤ szF f l n ∧ szF f l n ≤ 1048576) ∧ (¬ szF f l n < 0 → ∀ a ∈ l, P a)
  | [], n, hn => ⟨hn, fun _ => by simp⟩
  | a :: l, n, hn => by
    unfold szF
    have h1 := h a n hn
    split
    · exact ⟨by omega, fun h => absurd (by omega) h⟩
    · rename_i c
      have h2 := szF_ok h l (f a n) h1.1
      exact ⟨h2.1, fun h3 => by simp only [List.mem_cons, forall_eq_or_imp]; exact ⟨h1.2 c, h2.2 h3⟩⟩
theorem szAll_ok {α : Type} {f : α → Int → Int} {P : α → Prop} (h : SzOk f P) : SzOk (szAll f) (fun l => l.length ≤ 1048576 ∧ ∀ a ∈ l, P a) := by
  intro l n hn
  unfold szAll
  split
  · exact ⟨by omega, fun h => absurd (by omega) h⟩
  · have h2 := szF_ok h l (n - l.length) (by omega)
    exact ⟨h2.1, fun h3 => ⟨by omega, h2.2 h3⟩⟩
theorem szl_ok : SzOk szl (fun a => a.length ≤ 1048576) := fun a n h => ⟨szl_le h, fun c => szl_len h.2 c⟩
def szRI (a : RI) (n : Int) : Int := szl a.l n
def RI.ok (a : RI) : Prop := a.l.length ≤ 1048576
def RI.fit (a : RI) : Prop := a.l.length ≤ 9223372036854775807
theorem szRI_ok : SzOk szRI RI.ok := fun a n h => szl_ok a.l n h

theorem mem_getD {α : Type} {l : List α} {k : Nat} (d : α) (h : k < l.length) : l.getD k d ∈ l := by
  rw [List.getD_eq_getElem?_getD, List.getElem?_eq_getElem h]; exact List.getElem_mem h
def szQu (q : Qu) (n : Int) : Int := if szAll szRI q.atoms n < 0 then -1 else szl q.free (szAll szRI q.atoms n)
def Qu.ok (q : Qu) : Prop := (q.atoms.length ≤ 1048576 ∧ ∀ x ∈ q.atoms, x.ok) ∧ q.free.length ≤ 1048576
def Qu.fit (q : Qu) : Prop := (q.atoms.length ≤ 9223372036854775807 ∧ ∀ x ∈ q.atoms, x.fit) ∧ q.free.length ≤ 9223372036854775807
theorem RI.ok.fit {a : RI} (h : a.ok) : a.fit := by unfold RI.ok at h; unfold RI.fit; omega
theorem Qu.ok.fit {q : Qu} (h : q.ok) : q.fit := by
  unfold Qu.ok at h; unfold Qu.fit
  exact ⟨⟨by omega, fun x hx => (h.1.2 x hx).fit⟩, by omega⟩
theorem szQu_ok : SzOk szQu Qu.ok := by
  intro q n h
  unfold szQu Qu.ok
  have h1 := szAll_ok szRI_ok q.atoms n h
  split
  · exact ⟨by omega, fun h => absurd (by omega) h⟩
  · rename_i c
    have h2 := szl_ok q.free _ h1.1
    exact ⟨h2.1, fun h3 => ⟨h1.2 c, h2.2 h3⟩⟩
theorem RI.eq_iff (a b : RI) : decide (a = b) = (decide (a.r = b.r) && decide (a.l = b.l)) := by cases a; cases b; simp
theorem Qu.eq_iff (a b : Qu) : decide (a = b) = (decide (a.vc = b.vc) && (decide (a.atoms = b.atoms) && decide (a.free = b.free))) := by cases a; cases b; simp
theorem list_step {α : Type} (d : α) {a b : List α} {k : Nat} (h1 : k < a.length) (h2 : k < b.length) (h : a.take k = b.take k) (e : a.getD k d = b.getD k d) : a.take (k + 1) = b.take (k + 1) := by
  rw [take_snoc d h1, take_snoc d h2, h, e]
theorem list_ne {α : Type} {d : α} {a b : List α} {k : Nat} (e : a.getD k d ≠ b.getD k d) : a ≠ b := fun h => e (by rw [h])
end Go.Proofs.YtedciihjgbkjgacGreatDoor.A


/- WHAT A LAW READS: reading into structures of mine. Conditions: none. -/
namespace Go.Proofs.YtedciihjgbkjgacGreatDoor.A
open Go Go.ChangeShapes Go.WideShapes Go.ChangeAt Go.RowKit
set_option linter.unusedVariables false
variable {H : Type} {enc : TypeId × Value → H} {P : Program} {W : World}
theorem okWide_slice_ne {t e : TypeId} (ht : P.underlying t = some (.slice e)) {r : Reach} {base : Nat} {v : Value} (h : Value.okWide P W r base t v) : ∀ cs, v ≠ .agg cs := by
  obtain ⟨a, l, c, rfl⟩ := okWide_slice ht h
  intro cs h
  cases h
theorem readsC_map {t : TypeId} {α β : Type} {row : α → List Cell} {row' : β → List Cell} {g : α → Prop} {g' : β → Prop} (h : ReadsC enc P W t row g) (f : α → β) (h1 : ∀ a, row' (f a) = row a) (h2 : ∀ a, g a → g' (f a)) : ReadsC enc P W t row' g' := by
  intro n cs x hx
  obtain ⟨a, ha, hr⟩ := h n cs x hx
  exact ⟨f a, h2 a ha, by rw [h1]; exact hr⟩
theorem readsL_ints {t e : TypeId} (ht : P.underlying t = some (.slice e)) (hc : P.cellsOf e = 1) (he : P.underlying e = some (.int .i64)) : ReadsL enc P W t (fun a : List Int => Leaf.im 1 (ints a)) (fun a => a.length ≤ 9223372036854775807) := by
  intro n v x h
  obtain ⟨l, h1, h2⟩ := readsL_slice ht hc (by omega) (fun _ => rfl) (readsC_int he) n v x h
  exact ⟨l, h1.1, fun k => by show LeafRep W (lab0 W) k (Leaf.im 1 (ints l)) v; rw [ints_eq]; exact h2 k⟩
theorem readsL_rows {t e : TypeId} {w : Nat} {α : Type} {row : α → List Cell} {g : α → Prop} (h : ReadsC enc P W e row g) (ht : P.underlying t = some (.slice e)) (hc : P.cellsOf e = w) (hw : 0 < w) (hrow : ∀ a, (row a).length = w) (rows : List α → Rows) (hr : ∀ l, rows l = l.map row) : ReadsL enc P W t (fun l : List α => Leaf.im w (rows l)) (fun l => l.length ≤ 9223372036854775807 ∧ ∀ a ∈ l, g a) := by
  intro n v x hx
  obtain ⟨l, h1, h2⟩ := readsL_slice ht hc hw hrow h n v x hx
  exact ⟨l, h1, fun k => by show LeafRep W (lab0 W) k (Leaf.im w (rows l)) v; rw [hr]; exact h2 k⟩
end Go.Proofs.YtedciihjgbkjgacGreatDoor.A


/- MARKS AND MEMBERS: lists of numbers that a law writes and reads back. Conditions: none. -/
namespace Go.Proofs.YtedciihjgbkjgacGreatDoor.A
open Go
set_option linter.unusedSimpArgs false
set_option linter.unusedVariables false
set_option maxRecDepth 100000

theorem i64_plus {k : Int} {i : Nat} (h0 : 0 ≤ k) (h : k + i < 9223372036854775807) : IntKind.i64.wrap (k + i + 1) = k + ((i + 1 : Nat) : Int) := by
  rw [IntWalk.i64_in _ (by omega)]; omega
theorem plus0 (k : Int) : k + ((0 : Nat) : Int) = k := by simp
attribute [go_sem] Int.add_zero Int.ofNat_zero
/-- The numbers from k on. -/
def cnt : Int → Nat → List Int
  | _, 0 => []
  | k, n + 1 => k :: cnt (k + 1) n
theorem cnt_length : ∀ (k : Int) (n : Nat), (cnt k n).length = n
  | _, 0 => rfl
  | k, n + 1 => by rw [cnt, List.length_cons, cnt_length]
theorem cnt_get : ∀ {k : Int} {n i : Nat}, i < n → (cnt k n).getD i 0 = k + i
  | k, n + 1, 0, _ => by simp [cnt]
  | k, n + 1, i + 1, h => by
    rw [cnt, List.getD_cons_succ, cnt_get (by omega)]; omega
theorem cnt_full (k : Int) (n : Nat) : List.take n (cnt k n) = cnt k n := List.take_of_length_le (by rw [cnt_length]; omega)
attribute [go_sem] cnt_full
/-- Where a number stands in a list, or -1. -/
def posI (x : Int) : List Int → Nat → Int
  | [], _ => -1
  | a :: l, k => if a = x then k else posI x l (k + 1)
theorem posI_mem (x : Int) : ∀ (l : List Int) (k : Nat), decide (0 ≤ posI x l k) = decide (x ∈ l)
  | [], k => by simp [posI]
  | a :: l, k => by
    unfold posI
    split
    · rename_i h; subst h; simp
    · rename_i h
      rw [posI_mem x l (k + 1)]
      have : ¬ x = a := fun e => h e.symm
      simp [this]
end Go.Proofs.YtedciihjgbkjgacGreatDoor.A


/- THE LIBRARY'S Max AT NUMBERS, of this program. Conditions: none. -/
namespace Go.Proofs.YtedciihjgbkjgacGreatDoor.A
open Go Go.Shelf
set_option linter.unusedVariables false
set_option maxRecDepth 100000
def laysMax_ren : Go.Shelf.Ren := ⟨fun | 113 => 20 | n => n, fun | 0 => 0 | 3 => 3 | 4 => 4 | 9 => 9 | 20 => 20 | 28 => 26 | n => n, fun n => n⟩
theorem laysMax : Lays.n113 Tryz.prog laysMax_ren where
  mixed := by kernel_rfl
  f113 := Tryz.func20.trans (congrArg some (by kernel_rfl))
  t0 := Tryz.underlying0
  a0 := Tryz.isAgg0
  z0 := Tryz.sizeOf0
  v0 := Tryz.zeroValue0
  t3 := Tryz.underlying3
  a3 := Tryz.isAgg3
  z3 := Tryz.sizeOf3
  v3 := Tryz.zeroValue3
  t4 := Tryz.underlying4
  a4 := Tryz.isAgg4
  z4 := Tryz.sizeOf4
  v4 := Tryz.zeroValue4
  t9 := Tryz.underlying9
  a9 := Tryz.isAgg9
  z9 := Tryz.sizeOf9
  v9 := Tryz.zeroValue9
  t20 := Tryz.underlying20
  a20 := Tryz.isAgg20
  z20 := Tryz.sizeOf20
  v20 := Tryz.zeroValue20
  t28 := Tryz.underlying26
  a28 := Tryz.isAgg26
  z28 := Tryz.sizeOf26
  v28 := Tryz.zeroValue26
theorem max_calls (b n c : Nat) (zs : List Int) (w : World) (hn : 0 < n) (hz : n ≤ zs.length) (hbig : n ≤ 9223372036854775807) (hc : ∀ j, j < zs.length → w.cell? ⟨b, 0 + j, none⟩ = some (.int .i64 (zs.getD j 0))) :
    Calls Tryz.prog 20 #[.slice (some ⟨b, 0, none⟩) n c] w fun e w' => e = .returned (.int .i64 (Lib.maxOf (zs.take n))) ∧ w' = w :=
  Any.slices_Max_int laysMax b 0 n c zs w hn hz hbig hc
end Go.Proofs.YtedciihjgbkjgacGreatDoor.A


/- THE LIBRARY'S JOIN OF STRINGS, of this program. Conditions: none. -/
namespace Go.Proofs.YtedciihjgbkjgacGreatDoor.A
open Go Go.Shelf
set_option linter.unusedVariables false
set_option maxRecDepth 100000
def laysJoin_ren : Go.Shelf.Ren := ⟨fun | 156 => 22 | 165 => 55 | 166 => 56 | 169 => 57 | 240 => 77 | 241 => 78 | 276 => 94 | 277 => 95 | n => n, fun | 0 => 0 | 5 => 5 | 80 => 92 | 3 => 3 | 4 => 4 | 9 => 9 | 20 => 20 | 31 => 47 | 37 => 22 | 70 => 84 | 72 => 86 | 75 => 89 | 76 => 90 | 127 => 109 | 164 => 117 | n => n, fun n => n⟩
theorem laysJoin : Lays.n156 Tryz.prog laysJoin_ren where
  mixed := by kernel_rfl
  f156 := Tryz.func22.trans (congrArg some (by kernel_rfl))
  f165 := Tryz.func55.trans (congrArg some (by kernel_rfl))
  f166 := Tryz.func56.trans (congrArg some (by kernel_rfl))
  f169 := Tryz.func57.trans (congrArg some (by kernel_rfl))
  f240 := Tryz.func77.trans (congrArg some (by kernel_rfl))
  f241 := Tryz.func78.trans (congrArg some (by kernel_rfl))
  f276 := Tryz.func94.trans (congrArg some (by kernel_rfl))
  f277 := Tryz.func95.trans (congrArg some (by kernel_rfl))
  t0 := Tryz.underlying0
  a0 := Tryz.isAgg0
  z0 := Tryz.sizeOf0
  v0 := Tryz.zeroValue0
  t3 := Tryz.underlying3
  a3 := Tryz.isAgg3
  z3 := Tryz.sizeOf3
  v3 := Tryz.zeroValue3
  t4 := Tryz.underlying4
  a4 := Tryz.isAgg4
  z4 := Tryz.sizeOf4
  v4 := Tryz.zeroValue4
  t9 := Tryz.underlying9
  a9 := Tryz.isAgg9
  z9 := Tryz.sizeOf9
  v9 := Tryz.zeroValue9
  t20 := Tryz.underlying20
  a20 := Tryz.isAgg20
  z20 := Tryz.sizeOf20
  v20 := Tryz.zeroValue20
  t31 := Tryz.underlying47
  a31 := Tryz.isAgg47
  z31 := Tryz.sizeOf47
  v31 := Tryz.zeroValue47
  t37 := Tryz.underlying22
  a37 := Tryz.isAgg22
  z37 := Tryz.sizeOf22
  v37 := Tryz.zeroValue22
  t70 := Tryz.underlying84
  a70 := Tryz.isAgg84
  z70 := Tryz.sizeOf84
  v70 := Tryz.zeroValue84
  t72 := Tryz.underlying86
  a72 := Tryz.isAgg86
  z72 := Tryz.sizeOf86
  v72 := Tryz.zeroValue86
  t75 := Tryz.underlying89
  a75 := Tryz.isAgg89
  z75 := Tryz.sizeOf89
  v75 := Tryz.zeroValue89
  t76 := Tryz.underlying90
  a76 := Tryz.isAgg90
  z76 := Tryz.sizeOf90
  v76 := Tryz.zeroValue90
  t127 := Tryz.underlying109
  a127 := Tryz.isAgg109
  z127 := Tryz.sizeOf109
  v127 := Tryz.zeroValue109
  t164 := Tryz.underlying117
  a164 := Tryz.isAgg117
  z164 := Tryz.sizeOf117
  v164 := Tryz.zeroValue117
theorem extraJoin : Builder.Extra Tryz.prog laysJoin_ren where
  sizeBuilder := by kernel_rfl
  liesBuilder := by kernel_rfl
  t5 := Tryz.underlying5
  a5 := Tryz.isAgg5
  z5 := Tryz.sizeOf5
  v5 := Tryz.zeroValue5
  infoByte := by kernel_rfl
  cellsByte := by kernel_rfl
  sizeByte := by kernel_rfl
  neB5 := by decide
def tvs (a : List ByteArray) : List Value := a.map Value.string
def sts (a : List ByteArray) : Rows := lift (tvs a)
theorem tvs_length (a : List ByteArray) : (tvs a).length = a.length := by simp [tvs]
theorem sts_length (a : List ByteArray) : (sts a).length = a.length := by simp [sts, lift, tvs]
theorem sts_eq (a : List ByteArray) : sts a = a.map fun n => [Cell.sc (.string n)] := by simp [sts, lift, tvs]
theorem sts_get {a : List ByteArray} {i : Nat} (h : i < a.length) : (sts a).getD i [] = [Cell.sc (.string (a.getD i default))] := by
  simp [sts_eq, List.getD_eq_getElem?_getD, h]
theorem sts_frz (a : List ByteArray) : frz (sts a) = sts a := frz_lift _
theorem sts_rst (a : List ByteArray) : rst (sts a) = sts a := rst_lift _
theorem sts_stm (n : Nat) (a : List ByteArray) : stm n (sts a) = sts a := stm_lift n _
theorem sts_flat (a : List ByteArray) : flatB (sts a) = true := lift_flatB _
theorem sts_unlift (a : List ByteArray) : lift (unlift (sts a)) = sts a := by unfold sts; rw [unlift_lift]
theorem sts_take (a : List ByteArray) (k : Nat) : (sts a).take k = sts (a.take k) := by simp [sts_eq]
theorem sts_drop (a : List ByteArray) (k : Nat) : (sts a).drop k = sts (a.drop k) := by simp [sts_eq]
theorem sts_append (a b : List ByteArray) : sts a ++ sts b = sts (a ++ b) := by simp [sts_eq]
theorem sts_one (n : ByteArray) : [[Cell.sc (.string n)]] = sts [n] := by simp [sts_eq]
theorem sts_nil : sts [] = [] := rfl
theorem sts_still (a : List ByteArray) : stillRows (sts a) = true := by simp [stillRows, sts_eq, Cell.still]
theorem lift_tvs (a : List ByteArray) : lift (tvs a) = sts a := rfl
attribute [go_sem] lift_tvs tvs_length sts_length sts_get sts_frz sts_rst sts_stm sts_flat sts_unlift sts_take sts_drop sts_append sts_one
abbrev lStrs (xs : List ByteArray) : LV := .one (.im 1 (sts xs))
abbrev oStrs (xs : List ByteArray) : LV := .one (.ow 1 (sts xs))
theorem stringsJoin_sat (xs : List ByteArray) (sep : ByteArray) (hx : xs.length ≤ 140737488355328) (hl : (joinB xs sep).size ≤ 140737488355328) : Sat Tryz.prog 22 [lStrs xs, .one (.sc (.string sep))] [.one (.sc (.string (joinB xs sep)))] [g1, g1] :=
  join_sat Tryz.func22 rfl (by kernel_rfl) (Any.strings_Join_none laysJoin extraJoin) (Any.strings_Join laysJoin extraJoin) xs sep hx hl
end Go.Proofs.YtedciihjgbkjgacGreatDoor.A


/- TEXTS JOINED. Conditions: none. -/
namespace Go.Proofs.YtedciihjgbkjgacGreatDoor.A
open Go
set_option linter.unusedSimpArgs false
set_option linter.unusedVariables false
set_option maxRecDepth 100000

/-! #### texts joined -/
abbrev noB : ByteArray := ⟨#[]⟩
abbrev spB : ByteArray := ⟨#[32]⟩
theorem bytes_eq {a b : ByteArray} (h : a.data.toList = b.data.toList) : a = b := Go.WideShapes.bytes_inj h
theorem app_data (a b : ByteArray) : (a ++ b).data.toList = a.data.toList ++ b.data.toList := by
  rw [ByteArray.data_append, Array.toList_append]
theorem size_data (a : ByteArray) : a.size = a.data.toList.length := (Array.length_toList ..).symm
theorem app_size (a b : ByteArray) : (a ++ b).size = a.size + b.size := by rw [size_data, size_data, size_data, app_data, List.length_append]
theorem joinB_data (xs : List ByteArray) (sep : ByteArray) : (joinB xs sep).data.toList = Lib.join (xs.map (·.data.toList)) sep.data.toList := by simp [joinB]
theorem joinB_nil (sep : ByteArray) : joinB [] sep = noB := bytes_eq (by rw [joinB_data]; rfl)
theorem joinB_one (x sep : ByteArray) : joinB [x] sep = x := bytes_eq (by rw [joinB_data, List.map_cons, List.map_nil, Lib.join_one])
theorem joinB_snoc {xs : List ByteArray} (h : xs ≠ []) (y sep : ByteArray) : joinB (xs ++ [y]) sep = joinB xs sep ++ sep ++ y := by
  obtain ⟨x, r, rfl⟩ := List.exists_cons_of_ne_nil h
  apply bytes_eq
  rw [app_data, app_data, joinB_data, joinB_data, List.cons_append, List.map_cons, List.map_cons, Lib.join_cons, Lib.join_cons]
  simp [Lib.joinTail, List.append_assoc]
theorem joinB_size (sep : ByteArray) (m : Nat) : ∀ (xs : List ByteArray), (∀ x ∈ xs, x.size ≤ m) → (joinB xs sep).size ≤ xs.length * (m + sep.size) := by
  intro xs h
  rcases xs with _ | ⟨x, r⟩
  · rw [joinB_nil]; exact Nat.zero_le _
  have hr : ∀ r : List ByteArray, (∀ x ∈ r, x.size ≤ m) → (Lib.joinTail sep.data.toList (r.map (·.data.toList))).length ≤ r.length * (m + sep.size) := by
    intro r
    induction r with
    | nil => intro _; simp [Lib.joinTail]
    | cons y r ih =>
      intro h
      have h1 := ih fun x hx => h x (List.mem_cons_of_mem _ hx)
      have h2 := h y (List.mem_cons_self ..)
      have e : Lib.joinTail sep.data.toList ((y :: r).map (·.data.toList)) = sep.data.toList ++ y.data.toList ++ Lib.joinTail sep.data.toList (r.map (·.data.toList)) := by simp [Lib.joinTail]
      rw [e, List.length_append, List.length_append, ← size_data, ← size_data, List.length_cons, Nat.add_mul, Nat.one_mul]
      omega
  have h1 := hr r fun x hx => h x (List.mem_cons_of_mem _ hx)
  have h2 := h x (List.mem_cons_self ..)
  rw [size_data, joinB_data, List.map_cons, Lib.join_cons, List.length_append, ← size_data, List.length_cons, Nat.add_mul, Nat.one_mul]
  omega
theorem noB_ne {a : ByteArray} (h : 0 < a.size) : a ≠ noB := by
  rintro rfl
  exact absurd h (by decide)

theorem app_noB (a : ByteArray) : a ++ noB = a := bytes_eq (by rw [app_data]; simp)
theorem noB_app (a : ByteArray) : noB ++ a = a := bytes_eq (by rw [app_data]; rfl)
theorem app_ass (a b c : ByteArray) : a ++ b ++ c = a ++ (b ++ c) := bytes_eq (by simp [app_data])
/-- Texts side by side. -/
def catB (xs : List ByteArray) : ByteArray := joinB xs noB
theorem catB_nil : catB [] = noB := joinB_nil _
theorem catB_snoc (xs : List ByteArray) (y : ByteArray) : catB (xs ++ [y]) = catB xs ++ y := by
  unfold catB
  by_cases h : xs = []
  · subst h; rw [List.nil_append, joinB_one, joinB_nil, noB_app]
  · rw [joinB_snoc h, app_noB]
theorem catB_size {xs : List ByteArray} {m : Nat} (h : ∀ x ∈ xs, x.size ≤ m) : (catB xs).size ≤ xs.length * m := by
  have := joinB_size noB m xs h
  rw [show (noB : ByteArray).size = 0 from rfl, Nat.add_zero] at this
  exact this
end Go.Proofs.YtedciihjgbkjgacGreatDoor.A


/- THE LIBRARY'S IndexByte AND Itoa, of this program. Conditions: none. -/
namespace Go.Proofs.YtedciihjgbkjgacGreatDoor.A
open Go Go.Shelf
set_option linter.unusedVariables false
set_option maxRecDepth 100000
def laysIdxB_ren : Go.Shelf.Ren := ⟨fun | 137 => 74 | 217 => 87 | 266 => 108 | n => n, fun | 3 => 3 | 5 => 5 | 9 => 9 | n => n, fun n => n⟩
theorem laysIdxB : Lays.n137 Tryz.prog laysIdxB_ren where
  mixed := by kernel_rfl
  f137 := Tryz.func74.trans (congrArg some (by kernel_rfl))
  f217 := Tryz.func87.trans (congrArg some (by kernel_rfl))
  f266 := Tryz.func108.trans (congrArg some (by kernel_rfl))
  t3 := Tryz.underlying3
  a3 := Tryz.isAgg3
  z3 := Tryz.sizeOf3
  v3 := Tryz.zeroValue3
  t5 := Tryz.underlying5
  a5 := Tryz.isAgg5
  z5 := Tryz.sizeOf5
  v5 := Tryz.zeroValue5
  t9 := Tryz.underlying9
  a9 := Tryz.isAgg9
  z9 := Tryz.sizeOf9
  v9 := Tryz.zeroValue9
theorem stringsIndexByte_sat (s : ByteArray) (c : Int) : Sat Tryz.prog 74 [lStr s, .one (.sc (.int .u8 c))] [lInt (Lib.indexByte s.data.toList c.toNat.toUInt8)] [g1, g1] :=
  pure2_sat Tryz.func74 rfl (by kernel_rfl) _ _ _ (Any.strings_IndexByte laysIdxB s c)
def laysItoa_ren : Go.Shelf.Ren := ⟨fun | 129 => 107 | 171 => 96 | 243 => 113 | 246 => 121 | 283 => 123 | 284 => 124 | 285 => 125 | 286 => 126 | 317 => 127 | 318 => 128 | 319 => 129 | 320 => 130 | 337 => 131 | 338 => 132 | n => n, fun | 0 => 0 | 2 => 2 | 3 => 3 | 4 => 4 | 5 => 5 | 9 => 9 | 20 => 20 | 37 => 22 | 46 => 111 | 51 => 129 | 53 => 131 | 171 => 152 | 173 => 154 | 212 => 157 | 213 => 158 | 232 => 159 | 233 => 160 | n => n, fun | 17 => 3 | 18 => 4 | 19 => 5 | n => n⟩
theorem laysItoa : Lays.n171 Tryz.prog laysItoa_ren where
  mixed := by kernel_rfl
  f129 := Tryz.func107.trans (congrArg some (by kernel_rfl))
  f171 := Tryz.func96.trans (congrArg some (by kernel_rfl))
  f243 := Tryz.func113.trans (congrArg some (by kernel_rfl))
  f246 := Tryz.func121.trans (congrArg some (by kernel_rfl))
  f283 := Tryz.func123.trans (congrArg some (by kernel_rfl))
  f284 := Tryz.func124.trans (congrArg some (by kernel_rfl))
  f285 := Tryz.func125.trans (congrArg some (by kernel_rfl))
  f286 := Tryz.func126.trans (congrArg some (by kernel_rfl))
  f317 := Tryz.func127.trans (congrArg some (by kernel_rfl))
  f318 := Tryz.func128.trans (congrArg some (by kernel_rfl))
  f319 := Tryz.func129.trans (congrArg some (by kernel_rfl))
  f320 := Tryz.func130.trans (congrArg some (by kernel_rfl))
  f337 := Tryz.func131.trans (congrArg some (by kernel_rfl))
  f338 := Tryz.func132.trans (congrArg some (by kernel_rfl))
  t0 := Tryz.underlying0
  a0 := Tryz.isAgg0
  z0 := Tryz.sizeOf0
  v0 := Tryz.zeroValue0
  t2 := Tryz.underlying2
  a2 := Tryz.isAgg2
  z2 := Tryz.sizeOf2
  v2 := Tryz.zeroValue2
  t3 := Tryz.underlying3
  a3 := Tryz.isAgg3
  z3 := Tryz.sizeOf3
  v3 := Tryz.zeroValue3
  t4 := Tryz.underlying4
  a4 := Tryz.isAgg4
  z4 := Tryz.sizeOf4
  v4 := Tryz.zeroValue4
  t5 := Tryz.underlying5
  a5 := Tryz.isAgg5
  z5 := Tryz.sizeOf5
  v5 := Tryz.zeroValue5
  t9 := Tryz.underlying9
  a9 := Tryz.isAgg9
  z9 := Tryz.sizeOf9
  v9 := Tryz.zeroValue9
  t20 := Tryz.underlying20
  a20 := Tryz.isAgg20
  z20 := Tryz.sizeOf20
  v20 := Tryz.zeroValue20
  t37 := Tryz.underlying22
  a37 := Tryz.isAgg22
  z37 := Tryz.sizeOf22
  v37 := Tryz.zeroValue22
  t46 := Tryz.underlying111
  a46 := Tryz.isAgg111
  z46 := Tryz.sizeOf111
  v46 := Tryz.zeroValue111
  t51 := Tryz.underlying129
  a51 := Tryz.isAgg129
  z51 := Tryz.sizeOf129
  v51 := Tryz.zeroValue129
  t53 := Tryz.underlying131
  a53 := Tryz.isAgg131
  z53 := Tryz.sizeOf131
  v53 := Tryz.zeroValue131
  t171 := Tryz.underlying152
  a171 := Tryz.isAgg152
  z171 := Tryz.sizeOf152
  v171 := Tryz.zeroValue152
  t173 := Tryz.underlying154
  a173 := Tryz.isAgg154
  z173 := Tryz.sizeOf154
  v173 := Tryz.zeroValue154
  t212 := Tryz.underlying157
  a212 := Tryz.isAgg157
  z212 := Tryz.sizeOf157
  v212 := Tryz.zeroValue157
  t213 := Tryz.underlying158
  a213 := Tryz.isAgg158
  z213 := Tryz.sizeOf158
  t232 := Tryz.underlying159
  a232 := Tryz.isAgg159
  z232 := Tryz.sizeOf159
  v232 := Tryz.zeroValue159
  t233 := Tryz.underlying160
  a233 := Tryz.isAgg160
  z233 := Tryz.sizeOf160
  v233 := Tryz.zeroValue160
  g17 := by kernel_rfl
  g18 := by kernel_rfl
  g19 := by kernel_rfl
theorem strconvItoa_sat (i : Nat) (hi : i < 100) : Sat Tryz.prog 96 [lInt i] [lStr ⟨(Lib.decDigits i).toArray⟩] [g1] :=
  pure1_sat Tryz.func96 rfl (by kernel_rfl) _ _ (Any.strconv_Itoa_small laysItoa i hi)
end Go.Proofs.YtedciihjgbkjgacGreatDoor.A


/- A CONSTANT's TERM, as the program has it. Conditions: none. -/
namespace Go.Proofs.YtedciihjgbkjgacGreatDoor.A
open Go
set_option linter.unusedSimpArgs false
set_option linter.unusedVariables false
set_option maxRecDepth 100000
theorem constantT_sat (t : Int) (h : -1000 ≤ t ∧ t ≤ 1000) : Sat Tryz.prog 75 [lInt t] [lInt (-1 - t)] [g1] := by
  refine sat_of_body mixed Tryz.func75 rfl (by kernel_rfl) (by kernel_rfl) (rs := [.tmp 2]) rfl rfl rfl ?_
  have w : IntKind.i64.wrap (-1 - t) = -1 - t := IntWalk.i64_in _ (by omega)
  simp -implicitDefEqProofs (maxSteps := 2000000) only [go_sem, w]
  first | done | rfl | exact ⟨rfl, rfl⟩ | exact ⟨rfl, rfl, rfl⟩ | (refine tr_and ?_ ?_ <;> first | rfl | exact ⟨rfl, rfl⟩ | kernel_rfl)
end Go.Proofs.YtedciihjgbkjgacGreatDoor.A


/- MARKS OF ATOMS AND QUERIES. Conditions: none. -/
namespace Go.Proofs.YtedciihjgbkjgacGreatDoor.A
open Go
set_option linter.unusedSimpArgs false
set_option linter.unusedVariables false
set_option maxRecDepth 100000

/-- How many numbers stand in rows. -/
def numRI : List RI → Nat
  | [] => 0
  | a :: l => 1 + a.l.length + numRI l
theorem numRI_nil : numRI [] = 0 := rfl
attribute [go_sem] numRI_nil
def markRI : List RI → Int → List RI
  | [], _ => []
  | a :: l, k => ⟨k, cnt (k + 1) a.l.length⟩ :: markRI l (k + 1 + a.l.length)
theorem markRI_length : ∀ (a : List RI) (k : Int), (markRI a k).length = a.length
  | [], _ => rfl
  | a :: l, k => by rw [markRI, List.length_cons, List.length_cons, markRI_length]
theorem numRI_take {a : List RI} {i : Nat} (h : i < a.length) : numRI (a.take (i + 1)) = numRI (a.take i) + 1 + (a.getD i default).l.length := by
  induction a generalizing i with
  | nil => simp at h
  | cons x a ih =>
    cases i with
    | zero => simp [numRI]
    | succ i =>
      have := ih (i := i) (by simpa using h)
      rw [List.take_succ_cons, List.take_succ_cons, numRI, numRI, this, List.getD_cons_succ]; omega
theorem numRI_le : ∀ {a : List RI} (i : Nat), numRI (a.take i) ≤ numRI a
  | [], i => by simp [numRI]
  | x :: a, 0 => by simp [numRI]
  | x :: a, i + 1 => by
    rw [List.take_succ_cons, numRI, numRI]
    have := numRI_le (a := a) i
    omega
theorem numRI_ok : ∀ {a : List RI}, (∀ x ∈ a, x.ok) → numRI a ≤ a.length * 1048577
  | [], _ => by simp [numRI]
  | x :: a, h => by
    have h1 := numRI_ok (a := a) fun y hy => h y (List.mem_cons_of_mem _ hy)
    have h2 := h x (List.mem_cons_self ..)
    unfold RI.ok at h2
    rw [numRI, List.length_cons]; omega
theorem markRI_get : ∀ {a : List RI} {k : Int} {i : Nat}, i < a.length → (markRI a k).getD i default = ⟨k + numRI (a.take i), cnt (k + numRI (a.take i) + 1) (a.getD i default).l.length⟩
  | x :: a, k, 0, _ => by simp [markRI, numRI]
  | x :: a, k, i + 1, h => by
    rw [markRI, List.getD_cons_succ, markRI_get (by simpa using h), List.getD_cons_succ, List.take_succ_cons, numRI]
    have e : k + 1 + (x.l.length : Int) + (numRI (a.take i) : Int) = k + ((1 + x.l.length + numRI (a.take i) : Nat) : Int) := by omega
    rw [e]
theorem drop_get {α : Type} {d : α} {a b : List α} {i : Nat} (hl : b.length = a.length) (h : b.drop i = a.drop i) (hi : i < a.length) : b.getD i d = a.getD i d := by
  rw [drop_cons d (by omega), drop_cons d hi] at h
  exact (List.cons.inj h).1
theorem drop_set {α : Type} {a b : List α} {i : Nat} (x : α) (h : b.drop i = a.drop i) : (b.set i x).drop (i + 1) = a.drop (i + 1) := by
  rw [List.drop_set_of_lt (by omega), ← List.drop_drop, ← List.drop_drop, h]
theorem take_set_to {α : Type} {a b : List α} {i : Nat} {x d : α} (hl : b.length = a.length) (h : b.take i = a.take i) (hi : i < a.length) (hx : a.getD i d = x) : (b.set i x).take (i + 1) = a.take (i + 1) := by
  rw [← hx]; exact take_set_snoc d hl h hi
def numQu (q : Qu) : Nat := numRI q.atoms + q.free.length
def markQu (q : Qu) (k : Int) : Qu := ⟨q.vc, markRI q.atoms k, cnt (k + numRI q.atoms) q.free.length⟩
theorem numQu_ok {q : Qu} (h : q.ok) : numQu q ≤ 1048577 * 1048577 := by
  have h1 := numRI_ok h.1.2
  have h2 := h.2
  have h3 := h.1.1
  unfold numQu
  have : q.atoms.length * 1048577 ≤ 1048576 * 1048577 := Nat.mul_le_mul_right _ h3
  omega
end Go.Proofs.YtedciihjgbkjgacGreatDoor.A


/- RELATIONS, FACTS AND DATABASES: size, copy, comparison, marks. Conditions: none. -/
namespace Go.Proofs.YtedciihjgbkjgacGreatDoor.A
open Go
set_option linter.unusedSimpArgs false
set_option linter.unusedVariables false
set_option maxRecDepth 100000

def szRel (a : Rel) (n : Int) : Int := if n - a.name.size < 0 then -1 else n - a.name.size
def Rel.ok (a : Rel) : Prop := a.name.size ≤ 1048576
def Rel.fit (a : Rel) : Prop := a.name.size ≤ 9223372036854775807
theorem szRel_ok : SzOk szRel Rel.ok := by
  intro a n h
  unfold szRel Rel.ok
  split
  · exact ⟨by omega, fun h => absurd (by omega) h⟩
  · exact ⟨by omega, fun h => by omega⟩
theorem Rel.eq_iff (a b : Rel) : decide (a = b) = (decide (a.name = b.name) && (decide (a.ar = b.ar) && decide (a.kl = b.kl))) := by cases a; cases b; simp
def szDb (d : Db) (n : Int) : Int := if szAll szRel d.rels n < 0 then -1 else szAll szRI d.facts (szAll szRel d.rels n)
def Db.ok (d : Db) : Prop := (d.rels.length ≤ 1048576 ∧ ∀ x ∈ d.rels, x.ok) ∧ (d.facts.length ≤ 1048576 ∧ ∀ x ∈ d.facts, x.ok)
def Db.fit (d : Db) : Prop := (d.rels.length ≤ 9223372036854775807 ∧ ∀ x ∈ d.rels, x.fit) ∧ (d.facts.length ≤ 9223372036854775807 ∧ ∀ x ∈ d.facts, x.fit)
theorem Rel.ok.fit {a : Rel} (h : a.ok) : a.fit := by unfold Rel.ok at h; unfold Rel.fit; omega
theorem Db.ok.fit {d : Db} (h : d.ok) : d.fit := by
  unfold Db.ok at h; unfold Db.fit
  exact ⟨⟨by omega, fun x hx => (h.1.2 x hx).fit⟩, by omega, fun x hx => (h.2.2 x hx).fit⟩
theorem szDb_ok : SzOk szDb Db.ok := by
  intro d n h
  unfold szDb Db.ok
  have h1 := szAll_ok szRel_ok d.rels n h
  split
  · exact ⟨by omega, fun h => absurd (by omega) h⟩
  · rename_i c
    have h2 := szAll_ok szRI_ok d.facts _ h1.1
    exact ⟨h2.1, fun h3 => ⟨h1.2 c, h2.2 h3⟩⟩
theorem Db.eq_iff (a b : Db) : decide (a = b) = (decide (a.rels = b.rels) && decide (a.facts = b.facts)) := by cases a; cases b; simp
end Go.Proofs.YtedciihjgbkjgacGreatDoor.A


/- VALID RELATIONS, FACTS AND DATABASES. Conditions: none. -/
namespace Go.Proofs.YtedciihjgbkjgacGreatDoor.A
open Go
set_option linter.unusedSimpArgs false
set_option linter.unusedVariables false
set_option maxRecDepth 100000

/-- Does something hold of all numbers below k. -/
def upTo (p : Nat → Bool) : Nat → Bool
  | 0 => true
  | k + 1 => upTo p k && p k
theorem upTo_false {p : Nat → Bool} {n k : Nat} (h : k < n) (hp : p k = false) : upTo p n = false := by
  induction n with
  | zero => omega
  | succ n ih =>
    unfold upTo
    by_cases e : k = n
    · subst e; simp [hp]
    · rw [ih (by omega)]; rfl
theorem upTo_step {p : Nat → Bool} {k : Nat} (h : upTo p k = true) (hp : p k = true) : upTo p (k + 1) = true := by rw [upTo, h, hp]; rfl
theorem upTo_at {p : Nat → Bool} {n k : Nat} (h : upTo p n = true) (hk : k < n) : p k = true := by
  rcases hp : p k
  · rw [upTo_false hk hp] at h; cases h
  · rfl
def inB (x a b : Int) : Bool := decide (a ≤ x) && decide (x ≤ b)
theorem inB_sat (x a b : Int) : Sat Tryz.prog 37 [lInt x, lInt a, lInt b] [lBool (inB x a b)] [g1, g1, g1] := l1In_sat x a b
theorem inW_sat (x a b : Int) : Sat Tryz.prog 39 [lInt x, lInt a, lInt b] [lBool (inB x a b)] [g1, g1, g1] := within_sat x a b
theorem inB_of {x a b : Int} (h : inB x a b = true) : a ≤ x ∧ x ≤ b := by
  unfold inB at h
  simpa using h
abbrev n0 (r : Rel) : Int := ((r.name.data.toList.getD 0 0).toNat : Int)
def goodRel (r : Rel) : Bool := ((r.name.size : Int) == 1) && (decide (n0 r ≥ 97) && (decide (n0 r ≤ 122) && (inB r.ar 1 3 && inB r.kl 0 r.ar)))
theorem specIsValidRelation_sat (r : Rel) : Sat Tryz.prog 67 [lRel r] [lBool (goodRel r)] [g3] := by
  refine sat_of_body mixed Tryz.func67 rfl (by kernel_rfl) (by kernel_rfl) (rs := [.tmp 2]) rfl rfl rfl ?_
  unfold goodRel
  rcases d1 : ((r.name.size : Int) == 1)
  · simp -implicitDefEqProofs (maxSteps := 2000000) only [go_sem, d1]
  have s1 : 0 < r.name.size := by have := eq_of_beq d1; omega
  rcases d2 : decide (n0 r ≥ 97)
  · simp -implicitDefEqProofs (maxSteps := 2000000) only [go_sem, d1, d2, s1]
  rcases d3 : decide (n0 r ≤ 122)
  · simp -implicitDefEqProofs (maxSteps := 2000000) only [go_sem, d1, d2, d3, s1]
  simp -implicitDefEqProofs (maxSteps := 2000000) only [go_sem, d1, d2, d3, s1]
  rcases d4 : inB r.ar 1 3
  · refine call_of (inB_sat r.ar 1 3) (by simp -implicitDefEqProofs (maxSteps := 2000000) only [go_sem, d4]) (by kernel_rfl) (by simp -implicitDefEqProofs (maxSteps := 2000000) only [go_sem, d4]) ?_
    simp -implicitDefEqProofs (maxSteps := 2000000) only [go_sem, d4]
  · refine call_of (inB_sat r.ar 1 3) (by simp -implicitDefEqProofs (maxSteps := 2000000) only [go_sem, d4]) (by kernel_rfl) (by simp -implicitDefEqProofs (maxSteps := 2000000) only [go_sem, d4]) ?_
    simp -implicitDefEqProofs (maxSteps := 2000000) only [go_sem, d4]
    refine call_of (inB_sat r.kl 0 r.ar) (by simp -implicitDefEqProofs (maxSteps := 2000000) only [go_sem]) (by kernel_rfl) (by simp -implicitDefEqProofs (maxSteps := 2000000) only [go_sem]) ?_
    simp -implicitDefEqProofs (maxSteps := 2000000) only [go_sem]
theorem implIsValidRelation_sat (r : Rel) : Sat Tryz.prog 68 [lRel r] [lBool (goodRel r)] [g3] := by
  refine sat_of_body mixed Tryz.func68 rfl (by kernel_rfl) (by kernel_rfl) (rs := [.tmp 2]) rfl rfl rfl ?_
  unfold goodRel
  rcases d1 : ((r.name.size : Int) == 1)
  · simp -implicitDefEqProofs (maxSteps := 2000000) only [go_sem, d1]
  have s1 : 0 < r.name.size := by have := eq_of_beq d1; omega
  rcases d2 : decide (n0 r ≥ 97)
  · simp -implicitDefEqProofs (maxSteps := 2000000) only [go_sem, d1, d2, s1]
  rcases d3 : decide (n0 r ≤ 122)
  · simp -implicitDefEqProofs (maxSteps := 2000000) only [go_sem, d1, d2, d3, s1]
  simp -implicitDefEqProofs (maxSteps := 2000000) only [go_sem, d1, d2, d3, s1]
  rcases d4 : inB r.ar 1 3
  · refine call_of (inW_sat r.ar 1 3) (by simp -implicitDefEqProofs (maxSteps := 2000000) only [go_sem, d4]) (by kernel_rfl) (by simp -implicitDefEqProofs (maxSteps := 2000000) only [go_sem, d4]) ?_
    simp -implicitDefEqProofs (maxSteps := 2000000) only [go_sem, d4]
  · refine call_of (inW_sat r.ar 1 3) (by simp -implicitDefEqProofs (maxSteps := 2000000) only [go_sem, d4]) (by kernel_rfl) (by simp -implicitDefEqProofs (maxSteps := 2000000) only [go_sem, d4]) ?_
    simp -implicitDefEqProofs (maxSteps := 2000000) only [go_sem, d4]
    refine call_of (inW_sat r.kl 0 r.ar) (by simp -implicitDefEqProofs (maxSteps := 2000000) only [go_sem]) (by kernel_rfl) (by simp -implicitDefEqProofs (maxSteps := 2000000) only [go_sem]) ?_
    simp -implicitDefEqProofs (maxSteps := 2000000) only [go_sem]
/-- Is the i-th relation valid, and behind the one before it. -/
def relOk (l : List Rel) (i : Nat) : Bool := goodRel (l.getD i default) && (decide (i = 0) || Op.bytesLess (l.getD (i - 1) default).name.toList (l.getD i default).name.toList)
def goodRels (l : List Rel) : Bool := upTo (relOk l) l.length && decide ((l.length : Int) ≤ 4)
theorem specAreValidRelations_sat (l : List Rel) (h : l.length ≤ 9223372036854775807) : Sat Tryz.prog 36 [lRels l] [lBool (goodRels l)] [g1] := by
  refine sat_of_body mixed Tryz.func36 rfl (by kernel_rfl) (by kernel_rfl) (rs := [.tmp 2]) rfl rfl rfl ?_
  simp -implicitDefEqProofs (maxSteps := 2000000) only [go_sem]
  refine awp_loop Nat (fun k => mkSt [(0, .one (.im 3 (rels l))), (3, .sc (.int .i64 k))] [] [] 1000)
    (fun k => k ≤ l.length ∧ upTo (relOk l) k = true) (fun k => l.length - k) 0 ⟨by omega, rfl⟩ (le_st _ _ [] [] _ rfl (by simp -implicitDefEqProofs (maxSteps := 2000000) only [go_sem] <;> rfl) trivial trivial) ?_
  rintro k ⟨h1, h2⟩
  by_cases c1 : k < l.length
  · rcases d1 : goodRel (l.getD k default)
    · have e : relOk l k = false := by rw [relOk, d1]; rfl
      rw [show goodRels l = false by rw [goodRels, upTo_false c1 e]; rfl]
      simp -implicitDefEqProofs (maxSteps := 2000000) only [go_sem, c1]
      refine call_of (specIsValidRelation_sat (l.getD k default)) (by simp -implicitDefEqProofs (maxSteps := 2000000) only [go_sem, d1, c1]) (by kernel_rfl) (by simp -implicitDefEqProofs (maxSteps := 2000000) only [go_sem, d1, c1]) ?_
      simp -implicitDefEqProofs (maxSteps := 2000000) only [go_sem, d1, c1]
    rcases k with _ | j
    · have e : relOk l 0 = true := by rw [relOk, d1]; rfl
      have c0 : (0 : Int) < l.length := by omega
      simp -implicitDefEqProofs (maxSteps := 2000000) only [go_sem, c1, c0]
      refine call_of (specIsValidRelation_sat (l.getD 0 default)) (by simp -implicitDefEqProofs (maxSteps := 2000000) only [go_sem, d1, c1, c0]) (by kernel_rfl) (by simp -implicitDefEqProofs (maxSteps := 2000000) only [go_sem, d1, c1, c0]) ?_
      simp -implicitDefEqProofs (maxSteps := 2000000) only [go_sem, d1, c1, c0]
      exact ⟨1, ⟨c1, upTo_step h2 e⟩, by omega, (le_st _ _ [] [] _ rfl (by simp -implicitDefEqProofs (maxSteps := 2000000) only [go_sem] <;> rfl) trivial trivial)⟩
    · have c2 : j < l.length := by omega
      have c3 : 0 < ((j + 1 : Nat) : Int) := by omega
      have w1 := i64_pred (j := j) (by omega)
      rcases d2 : Op.bytesLess (l.getD j default).name.toList (l.getD (j + 1) default).name.toList
      · have e : relOk l (j + 1) = false := by rw [relOk, d1, Nat.add_sub_cancel, d2]; rfl
        rw [show goodRels l = false by rw [goodRels, upTo_false c1 e]; rfl]
        simp -implicitDefEqProofs (maxSteps := 2000000) only [go_sem, c1]
        refine call_of (specIsValidRelation_sat (l.getD (j + 1) default)) (by simp -implicitDefEqProofs (maxSteps := 2000000) only [go_sem, d1, d2, c1, c2, c3, w1]) (by kernel_rfl) (by simp -implicitDefEqProofs (maxSteps := 2000000) only [go_sem, d1, d2, c1, c2, c3, w1]) ?_
        simp -implicitDefEqProofs (maxSteps := 2000000) only [go_sem, d1, d2, c1, c2, c3, w1]
      · have e : relOk l (j + 1) = true := by rw [relOk, d1, Nat.add_sub_cancel, d2]; rfl
        simp -implicitDefEqProofs (maxSteps := 2000000) only [go_sem, c1]
        refine call_of (specIsValidRelation_sat (l.getD (j + 1) default)) (by simp -implicitDefEqProofs (maxSteps := 2000000) only [go_sem, d1, d2, c1, c2, c3, w1]) (by kernel_rfl) (by simp -implicitDefEqProofs (maxSteps := 2000000) only [go_sem, d1, d2, c1, c2, c3, w1]) ?_
        simp -implicitDefEqProofs (maxSteps := 2000000) only [go_sem, d1, d2, c1, c2, c3, w1]
        rw [i64_succ (by omega)]
        exact ⟨j + 1 + 1, ⟨c1, upTo_step h2 e⟩, by omega, (le_st _ _ [] [] _ rfl (by simp -implicitDefEqProofs (maxSteps := 2000000) only [go_sem] <;> rfl) trivial trivial)⟩
  · obtain rfl : k = l.length := by omega
    simp -implicitDefEqProofs (maxSteps := 2000000) only [go_sem, c1]
    rw [goodRels, h2]
    rfl
theorem implAreValidRelations_sat (l : List Rel) (h : l.length ≤ 9223372036854775807) : Sat Tryz.prog 38 [lRels l] [lBool (goodRels l)] [g1] := by
  refine sat_of_body mixed Tryz.func38 rfl (by kernel_rfl) (by kernel_rfl) (rs := [.tmp 2]) rfl rfl rfl ?_
  simp -implicitDefEqProofs (maxSteps := 2000000) only [go_sem]
  refine awp_loop Nat (fun k => mkSt [(0, .one (.im 3 (rels l))), (5, .one (.im 3 (rels l))), (6, .sc (.int .i64 l.length)), (7, .sc (.int .i64 k))] [] [] 1000)
    (fun k => k ≤ l.length ∧ upTo (relOk l) k = true) (fun k => l.length - k) 0 ⟨by omega, rfl⟩ (le_st _ _ [] [] _ rfl (by simp -implicitDefEqProofs (maxSteps := 2000000) only [go_sem] <;> rfl) trivial trivial) ?_
  rintro k ⟨h1, h2⟩
  by_cases c1 : k < l.length
  · rcases d1 : goodRel (l.getD k default)
    · have e : relOk l k = false := by rw [relOk, d1]; rfl
      rw [show goodRels l = false by rw [goodRels, upTo_false c1 e]; rfl]
      simp -implicitDefEqProofs (maxSteps := 2000000) only [go_sem, c1]
      refine call_of (implIsValidRelation_sat (l.getD k default)) (by simp -implicitDefEqProofs (maxSteps := 2000000) only [go_sem, d1, c1]) (by kernel_rfl) (by simp -implicitDefEqProofs (maxSteps := 2000000) only [go_sem, d1, c1]) ?_
      simp -implicitDefEqProofs (maxSteps := 2000000) only [go_sem, d1, c1]
    rcases k with _ | j
    · have e : relOk l 0 = true := by rw [relOk, d1]; rfl
      have c0 : (0 : Int) < l.length := by omega
      simp -implicitDefEqProofs (maxSteps := 2000000) only [go_sem, c1, c0]
      refine call_of (implIsValidRelation_sat (l.getD 0 default)) (by simp -implicitDefEqProofs (maxSteps := 2000000) only [go_sem, d1, c1, c0]) (by kernel_rfl) (by simp -implicitDefEqProofs (maxSteps := 2000000) only [go_sem, d1, c1, c0]) ?_
      simp -implicitDefEqProofs (maxSteps := 2000000) only [go_sem, d1, c1, c0]
      exact ⟨1, ⟨c1, upTo_step h2 e⟩, by omega, (le_st _ _ [] [] _ rfl (by simp -implicitDefEqProofs (maxSteps := 2000000) only [go_sem] <;> rfl) trivial trivial)⟩
    · have c2 : j < l.length := by omega
      have c3 : 0 < ((j + 1 : Nat) : Int) := by omega
      have w1 := i64_pred (j := j) (by omega)
      rcases d2 : Op.bytesLess (l.getD j default).name.toList (l.getD (j + 1) default).name.toList
      · have e : relOk l (j + 1) = false := by rw [relOk, d1, Nat.add_sub_cancel, d2]; rfl
        rw [show goodRels l = false by rw [goodRels, upTo_false c1 e]; rfl]
        simp -implicitDefEqProofs (maxSteps := 2000000) only [go_sem, c1]
        refine call_of (implIsValidRelation_sat (l.getD (j + 1) default)) (by simp -implicitDefEqProofs (maxSteps := 2000000) only [go_sem, d1, d2, c1, c2, c3, w1]) (by kernel_rfl) (by simp -implicitDefEqProofs (maxSteps := 2000000) only [go_sem, d1, d2, c1, c2, c3, w1]) ?_
        simp -implicitDefEqProofs (maxSteps := 2000000) only [go_sem, d1, d2, c1, c2, c3, w1]
      · have e : relOk l (j + 1) = true := by rw [relOk, d1, Nat.add_sub_cancel, d2]; rfl
        simp -implicitDefEqProofs (maxSteps := 2000000) only [go_sem, c1]
        refine call_of (implIsValidRelation_sat (l.getD (j + 1) default)) (by simp -implicitDefEqProofs (maxSteps := 2000000) only [go_sem, d1, d2, c1, c2, c3, w1]) (by kernel_rfl) (by simp -implicitDefEqProofs (maxSteps := 2000000) only [go_sem, d1, d2, c1, c2, c3, w1]) ?_
        simp -implicitDefEqProofs (maxSteps := 2000000) only [go_sem, d1, d2, c1, c2, c3, w1]
        rw [i64_succ (by omega)]
        exact ⟨j + 1 + 1, ⟨c1, upTo_step h2 e⟩, by omega, (le_st _ _ [] [] _ rfl (by simp -implicitDefEqProofs (maxSteps := 2000000) only [go_sem] <;> rfl) trivial trivial)⟩
  · obtain rfl : k = l.length := by omega
    simp -implicitDefEqProofs (maxSteps := 2000000) only [go_sem, c1]
    rw [goodRels, h2]
    rfl
/-- The first number below which something fails, or -1. -/
def firstNo (p : Nat → Bool) : Nat → Nat → Int
  | 0, _ => -1
  | n + 1, k => if p k then firstNo p n (k + 1) else k
theorem firstNo_ge (p : Nat → Bool) : ∀ (n k : Nat), upTo p k = true → decide (firstNo p n k ≥ 0) = !upTo p (k + n)
  | 0, k, h => by rw [Nat.add_zero, h]; rfl
  | n + 1, k, h => by
    unfold firstNo
    split
    · rename_i e
      rw [firstNo_ge p n (k + 1) (upTo_step h e), show k + 1 + n = k + (n + 1) by omega]
    · rename_i e
      rw [upTo_false (k := k) (by omega) (by simpa using e)]
      exact decide_eq_true (by omega)
def valOk (l : List Int) (i : Nat) : Bool := inB (l.getD i 0) 0 9
def goodFact (l : List Rel) (f : RI) : Bool := inB f.r 0 ((l.length : Int) - 1) && (((f.l.length : Int) == (l.getD f.r.toNat default).ar) && upTo (valOk f.l) f.l.length)
end Go.Proofs.YtedciihjgbkjgacGreatDoor.A


/- TERMS AND THEIR TEXTS. Conditions: none. -/
namespace Go.Proofs.YtedciihjgbkjgacGreatDoor.A
open Go
set_option linter.unusedSimpArgs false
set_option linter.unusedVariables false
set_option maxRecDepth 100000

/-- A term's letter: a digit of a constant, the name of a variable. -/
def letT (t : Int) : UInt8 := if t < 0 then (47 - t).toNat.toUInt8 else if t = 0 then 120 else if t = 1 then 121 else if t = 2 then 122 else 119
def isT (t : Int) : Bool := inB t (-10) 3
def fmtT (t : Int) : ByteArray := if isT t then ⟨#[letT t]⟩ else ⟨#[]⟩
def digT (v : Int) : ByteArray := ⟨#[(48 + v).toNat.toUInt8]⟩
theorem isT_cases {t : Int} (h : isT t = true) : ∃ n : Nat, n < 14 ∧ t = (n : Int) - 10 := by
  have := inB_of h
  exact ⟨(t + 10).toNat, by omega, by omega⟩

theorem byt_eq {a b : ByteArray} (h : a.data.toList = b.data.toList) : a = b := Go.WideShapes.bytes_inj h
theorem byt_app (a b : ByteArray) : (a ++ b).data.toList = a.data.toList ++ b.data.toList := by
  rw [ByteArray.data_append, Array.toList_append]
theorem byt_nil (a : ByteArray) : a ++ (⟨#[]⟩ : ByteArray) = a := byt_eq (by rw [byt_app]; simp)
theorem byteD {v : Nat} (h : v ≤ 9) : IntKind.u8.wrap (IntKind.i64.wrap (48 + (v : Int))) = (((48 + (v : Int)).toNat.toUInt8).toNat : Int) := by
  have key : ∀ v : Fin 10, IntKind.u8.wrap (IntKind.i64.wrap (48 + ((v.val : Nat) : Int))) = (((48 + ((v.val : Nat) : Int)).toNat.toUInt8).toNat : Int) := by decide
  exact key ⟨v, by omega⟩
theorem specFormatInt_sat (v : Nat) (h : v ≤ 9) : Sat Tryz.prog 82 [lInt v] [lStr (digT v)] [g1] := by
  refine sat_of_body mixed Tryz.func82 rfl (by kernel_rfl) (by kernel_rfl) (rs := [.tmp 2]) rfl rfl rfl ?_
  by_cases c0 : v = 0
  · subst c0
    simp -implicitDefEqProofs (maxSteps := 2000000) only [go_sem]
    first | done | rfl | exact ⟨rfl, rfl⟩ | exact ⟨rfl, rfl, rfl⟩ | (refine tr_and ?_ ?_ <;> first | rfl | exact ⟨rfl, rfl⟩ | kernel_rfl)
  have d0 : (((v : Nat) : Int) == 0) = false := by rw [beq_eq_false_iff_ne]; omega
  have d2 : (((v : Nat) : Int) != 0) = true := by rw [bne, d0]; rfl
  have d1 : decide (((v : Nat) : Int) < 0) = false := by rw [decide_eq_false_iff_not]; omega
  simp -implicitDefEqProofs (maxSteps := 2000000) only [go_sem, d0, d1]
  refine awp_loop Nat (fun k => mkSt [(0, .sc (.int .i64 (if k = 0 then (v : Int) else 0))), (3, .sc (.string (if k = 0 then ⟨#[]⟩ else digT v))), (4, .sc (.bool false))] [] [] 3000)
    (fun k => k ≤ 1) (fun k => 1 - k) 0 (by omega) (le_st _ _ [] [] _ rfl (by simp -implicitDefEqProofs (maxSteps := 2000000) only [go_sem, d0, d1] <;> rfl) (by simp -implicitDefEqProofs (maxSteps := 2000000) only [go_sem, d0, d1] <;> rfl) (by simp -implicitDefEqProofs (maxSteps := 2000000) only [go_sem, d0, d1] <;> rfl)) ?_
  rintro k h1
  rcases k with _ | _ | k
  · have e1 : Int.tmod ((v : Nat) : Int) 10 = v := by rw [Int.tmod_eq_emod_of_nonneg (by omega)]; omega
    have e2 : Int.tdiv ((v : Nat) : Int) 10 = 0 := by rw [Int.tdiv_eq_ediv_of_nonneg (by omega)]; omega
    simp -implicitDefEqProofs (maxSteps := 2000000) only [go_sem, d0, d1, d2, e1, e2]
    refine ⟨by decide, [(48 + (v : Int)).toNat.toUInt8], by rw [byteD h]; rfl, by simp, by decide, 1, by omega, by omega, ?_⟩
    exact (le_st _ _ [] [] _ rfl (by simp -implicitDefEqProofs (maxSteps := 2000000) only [go_sem, byt_nil, digT] <;> rfl) (by simp -implicitDefEqProofs (maxSteps := 2000000) only [go_sem, byt_nil, digT] <;> rfl) (by simp -implicitDefEqProofs (maxSteps := 2000000) only [go_sem, byt_nil, digT] <;> rfl))
  · simp -implicitDefEqProofs (maxSteps := 2000000) only [go_sem]
    first | done | rfl | exact ⟨rfl, rfl⟩ | exact ⟨rfl, rfl, rfl⟩ | (refine tr_and ?_ ?_ <;> first | rfl | exact ⟨rfl, rfl⟩ | kernel_rfl)
  · omega
theorem wf64 {n : Int} (h : (Lit.int .i64 n).wf = true) : -9223372036854775808 ≤ n ∧ n ≤ 9223372036854775807 := by
  simp only [Lit.wf, Bool.and_eq_true, decide_eq_true_eq] at h
  have e1 : IntKind.i64.min = -9223372036854775808 := by decide
  have e2 : IntKind.i64.max = 9223372036854775807 := by decide
  rw [e1, e2] at h
  exact h
def tvOk (t : Int) : Bool := inB t (-10) (-1)
theorem specTermValue_sat (t : Int) (ht : -9223372036854775808 ≤ t ∧ t ≤ 9223372036854775807) : Sat Tryz.prog 81 [lInt t] [lInt (if tvOk t then -1 - t else 0), lBool (tvOk t)] [g1] := by
  refine sat_of_body mixed Tryz.func81 rfl (by kernel_rfl) (by kernel_rfl) (rs := [.tmp 2, .tmp 3]) rfl rfl rfl ?_
  rcases d1 : decide (t ≥ 0)
  · have d1' := of_decide_eq_false d1
    have w1 : IntKind.i64.wrap (-1 - t) = -1 - t := IntWalk.i64_in _ (by omega)
    have e : inB (-1 - t) 0 9 = tvOk t := by
      unfold inB tvOk inB
      rw [Bool.eq_iff_iff]; simp; omega
    rcases d2 : tvOk t
    · rw [d2] at e
      simp -implicitDefEqProofs (maxSteps := 2000000) only [go_sem, d1, w1]
      refine call_of (inB_sat (-1 - t) 0 9) (by simp -implicitDefEqProofs (maxSteps := 2000000) only [go_sem, d1, w1, e]) (by kernel_rfl) (by simp -implicitDefEqProofs (maxSteps := 2000000) only [go_sem, d1, w1, e]) ?_
      simp -implicitDefEqProofs (maxSteps := 2000000) only [go_sem, d1, w1, e]
      first | done | rfl | exact ⟨rfl, rfl⟩ | exact ⟨rfl, rfl, rfl⟩ | (refine tr_and ?_ ?_ <;> first | rfl | exact ⟨rfl, rfl⟩ | kernel_rfl)
    · rw [d2] at e
      simp -implicitDefEqProofs (maxSteps := 2000000) only [go_sem, d1, w1]
      refine call_of (inB_sat (-1 - t) 0 9) (by simp -implicitDefEqProofs (maxSteps := 2000000) only [go_sem, d1, w1, e]) (by kernel_rfl) (by simp -implicitDefEqProofs (maxSteps := 2000000) only [go_sem, d1, w1, e]) ?_
      simp -implicitDefEqProofs (maxSteps := 2000000) only [go_sem, d1, w1, e]
      first | done | rfl | exact ⟨rfl, rfl⟩ | exact ⟨rfl, rfl, rfl⟩ | (refine tr_and ?_ ?_ <;> first | rfl | exact ⟨rfl, rfl⟩ | kernel_rfl)
  · have d1' := of_decide_eq_true d1
    have d2 : tvOk t = false := by unfold tvOk inB; simp; omega
    rw [d2]
    simp -implicitDefEqProofs (maxSteps := 2000000) only [go_sem, d1]
    first | done | rfl | exact ⟨rfl, rfl⟩ | exact ⟨rfl, rfl, rfl⟩ | (refine tr_and ?_ ?_ <;> first | rfl | exact ⟨rfl, rfl⟩ | kernel_rfl)
theorem letters : ∀ n : Fin 4, fmtT (n.val : Int) = (⟨#[120, 121, 122, 119]⟩ : ByteArray).extract n.val (n.val + 1) := by decide +kernel
theorem specFormatTerm_sat (t : Int) (ht : -9223372036854775808 ≤ t ∧ t ≤ 9223372036854775807) : Sat Tryz.prog 61 [lInt t] [lStr (fmtT t)] [g1] := by
  refine sat_of_body mixed Tryz.func61 rfl (by kernel_rfl) (by kernel_rfl) (rs := [.tmp 2]) rfl rfl rfl ?_
  rcases d1 : tvOk t
  · simp -implicitDefEqProofs (maxSteps := 2000000) only [go_sem]
    refine call_of (specTermValue_sat t ht) (by simp -implicitDefEqProofs (maxSteps := 2000000) only [go_sem, d1]) (by kernel_rfl) (by simp -implicitDefEqProofs (maxSteps := 2000000) only [go_sem, d1]) ?_
    simp -implicitDefEqProofs (maxSteps := 2000000) only [go_sem, d1]
    rcases d2 : inB t 0 3
    · have e : fmtT t = ⟨#[]⟩ := by
        have : isT t = false := by
          unfold isT inB; unfold tvOk inB at d1; unfold inB at d2
          rw [Bool.and_eq_false_iff] at d1 d2 ⊢
          simp only [decide_eq_false_iff_not] at d1 d2 ⊢
          omega
        rw [fmtT, this]; rfl
      rw [e]
      refine call_of (inB_sat t 0 3) (by simp -implicitDefEqProofs (maxSteps := 2000000) only [go_sem, d2]) (by kernel_rfl) (by simp -implicitDefEqProofs (maxSteps := 2000000) only [go_sem, d2]) ?_
      simp -implicitDefEqProofs (maxSteps := 2000000) only [go_sem, d2]
      first | done | rfl | exact ⟨rfl, rfl⟩ | exact ⟨rfl, rfl, rfl⟩ | (refine tr_and ?_ ?_ <;> first | rfl | exact ⟨rfl, rfl⟩ | kernel_rfl)
    · obtain ⟨n, rfl⟩ : ∃ n : Nat, t = n := ⟨t.toNat, by have := inB_of d2; omega⟩
      have hn : n < 4 := by have := inB_of d2; omega
      have w1 : IntKind.i64.wrap ((n : Int) + 1) = ((n + 1 : Nat) : Int) := i64_succ (by omega)
      refine call_of (inB_sat n 0 3) (by simp -implicitDefEqProofs (maxSteps := 2000000) only [go_sem, d2, w1]) (by kernel_rfl) (by simp -implicitDefEqProofs (maxSteps := 2000000) only [go_sem, d2, w1]) ?_
      simp -implicitDefEqProofs (maxSteps := 2000000) only [go_sem, d2, w1]
      refine ⟨by omega, by omega, ?_⟩
      rw [letters ⟨n, hn⟩]
  · obtain ⟨v, hv⟩ : ∃ v : Nat, -1 - t = v := ⟨(-1 - t).toNat, by have := inB_of d1; omega⟩
    have hv9 : v ≤ 9 := by have := inB_of d1; omega
    have e : fmtT t = digT v := by
      have h1 := inB_of d1
      have : isT t = true := by unfold isT inB; simp; omega
      rw [fmtT, this, if_pos rfl, letT, if_pos (by omega), digT, show 48 + (v : Int) = 47 - t by omega]
    rw [e]
    simp -implicitDefEqProofs (maxSteps := 2000000) only [go_sem]
    refine call_of (specTermValue_sat t ht) (by simp -implicitDefEqProofs (maxSteps := 2000000) only [go_sem, d1, hv]) (by kernel_rfl) (by simp -implicitDefEqProofs (maxSteps := 2000000) only [go_sem, d1, hv]) ?_
    simp -implicitDefEqProofs (maxSteps := 2000000) only [go_sem, d1, hv]
    refine call_of (specFormatInt_sat v hv9) (by simp -implicitDefEqProofs (maxSteps := 2000000) only [go_sem]) (by kernel_rfl) (by simp -implicitDefEqProofs (maxSteps := 2000000) only [go_sem]) ?_
    simp -implicitDefEqProofs (maxSteps := 2000000) only [go_sem]
    first | done | rfl | exact ⟨rfl, rfl⟩ | exact ⟨rfl, rfl, rfl⟩ | (refine tr_and ?_ ?_ <;> first | rfl | exact ⟨rfl, rfl⟩ | kernel_rfl)
/-! #### a term read -/
def p1 (n : Nat) : Int × Bool := if n = 120 then (0, true) else if n = 121 then (1, true) else if n = 122 then (2, true) else if n = 119 then (3, true) else if 48 ≤ n ∧ n ≤ 57 then (47 - (n : Int), true) else (0, false)
def chr0 (s : ByteArray) : UInt8 := s.data.toList.getD 0 0
def pT (s : ByteArray) : Int × Bool := if s.size = 1 then p1 (chr0 s).toNat else (0, false)
theorem pT_of : ∀ k : Fin 14, pT (fmtT ((k.val : Int) - 10)) = ((k.val : Int) - 10, true) := by decide +kernel
theorem fmt_digit : ∀ j : Fin 10, fmtT ((j.val : Int) - 10) = ⟨#[(57 - j.val).toUInt8]⟩ := by decide +kernel
theorem fmt_letter : ∀ j : Fin 4, fmtT (((j.val + 10 : Nat) : Int) - 10) = ⟨#[#[120, 121, 122, 119].getD j.val 0]⟩ := by decide +kernel
theorem byt_one {s : ByteArray} (h : s.size = 1) : s = ⟨#[chr0 s]⟩ := by
  apply byt_eq
  have hl : s.data.toList.length = 1 := by rw [Array.length_toList]; exact h
  unfold chr0
  rcases e : s.data.toList with _ | ⟨c, _ | ⟨_, _⟩⟩
  · rw [e] at hl; simp at hl
  · rfl
  · rw [e] at hl; simp at hl
theorem pT_none {s : ByteArray} (h : ∀ k : Nat, k < 14 → fmtT ((k : Int) - 10) ≠ s) : pT s = (0, false) := by
  unfold pT
  split
  · rename_i h1
    have hs := byt_one h1
    generalize chr0 s = c at hs ⊢
    have hc : ∀ n : Nat, n < 256 → c.toNat = n → c = n.toUInt8 := by
      intro n hn e
      apply UInt8.toNat_inj.mp
      rw [e]; simp; omega
    have nl : ∀ j : Fin 4, c ≠ #[120, 121, 122, 119].getD j.val 0 := fun j e => h (j.val + 10) (by omega) (by rw [fmt_letter j, hs, e])
    have nd : ∀ j : Fin 10, c ≠ (57 - j.val).toUInt8 := fun j e => h j.val (by omega) (by rw [fmt_digit j, hs, e])
    unfold p1
    rw [if_neg (fun e => nl 0 (hc 120 (by omega) e)), if_neg (fun e => nl 1 (hc 121 (by omega) e)), if_neg (fun e => nl 2 (hc 122 (by omega) e)), if_neg (fun e => nl 3 (hc 119 (by omega) e)), if_neg ?_]
    intro ⟨a1, a2⟩
    exact nd ⟨57 - c.toNat, by omega⟩ (hc _ (by simp only; omega) (by simp only; omega))
  · rfl
theorem specParseTerm_sat (s : ByteArray) : Sat Tryz.prog 32 [lStr s] [lInt (pT s).1, lBool (pT s).2] [g1] := by
  refine sat_of_body mixed Tryz.func32 rfl (by kernel_rfl) (by kernel_rfl) (rs := [.tmp 2, .tmp 3]) rfl rfl rfl ?_
  simp -implicitDefEqProofs (maxSteps := 2000000) only [go_sem]
  refine awp_loop Nat (fun k => mkSt [(0, .sc (.string s)), (4, .sc (.int .i64 ((k : Int) - 10)))] [] [] 2000)
    (fun k => k ≤ 14 ∧ ∀ j, j < k → fmtT ((j : Int) - 10) ≠ s) (fun k => 14 - k) 0 ⟨by omega, fun j hj => by omega⟩ (le_st _ _ [] [] _ rfl (by simp -implicitDefEqProofs (maxSteps := 2000000) only [go_sem] <;> rfl) trivial trivial) ?_
  rintro k ⟨h1, h2⟩
  by_cases c1 : k < 14
  · have wk : IntKind.i64.wrap ((k : Int) - 10 + 1) = ((k + 1 : Nat) : Int) - 10 := by rw [IntWalk.i64_in _ (by omega)]; omega
    have d1 : decide ((k : Int) - 10 < 4) = true := decide_eq_true (by omega)
    rcases d2 : decide (fmtT ((k : Int) - 10) = s)
    · simp -implicitDefEqProofs (maxSteps := 2000000) only [go_sem, d1]
      refine call_of (specFormatTerm_sat ((k : Int) - 10) (by omega)) (by simp -implicitDefEqProofs (maxSteps := 2000000) only [go_sem, d2, str_beq]) (by kernel_rfl) (by simp -implicitDefEqProofs (maxSteps := 2000000) only [go_sem, d2, str_beq]) ?_
      simp -implicitDefEqProofs (maxSteps := 2000000) only [go_sem, d2, str_beq]
      rw [wk]
      refine ⟨k + 1, ⟨c1, fun j hj => ?_⟩, by omega, (le_st _ _ [] [] _ rfl (by simp -implicitDefEqProofs (maxSteps := 2000000) only [go_sem] <;> rfl) trivial trivial)⟩
      rcases Nat.lt_or_ge j k with h | h
      · exact h2 j h
      · obtain rfl : j = k := by omega
        exact of_decide_eq_false d2
    · have e : pT s = ((k : Int) - 10, true) := by rw [← of_decide_eq_true d2]; exact pT_of ⟨k, c1⟩
      rw [e]
      simp -implicitDefEqProofs (maxSteps := 2000000) only [go_sem, d1]
      refine call_of (specFormatTerm_sat ((k : Int) - 10) (by omega)) (by simp -implicitDefEqProofs (maxSteps := 2000000) only [go_sem, d2, str_beq]) (by kernel_rfl) (by simp -implicitDefEqProofs (maxSteps := 2000000) only [go_sem, d2, str_beq]) ?_
      simp -implicitDefEqProofs (maxSteps := 2000000) only [go_sem, d2, str_beq]
      first | done | rfl | exact ⟨rfl, rfl⟩ | exact ⟨rfl, rfl, rfl⟩ | (refine tr_and ?_ ?_ <;> first | rfl | exact ⟨rfl, rfl⟩ | kernel_rfl)
  · obtain rfl : k = 14 := by omega
    rw [pT_none h2]
    have d1 : decide (((14 : Nat) : Int) - 10 < 4) = false := by decide
    simp -implicitDefEqProofs (maxSteps := 2000000) only [go_sem, d1]
    first | done | rfl | exact ⟨rfl, rfl⟩ | exact ⟨rfl, rfl, rfl⟩ | (refine tr_and ?_ ?_ <;> first | rfl | exact ⟨rfl, rfl⟩ | kernel_rfl)
theorem idx_letter : ∀ n : Fin 256, Lib.indexByte [120, 121, 122, 119] n.val.toUInt8 = if n.val = 120 then 0 else if n.val = 121 then 1 else if n.val = 122 then 2 else if n.val = 119 then 3 else -1 := by decide +kernel
theorem implParseTerm_sat (s : ByteArray) (h : s.size ≤ 9223372036854775807) : Sat Tryz.prog 50 [lStr s] [lInt (pT s).1, lBool (pT s).2] [g1] := by
  refine sat_of_body mixed Tryz.func50 rfl (by kernel_rfl) (by kernel_rfl) (rs := [.tmp 2, .tmp 3]) rfl rfl rfl ?_
  unfold pT
  rcases d1 : ((s.size : Int) != 1)
  · have hs : s.size = 1 := by have : (s.size : Int) = 1 := by simpa using d1
                               omega
    rw [if_pos hs]
    have e0 : s.data.toList.getD 0 0 = chr0 s := rfl
    have hlt : (chr0 s).toNat < 256 := UInt8.toNat_lt _
    have ix := idx_letter ⟨(chr0 s).toNat, hlt⟩
    have ec : (((chr0 s).toNat : Nat) : Int).toNat.toUInt8 = chr0 s := by simp
    simp only [Nat.toUInt8, UInt8.ofNat_toNat] at ix
    generalize chr0 s = c at e0 hlt ix ec ⊢
    have hsz : 0 < s.size := by omega
    have hv : (∃ n : Nat, n < 4 ∧ Lib.indexByte [120, 121, 122, 119] c = n ∧ p1 c.toNat = ((n : Int), true)) ∨ (Lib.indexByte [120, 121, 122, 119] c = -1 ∧ p1 c.toNat = if 48 ≤ c.toNat ∧ c.toNat ≤ 57 then (47 - (c.toNat : Int), true) else (0, false)) := by
      rw [ix]
      unfold p1
      split
      · exact .inl ⟨0, by omega, rfl, rfl⟩
      split
      · exact .inl ⟨1, by omega, rfl, rfl⟩
      split
      · exact .inl ⟨2, by omega, rfl, rfl⟩
      split
      · exact .inl ⟨3, by omega, rfl, rfl⟩
      exact .inr ⟨rfl, rfl⟩
    rcases hv with ⟨n, hn, e1, e2⟩ | ⟨e1, e2⟩
    · have d2 : decide ((0 : Int) ≤ (n : Int)) = true := decide_eq_true (by omega)
      have d3 : decide ((n : Int) ≥ 0) = true := decide_eq_true (by omega)
      rw [e2]
      simp -implicitDefEqProofs (maxSteps := 2000000) only [go_sem, d1, hsz, e0]
      refine call_of (stringsIndexByte_sat ⟨#[120, 121, 122, 119]⟩ c.toNat) (by simp -implicitDefEqProofs (maxSteps := 2000000) only [go_sem, e0, hsz, ec, e1, d2, d3]) (by kernel_rfl) (by simp -implicitDefEqProofs (maxSteps := 2000000) only [go_sem, e0, hsz, ec, e1, d2, d3]) ?_
      simp -implicitDefEqProofs (maxSteps := 2000000) only [go_sem, e0, hsz, ec, e1, d2, d3]
      first | done | rfl | exact ⟨rfl, rfl⟩ | exact ⟨rfl, rfl, rfl⟩ | (refine tr_and ?_ ?_ <;> first | rfl | exact ⟨rfl, rfl⟩ | kernel_rfl)
    · rw [e2]
      rcases d4 : decide (((c.toNat : Nat) : Int) ≥ 48)
      · rw [if_neg (by have := of_decide_eq_false d4; omega)]
        simp -implicitDefEqProofs (maxSteps := 2000000) only [go_sem, d1, hsz, e0]
        refine call_of (stringsIndexByte_sat ⟨#[120, 121, 122, 119]⟩ c.toNat) (by simp -implicitDefEqProofs (maxSteps := 2000000) only [go_sem, e0, hsz, ec, e1, d4]) (by kernel_rfl) (by simp -implicitDefEqProofs (maxSteps := 2000000) only [go_sem, e0, hsz, ec, e1, d4]) ?_
        simp -implicitDefEqProofs (maxSteps := 2000000) only [go_sem, e0, hsz, ec, e1, d4]
      rcases d5 : decide (((c.toNat : Nat) : Int) ≤ 57)
      · rw [if_neg (by have := of_decide_eq_false d5; omega)]
        simp -implicitDefEqProofs (maxSteps := 2000000) only [go_sem, d1, hsz, e0]
        refine call_of (stringsIndexByte_sat ⟨#[120, 121, 122, 119]⟩ c.toNat) (by simp -implicitDefEqProofs (maxSteps := 2000000) only [go_sem, e0, hsz, ec, e1, d4, d5]) (by kernel_rfl) (by simp -implicitDefEqProofs (maxSteps := 2000000) only [go_sem, e0, hsz, ec, e1, d4, d5]) ?_
        simp -implicitDefEqProofs (maxSteps := 2000000) only [go_sem, e0, hsz, ec, e1, d4, d5]
      · have h4 := of_decide_eq_true d4
        have h5 := of_decide_eq_true d5
        have wu : IntKind.u8.wrap (((c.toNat : Nat) : Int) - 48) = ((c.toNat - 48 : Nat) : Int) := by rw [IntWalk.u8_in _ (by omega)]; omega
        have wi : IntKind.i64.wrap ((c.toNat - 48 : Nat) : Int) = ((c.toNat - 48 : Nat) : Int) := IntWalk.i64_in _ (by omega)
        rw [if_pos (by omega), show 47 - ((c.toNat : Nat) : Int) = -1 - ((c.toNat - 48 : Nat) : Int) by omega]
        simp -implicitDefEqProofs (maxSteps := 2000000) only [go_sem, d1, hsz, e0]
        refine call_of (stringsIndexByte_sat ⟨#[120, 121, 122, 119]⟩ c.toNat) (by simp -implicitDefEqProofs (maxSteps := 2000000) only [go_sem, e0, hsz, ec, e1, d4, d5, wu, wi]) (by kernel_rfl) (by simp -implicitDefEqProofs (maxSteps := 2000000) only [go_sem, e0, hsz, ec, e1, d4, d5, wu, wi]) ?_
        simp -implicitDefEqProofs (maxSteps := 2000000) only [go_sem, e0, hsz, ec, e1, d4, d5, wu, wi]
        refine call_of (constantT_sat ((c.toNat - 48 : Nat) : Int) (by omega)) (by simp -implicitDefEqProofs (maxSteps := 2000000) only [go_sem]) (by kernel_rfl) (by simp -implicitDefEqProofs (maxSteps := 2000000) only [go_sem]) ?_
        simp -implicitDefEqProofs (maxSteps := 2000000) only [go_sem]
  · have hs : ¬ s.size = 1 := by intro e; rw [e] at d1; simp at d1
    rw [if_neg hs]
    simp -implicitDefEqProofs (maxSteps := 2000000) only [go_sem, d1]
    first | done | rfl | exact ⟨rfl, rfl⟩ | exact ⟨rfl, rfl, rfl⟩ | (refine tr_and ?_ ?_ <;> first | rfl | exact ⟨rfl, rfl⟩ | kernel_rfl)
end Go.Proofs.YtedciihjgbkjgacGreatDoor.A


/- A TERM's TEXT, the program's. Conditions: none. -/
namespace Go.Proofs.YtedciihjgbkjgacGreatDoor.A
open Go
set_option linter.unusedSimpArgs false
set_option linter.unusedVariables false
set_option maxRecDepth 100000

theorem dec_dig : ∀ n : Fin 10, (⟨(Lib.decDigits n.val).toArray⟩ : ByteArray) = digT (n.val : Int) := by decide +kernel
theorem implFormatInt_sat (v : Nat) (h : v ≤ 9) : Sat Tryz.prog 80 [lInt v] [lStr (digT v)] [g1] := by
  refine sat_of_body mixed Tryz.func80 rfl (by kernel_rfl) (by kernel_rfl) (rs := [.tmp 2]) rfl rfl rfl ?_
  rw [← dec_dig ⟨v, by omega⟩]
  simp -implicitDefEqProofs (maxSteps := 2000000) only [go_sem]
  refine call_of (strconvItoa_sat v (by omega)) (by simp -implicitDefEqProofs (maxSteps := 2000000) only [go_sem]) (by kernel_rfl) (by simp -implicitDefEqProofs (maxSteps := 2000000) only [go_sem]) ?_
  simp -implicitDefEqProofs (maxSteps := 2000000) only [go_sem]
  first | done | rfl | exact ⟨rfl, rfl⟩ | exact ⟨rfl, rfl, rfl⟩ | (refine tr_and ?_ ?_ <;> first | rfl | exact ⟨rfl, rfl⟩ | kernel_rfl)
theorem implTermValue_sat (t : Int) (ht : -9223372036854775808 ≤ t ∧ t ≤ 9223372036854775807) : Sat Tryz.prog 79 [lInt t] [lInt (if tvOk t then -1 - t else 0), lBool (tvOk t)] [g1] := by
  refine sat_of_body mixed Tryz.func79 rfl (by kernel_rfl) (by kernel_rfl) (rs := [.tmp 2, .tmp 3]) rfl rfl rfl ?_
  have e : inB t (-10) (-1) = tvOk t := rfl
  rcases d2 : tvOk t
  · rw [d2] at e
    simp -implicitDefEqProofs (maxSteps := 2000000) only [go_sem]
    refine call_of (inW_sat t (-10) (-1)) (by simp -implicitDefEqProofs (maxSteps := 2000000) only [go_sem, e]) (by kernel_rfl) (by simp -implicitDefEqProofs (maxSteps := 2000000) only [go_sem, e]) ?_
    simp -implicitDefEqProofs (maxSteps := 2000000) only [go_sem, e]
    first | done | rfl | exact ⟨rfl, rfl⟩ | exact ⟨rfl, rfl, rfl⟩ | (refine tr_and ?_ ?_ <;> first | rfl | exact ⟨rfl, rfl⟩ | kernel_rfl)
  · rw [d2] at e
    have h1 := inB_of e
    have w1 : IntKind.i64.wrap (-1 - t) = -1 - t := IntWalk.i64_in _ (by omega)
    simp -implicitDefEqProofs (maxSteps := 2000000) only [go_sem]
    refine call_of (inW_sat t (-10) (-1)) (by simp -implicitDefEqProofs (maxSteps := 2000000) only [go_sem, e, w1]) (by kernel_rfl) (by simp -implicitDefEqProofs (maxSteps := 2000000) only [go_sem, e, w1]) ?_
    simp -implicitDefEqProofs (maxSteps := 2000000) only [go_sem, e, w1]
    first | done | rfl | exact ⟨rfl, rfl⟩ | exact ⟨rfl, rfl, rfl⟩ | (refine tr_and ?_ ?_ <;> first | rfl | exact ⟨rfl, rfl⟩ | kernel_rfl)
theorem implFormatTerm_sat (t : Int) (ht : -9223372036854775808 ≤ t ∧ t ≤ 9223372036854775807) : Sat Tryz.prog 58 [lInt t] [lStr (fmtT t)] [g1] := by
  refine sat_of_body mixed Tryz.func58 rfl (by kernel_rfl) (by kernel_rfl) (rs := [.tmp 2]) rfl rfl rfl ?_
  rcases d1 : tvOk t
  · simp -implicitDefEqProofs (maxSteps := 2000000) only [go_sem]
    refine call_of (implTermValue_sat t ht) (by simp -implicitDefEqProofs (maxSteps := 2000000) only [go_sem, d1]) (by kernel_rfl) (by simp -implicitDefEqProofs (maxSteps := 2000000) only [go_sem, d1]) ?_
    simp -implicitDefEqProofs (maxSteps := 2000000) only [go_sem, d1]
    rcases d2 : inB t 0 3
    · have e : fmtT t = ⟨#[]⟩ := by
        have : isT t = false := by
          unfold isT inB; unfold tvOk inB at d1; unfold inB at d2
          rw [Bool.and_eq_false_iff] at d1 d2 ⊢
          simp only [decide_eq_false_iff_not] at d1 d2 ⊢
          omega
        rw [fmtT, this]; rfl
      rw [e]
      refine call_of (inW_sat t 0 3) (by simp -implicitDefEqProofs (maxSteps := 2000000) only [go_sem, d2]) (by kernel_rfl) (by simp -implicitDefEqProofs (maxSteps := 2000000) only [go_sem, d2]) ?_
      simp -implicitDefEqProofs (maxSteps := 2000000) only [go_sem, d2]
      first | done | rfl | exact ⟨rfl, rfl⟩ | exact ⟨rfl, rfl, rfl⟩ | (refine tr_and ?_ ?_ <;> first | rfl | exact ⟨rfl, rfl⟩ | kernel_rfl)
    · obtain ⟨n, rfl⟩ : ∃ n : Nat, t = n := ⟨t.toNat, by have := inB_of d2; omega⟩
      have hn : n < 4 := by have := inB_of d2; omega
      have w1 : IntKind.i64.wrap ((n : Int) + 1) = ((n + 1 : Nat) : Int) := i64_succ (by omega)
      refine call_of (inW_sat n 0 3) (by simp -implicitDefEqProofs (maxSteps := 2000000) only [go_sem, d2, w1]) (by kernel_rfl) (by simp -implicitDefEqProofs (maxSteps := 2000000) only [go_sem, d2, w1]) ?_
      simp -implicitDefEqProofs (maxSteps := 2000000) only [go_sem, d2, w1]
      refine ⟨by omega, by omega, ?_⟩
      rw [letters ⟨n, hn⟩]
  · obtain ⟨v, hv⟩ : ∃ v : Nat, -1 - t = v := ⟨(-1 - t).toNat, by have := inB_of d1; omega⟩
    have hv9 : v ≤ 9 := by have := inB_of d1; omega
    have e : fmtT t = digT v := by
      have h1 := inB_of d1
      have : isT t = true := by unfold isT inB; simp; omega
      rw [fmtT, this, if_pos rfl, letT, if_pos (by omega), digT, show 48 + (v : Int) = 47 - t by omega]
    rw [e]
    simp -implicitDefEqProofs (maxSteps := 2000000) only [go_sem]
    refine call_of (implTermValue_sat t ht) (by simp -implicitDefEqProofs (maxSteps := 2000000) only [go_sem, d1, hv]) (by kernel_rfl) (by simp -implicitDefEqProofs (maxSteps := 2000000) only [go_sem, d1, hv]) ?_
    simp -implicitDefEqProofs (maxSteps := 2000000) only [go_sem, d1, hv]
    refine call_of (implFormatInt_sat v hv9) (by simp -implicitDefEqProofs (maxSteps := 2000000) only [go_sem]) (by kernel_rfl) (by simp -implicitDefEqProofs (maxSteps := 2000000) only [go_sem]) ?_
    simp -implicitDefEqProofs (maxSteps := 2000000) only [go_sem]
    first | done | rfl | exact ⟨rfl, rfl⟩ | exact ⟨rfl, rfl, rfl⟩ | (refine tr_and ?_ ?_ <;> first | rfl | exact ⟨rfl, rfl⟩ | kernel_rfl)
end Go.Proofs.YtedciihjgbkjgacGreatDoor.A


/- THE LIBRARY'S SORT, COMPACT, CLONE AND GROW at numbers, of this program. Conditions: none. -/
namespace Go.Proofs.YtedciihjgbkjgacGreatDoor.A
open Go Go.Shelf
set_option linter.unusedVariables false
set_option maxRecDepth 100000
def laysSort_ren : Go.Shelf.Ren := ⟨fun | 125 => 86 | 128 => 106 | 129 => 107 | 189 => 71 | 215 => 119 | 216 => 103 | 257 => 85 | 294 => 97 | 295 => 98 | 296 => 99 | 297 => 100 | 298 => 101 | 299 => 102 | 300 => 104 | 301 => 105 | 328 => 114 | 329 => 115 | 330 => 116 | 331 => 117 | 332 => 118 | 343 => 122 | n => n, fun | 0 => 0 | 3 => 3 | 4 => 4 | 5 => 5 | 9 => 9 | 28 => 26 | 46 => 111 | 51 => 129 | 53 => 131 | 131 => 63 | 182 => 121 | 183 => 122 | 218 => 137 | 222 => 141 | 228 => 145 | 229 => 146 | n => n, fun n => n⟩
theorem laysSort : Lays.n189 Tryz.prog laysSort_ren where
  mixed := by kernel_rfl
  f125 := Tryz.func86.trans (congrArg some (by kernel_rfl))
  f128 := Tryz.func106.trans (congrArg some (by kernel_rfl))
  f129 := Tryz.func107.trans (congrArg some (by kernel_rfl))
  f189 := Tryz.func71.trans (congrArg some (by kernel_rfl))
  f215 := Tryz.func119.trans (congrArg some (by kernel_rfl))
  f216 := Tryz.func103.trans (congrArg some (by kernel_rfl))
  f257 := Tryz.func85.trans (congrArg some (by kernel_rfl))
  f294 := Tryz.func97.trans (congrArg some (by kernel_rfl))
  f295 := Tryz.func98.trans (congrArg some (by kernel_rfl))
  f296 := Tryz.func99.trans (congrArg some (by kernel_rfl))
  f297 := Tryz.func100.trans (congrArg some (by kernel_rfl))
  f298 := Tryz.func101.trans (congrArg some (by kernel_rfl))
  f299 := Tryz.func102.trans (congrArg some (by kernel_rfl))
  f300 := Tryz.func104.trans (congrArg some (by kernel_rfl))
  f301 := Tryz.func105.trans (congrArg some (by kernel_rfl))
  f328 := Tryz.func114.trans (congrArg some (by kernel_rfl))
  f329 := Tryz.func115.trans (congrArg some (by kernel_rfl))
  f330 := Tryz.func116.trans (congrArg some (by kernel_rfl))
  f331 := Tryz.func117.trans (congrArg some (by kernel_rfl))
  f332 := Tryz.func118.trans (congrArg some (by kernel_rfl))
  f343 := Tryz.func122.trans (congrArg some (by kernel_rfl))
  t0 := Tryz.underlying0
  a0 := Tryz.isAgg0
  z0 := Tryz.sizeOf0
  v0 := Tryz.zeroValue0
  t3 := Tryz.underlying3
  a3 := Tryz.isAgg3
  z3 := Tryz.sizeOf3
  v3 := Tryz.zeroValue3
  t4 := Tryz.underlying4
  a4 := Tryz.isAgg4
  z4 := Tryz.sizeOf4
  v4 := Tryz.zeroValue4
  t5 := Tryz.underlying5
  a5 := Tryz.isAgg5
  z5 := Tryz.sizeOf5
  v5 := Tryz.zeroValue5
  t9 := Tryz.underlying9
  a9 := Tryz.isAgg9
  z9 := Tryz.sizeOf9
  v9 := Tryz.zeroValue9
  t28 := Tryz.underlying26
  a28 := Tryz.isAgg26
  z28 := Tryz.sizeOf26
  v28 := Tryz.zeroValue26
  t46 := Tryz.underlying111
  a46 := Tryz.isAgg111
  z46 := Tryz.sizeOf111
  v46 := Tryz.zeroValue111
  t51 := Tryz.underlying129
  a51 := Tryz.isAgg129
  z51 := Tryz.sizeOf129
  v51 := Tryz.zeroValue129
  t53 := Tryz.underlying131
  a53 := Tryz.isAgg131
  z53 := Tryz.sizeOf131
  v53 := Tryz.zeroValue131
  t131 := Tryz.underlying63
  a131 := Tryz.isAgg63
  z131 := Tryz.sizeOf63
  v131 := Tryz.zeroValue63
  t182 := Tryz.underlying121
  a182 := Tryz.isAgg121
  z182 := Tryz.sizeOf121
  v182 := Tryz.zeroValue121
  t183 := Tryz.underlying122
  a183 := Tryz.isAgg122
  z183 := Tryz.sizeOf122
  v183 := Tryz.zeroValue122
  t218 := Tryz.underlying137
  a218 := Tryz.isAgg137
  z218 := Tryz.sizeOf137
  v218 := Tryz.zeroValue137
  t222 := Tryz.underlying141
  a222 := Tryz.isAgg141
  z222 := Tryz.sizeOf141
  v222 := Tryz.zeroValue141
  t228 := Tryz.underlying145
  a228 := Tryz.isAgg145
  z228 := Tryz.sizeOf145
  v228 := Tryz.zeroValue145
  t229 := Tryz.underlying146
  a229 := Tryz.isAgg146
  z229 := Tryz.sizeOf146
  v229 := Tryz.zeroValue146
theorem slicesSort_sat (a : List Int) (h : a.length ≤ 4194304) : Sat Tryz.prog 71 [oInts a] [] [oInts (a.mergeSort fun x y => decide (x ≤ y))] :=
  sort_sat Tryz.func71 rfl (by kernel_rfl) (Any.slices_Sort_int laysSort) (Any.slices_Sort_int_none laysSort) a (by omega)
def laysCompact_ren : Go.Shelf.Ren := ⟨fun | 20 => 72 | n => n, fun | 0 => 0 | 3 => 3 | 4 => 4 | 22 => 26 | n => n, fun n => n⟩
theorem laysCompact : Lays2.n20 Tryz.prog laysCompact_ren where
  mixed := by kernel_rfl
  f20 := Tryz.func72.trans (congrArg some (by kernel_rfl))
  t0 := Tryz.underlying0
  a0 := Tryz.isAgg0
  z0 := Tryz.sizeOf0
  v0 := Tryz.zeroValue0
  t3 := Tryz.underlying3
  a3 := Tryz.isAgg3
  z3 := Tryz.sizeOf3
  v3 := Tryz.zeroValue3
  t4 := Tryz.underlying4
  a4 := Tryz.isAgg4
  z4 := Tryz.sizeOf4
  v4 := Tryz.zeroValue4
  t22 := Tryz.underlying26
  a22 := Tryz.isAgg26
  z22 := Tryz.sizeOf26
  v22 := Tryz.zeroValue26
  i3 := by kernel_rfl
theorem slicesCompact_sat (a : List Int) (h : a.length ≤ 9223372036854775807) : Sat Tryz.prog 72 [oInts a] [oInts (Lib.compact a)] [g1] :=
  compact_sat Tryz.func72 rfl (by kernel_rfl) (Any.slices_Compact_int laysCompact) (Any.slices_Compact_int_empty laysCompact) a h
def laysGrow_ren : Go.Shelf.Ren := ⟨fun | 4 => 84 | n => n, fun | 0 => 0 | 3 => 3 | 4 => 4 | 9 => 9 | 20 => 20 | 22 => 26 | 25 => 3 | n => n, fun n => n⟩
theorem laysGrow : Lays8.n4 Tryz.prog laysGrow_ren where
  mixed := by kernel_rfl
  f4 := ⟨Tryz.f84.name, by kernel_rfl, Tryz.func84.trans (congrArg some (by kernel_rfl))⟩
  t0 := Tryz.underlying0
  a0 := Tryz.isAgg0
  z0 := Tryz.sizeOf0
  v0 := Tryz.zeroValue0
  t3 := Tryz.underlying3
  a3 := Tryz.isAgg3
  z3 := Tryz.sizeOf3
  v3 := Tryz.zeroValue3
  t4 := Tryz.underlying4
  a4 := Tryz.isAgg4
  z4 := Tryz.sizeOf4
  v4 := Tryz.zeroValue4
  t9 := Tryz.underlying9
  a9 := Tryz.isAgg9
  z9 := Tryz.sizeOf9
  v9 := Tryz.zeroValue9
  t20 := Tryz.underlying20
  a20 := Tryz.isAgg20
  z20 := Tryz.sizeOf20
  v20 := Tryz.zeroValue20
  t22 := Tryz.underlying26
  a22 := Tryz.isAgg26
  z22 := Tryz.sizeOf26
  v22 := Tryz.zeroValue26
theorem slicesGrow_sat (n : Nat) (h : n ≤ 4194304) : Sat Tryz.prog 84 [.one (.sc (.slice none 0 0)), lInt n] [oInts []] [g1, g1] :=
  grow_sat (e := 3) Tryz.func84 rfl (by kernel_rfl) (by kernel_rfl) (Any8.slices_Grow_room laysGrow) (fun i0 z hi hz hs base l c n cs w => Any8.slices_Grow_grow laysGrow i0 z hi hz hs base l c n cs w) n (by omega)
end Go.Proofs.YtedciihjgbkjgacGreatDoor.A


/- SETS OF NUMBERS AS SORTED LISTS. Conditions: none. (No program in sight but the names.) -/
namespace Go.Proofs.YtedciihjgbkjgacGreatDoor.A
open Go
set_option linter.unusedSimpArgs false
set_option linter.unusedVariables false

abbrev Strict (l : List Int) : Prop := l.Pairwise (· < ·)
theorem strict_eq : ∀ {a b : List Int}, Strict a → Strict b → (∀ x, x ∈ a ↔ x ∈ b) → a = b
  | [], [], _, _, _ => rfl
  | [], y :: b, _, _, h => absurd ((h y).mpr (by simp)) (by simp)
  | x :: a, [], _, _, h => absurd ((h x).mp (by simp)) (by simp)
  | x :: a, y :: b, ha, hb, h => by
    obtain ⟨ha1, ha2⟩ := List.pairwise_cons.mp ha
    obtain ⟨hb1, hb2⟩ := List.pairwise_cons.mp hb
    have hxy : x = y := by
      rcases List.mem_cons.mp ((h x).mp (by simp)) with e | e
      · exact e
      · rcases List.mem_cons.mp ((h y).mpr (by simp)) with e' | e'
        · exact e'.symm
        · have := hb1 x e; have := ha1 y e'; omega
    subst hxy
    rw [strict_eq ha2 hb2 fun z => ?_]
    constructor
    · intro hz
      rcases List.mem_cons.mp ((h z).mp (List.mem_cons_of_mem _ hz)) with e | e
      · have := ha1 z hz; omega
      · exact e
    · intro hz
      rcases List.mem_cons.mp ((h z).mpr (List.mem_cons_of_mem _ hz)) with e | e
      · have := hb1 z hz; omega
      · exact e
abbrev Sorted (l : List Int) : Prop := l.Pairwise (· ≤ ·)
theorem sorted_sort (a : List Int) : Sorted (a.mergeSort fun x y => decide (x ≤ y)) := by
  have h := List.pairwise_mergeSort (le := fun x y : Int => decide (x ≤ y)) (by intro a b c; simp; omega) (by intro a b; simp; omega) a
  exact h.imp fun h => of_decide_eq_true h
theorem mem_sort (a : List Int) (x : Int) : x ∈ (a.mergeSort fun x y => decide (x ≤ y)) ↔ x ∈ a := List.mem_mergeSort
theorem compactUpTo_facts (zs : List Int) (hs : Sorted zs) : ∀ (m : Nat), m ≤ zs.length →
    Strict (Lib.compactUpTo zs.toArray m) ∧ (∀ x, x ∈ Lib.compactUpTo zs.toArray m ↔ x ∈ zs.take m)
  | 0, _ => by simp [Lib.compactUpTo]
  | m + 1, h => by
    obtain ⟨h1, h2⟩ := compactUpTo_facts zs hs m (by omega)
    have hm : m < zs.length := by omega
    have ht : zs.take (m + 1) = zs.take m ++ [zs[m]] := List.take_succ_eq_append_getElem hm
    have hle : ∀ x ∈ zs.take m, x ≤ zs[m] := by
      intro x hx
      obtain ⟨i, hi, rfl⟩ := List.mem_iff_getElem.mp hx
      simp only [List.length_take] at hi
      simp only [List.getElem_take]
      exact List.pairwise_iff_getElem.mp hs i m (by omega) hm (by omega)
    have hg : zs.toArray[m]! = zs[m] := by simp [hm]
    rw [Lib.compactUpTo_succ, ht, hg]
    by_cases hk : Lib.keeps zs.toArray m = true
    · rw [if_pos hk]
      have hlt : ∀ x ∈ zs.take m, x < zs[m] := by
        intro x hx
        have hxl := hle x hx
        unfold Lib.keeps at hk
        have hk := of_decide_eq_true hk
        rcases hk with rfl | hk
        · simp at hx
        · rw [hg] at hk
          obtain ⟨i, hi, rfl⟩ := List.mem_iff_getElem.mp hx
          simp only [List.length_take] at hi
          simp only [List.getElem_take] at hxl ⊢
          have h1 : zs.toArray[m - 1]! = zs[m - 1]'(by omega) := by simp [show m - 1 < zs.length by omega]
          rw [h1] at hk
          have h3 : zs[i]'(by omega) ≤ zs[m - 1]'(by omega) := by
            rcases Nat.lt_or_ge i (m - 1) with h | h
            · exact List.pairwise_iff_getElem.mp hs i (m - 1) (by omega) (by omega) h
            · have : i = m - 1 := by omega
              subst this; exact Int.le_refl _
          have h4 : zs[m - 1]'(by omega) ≤ zs[m] := List.pairwise_iff_getElem.mp hs (m - 1) m (by omega) (by omega) (by omega)
          omega
      refine ⟨List.pairwise_append.mpr ⟨h1, by simp, fun x hx y hy => ?_⟩, fun x => by simp only [List.mem_append, h2]⟩
      obtain rfl : y = zs[m] := by simpa using hy
      exact hlt x ((h2 x).mp hx)
    · rw [if_neg hk, List.append_nil]
      refine ⟨h1, fun x => ?_⟩
      rw [h2, List.mem_append, List.mem_singleton]
      refine ⟨.inl, fun h => h.elim id fun hx => ?_⟩
      subst hx
      unfold Lib.keeps at hk
      have hk : ¬ (m = 0 ∨ zs.toArray[m]! ≠ zs.toArray[m - 1]!) := fun h => hk (decide_eq_true h)
      have h0 : m ≠ 0 := fun h => hk (.inl h)
      have h1 : zs.toArray[m]! = zs.toArray[m - 1]! := Decidable.byContradiction fun h => hk (.inr h)
      have h2 : zs.toArray[m - 1]! = zs[m - 1]'(by omega) := by simp [show m - 1 < zs.length by omega]
      rw [hg, h2] at h1
      rw [h1]
      exact List.mem_iff_getElem.mpr ⟨m - 1, by simp; omega, by simp⟩
/-- The members of two lists, each once, in order. -/
def uni (a b : List Int) : List Int := Lib.compact ((a ++ b).mergeSort fun x y => decide (x ≤ y))
theorem uni_strict (a b : List Int) : Strict (uni a b) := (compactUpTo_facts _ (sorted_sort (a ++ b)) _ (Nat.le_refl _)).1
theorem uni_mem (a b : List Int) (x : Int) : x ∈ uni a b ↔ x ∈ a ∨ x ∈ b := by
  have h := (compactUpTo_facts _ (sorted_sort (a ++ b)) _ (Nat.le_refl _)).2 x
  rw [List.take_of_length_le (Nat.le_refl _), mem_sort, List.mem_append] at h
  exact h
theorem uni_len (a b : List Int) : (uni a b).length ≤ a.length + b.length := by
  have h := compact_len ((a ++ b).mergeSort fun x y => decide (x ≤ y))
  rw [List.length_mergeSort, List.length_append] at h
  exact h
/-- The numbers below k that something picks. -/
def selN (p : Int → Bool) : Nat → List Int
  | 0 => []
  | k + 1 => if p k then selN p k ++ [(k : Int)] else selN p k
theorem selN_len (p : Int → Bool) : ∀ k, (selN p k).length ≤ k
  | 0 => by simp [selN]
  | k + 1 => by
    have := selN_len p k
    unfold selN; split
    · simp; omega
    · omega
theorem selN_no {p : Int → Bool} {k : Nat} (h : p k = false) : selN p (k + 1) = selN p k := by simp [selN, h]
theorem selN_yes {p : Int → Bool} {k : Nat} (h : p k = true) : selN p (k + 1) = selN p k ++ [(k : Int)] := by simp [selN, h]
theorem selN_mem (p : Int → Bool) (x : Int) : ∀ k, x ∈ selN p k ↔ 0 ≤ x ∧ x < k ∧ p x = true
  | 0 => by simp [selN]; omega
  | k + 1 => by
    have ih := selN_mem p x k
    unfold selN
    split
    · rename_i h
      rw [List.mem_append, ih, List.mem_singleton]
      constructor
      · rintro (h | rfl)
        · exact ⟨h.1, by omega, h.2.2⟩
        · exact ⟨by omega, by omega, h⟩
      · rintro ⟨h1, h2, h3⟩
        by_cases e : x = k
        · exact .inr e
        · exact .inl ⟨h1, by omega, h3⟩
    · rename_i h
      rw [ih]
      constructor
      · rintro ⟨h1, h2, h3⟩; exact ⟨h1, by omega, h3⟩
      · rintro ⟨h1, h2, h3⟩
        refine ⟨h1, ?_, h3⟩
        by_cases e : x = k
        · subst e; exact absurd h3 h
        · omega
theorem selN_strict (p : Int → Bool) : ∀ k, Strict (selN p k)
  | 0 => by simp [selN]
  | k + 1 => by
    have ih := selN_strict p k
    unfold selN
    split
    · refine List.pairwise_append.mpr ⟨ih, by simp, fun x hx y hy => ?_⟩
      obtain rfl : y = k := by simpa using hy
      exact ((selN_mem p x k).mp hx).2.1
    · exact ih
end Go.Proofs.YtedciihjgbkjgacGreatDoor.A


/- UNIONS AND THE VARIABLES OF AN ATOM. Conditions: none. -/
namespace Go.Proofs.YtedciihjgbkjgacGreatDoor.A
open Go
set_option linter.unusedSimpArgs false
set_option linter.unusedVariables false
set_option maxRecDepth 100000

theorem flat_step {l : List (List Int)} {i : Nat} (h : i < l.length) : (l.take (i + 1)).flatten = (l.take i).flatten ++ l.getD i [] := by
  rw [take_snoc [] h, List.flatten_append]; simp
theorem flat_le {l : List (List Int)} (i : Nat) : (l.take i).flatten.length ≤ l.flatten.length := by
  have h : l.flatten = (l.take i).flatten ++ (l.drop i).flatten := by rw [← List.flatten_append, List.take_append_drop]
  rw [h, List.length_append]; omega
theorem slicesConcat_sat (l : List (List Int)) (hl : l.length ≤ 1048576) (h : l.flatten.length ≤ 4194304) : Sat Tryz.prog 70 [lISS l] [oInts l.flatten] [g1] := by
  refine sat_of_body mixed Tryz.func70 rfl (by kernel_rfl) (by kernel_rfl) (rs := [.tmp 2]) rfl rfl rfl ?_
  simp -implicitDefEqProofs (maxSteps := 2000000) only [go_sem]
  refine awp_loop Nat (fun k => mkSt [(0, .one (.im 1 (iss 0 l))), (3, .sc (.int .i64 (l.take k).flatten.length)), (9, .one (.im 1 (iss 0 l))), (10, .sc (.int .i64 l.length)), (11, .sc (.int .i64 k))] [] [] 1000)
    (fun k => k ≤ l.length) (fun k => l.length - k) 0 (by omega) (le_st _ _ [] [] _ rfl (by simp -implicitDefEqProofs (maxSteps := 2000000) only [go_sem] <;> rfl) trivial trivial) ?_
  rintro k h1
  have f1 := flat_le (l := l) k
  by_cases c1 : k < l.length
  · have f2 := flat_le (l := l) (k + 1)
    have f3 := flat_step c1
    have f4 := congrArg List.length f3
    rw [List.length_append] at f4
    simp -implicitDefEqProofs (maxSteps := 2000000) only [go_sem, c1]
    rw [IntWalk.i64_in _ (by omega), show ((l.take k).flatten.length : Int) + ((l.getD k []).length : Int) = ((l.take (k + 1)).flatten.length : Int) by omega]
    rw [decide_eq_false (show ¬ (((l.take (k + 1)).flatten.length : Int) < 0) by omega)]
    simp -implicitDefEqProofs (maxSteps := 2000000) only [go_sem]
    rw [i64_succ (by omega)]
    exact ⟨k + 1, c1, by omega, (le_st _ _ [] [] _ rfl (by simp -implicitDefEqProofs (maxSteps := 2000000) only [go_sem] <;> rfl) trivial trivial)⟩
  simp -implicitDefEqProofs (maxSteps := 2000000) only [go_sem, c1]
  obtain rfl : k = l.length := by omega
  rw [List.take_length]
  refine call_of (slicesGrow_sat l.flatten.length h) (by simp -implicitDefEqProofs (maxSteps := 2000000) only [go_sem]) (by kernel_rfl) (by simp -implicitDefEqProofs (maxSteps := 2000000) only [go_sem]) ?_
  simp -implicitDefEqProofs (maxSteps := 2000000) only [go_sem]
  refine awp_loop Nat (fun k => mkSt [(6, .one (.ref 960 1 0 (l.take k).flatten.length)), (25, .one (.im 1 (iss 0 l))), (26, .sc (.int .i64 l.length)), (27, .sc (.int .i64 k))] [] [(960, (1, ints (l.take k).flatten))] 2000)
    (fun k => k ≤ l.length) (fun k => l.length - k) 0 (by omega) (le_st' _ _ [⟨960, some _, false, 1, _⟩] [] _ (by simp -implicitDefEqProofs (maxSteps := 2000000) only [go_sem] <;> and_intros <;> rfl) (by simp -implicitDefEqProofs (maxSteps := 2000000) only [go_sem] <;> and_intros <;> rfl) (by simp -implicitDefEqProofs (maxSteps := 2000000) only [go_sem] <;> and_intros <;> rfl) (by rfl)) ?_
  rintro k h1
  have f1 := flat_le (l := l) k
  by_cases c1 : k < l.length
  · have f2 := flat_le (l := l) (k + 1)
    have f3 := flat_step c1
    have f4 := congrArg List.length f3
    rw [List.length_append] at f4
    simp -implicitDefEqProofs (maxSteps := 2000000) only [go_sem, c1]
    refine ⟨by omega, ?_⟩
    rw [i64_succ (by omega)]
    refine ⟨k + 1, c1, by omega, ?_⟩
    rw [f3]
    exact (le_st' _ _ [⟨960, some _, false, 1, _⟩] [] _ (by simp -implicitDefEqProofs (maxSteps := 2000000) only [go_sem] <;> and_intros <;> rfl) (by simp -implicitDefEqProofs (maxSteps := 2000000) only [go_sem] <;> and_intros <;> rfl) (by simp -implicitDefEqProofs (maxSteps := 2000000) only [go_sem] <;> and_intros <;> rfl) (by rfl))
  · obtain rfl : k = l.length := by omega
    simp -implicitDefEqProofs (maxSteps := 2000000) only [go_sem, c1]
    rfl
theorem frz_two (a b : List Int) : frz [[Cell.sl 0 (iv a)], [Cell.sl 0 (iv b)]] = iss 0 [a, b] := rfl
theorem union_sat (a b : List Int) (h : a.length + b.length ≤ 4194304) : Sat Tryz.prog 43 [lInts a, lInts b] [oInts (uni a b)] [g1, g1] := by
  refine sat_of_body mixed Tryz.func43 rfl (by kernel_rfl) (by kernel_rfl) (rs := [.tmp 4]) rfl rfl rfl ?_
  simp -implicitDefEqProofs (maxSteps := 2000000) only [go_sem]
  refine call_of (slicesConcat_sat [a, b] (by simp) (by simp; omega)) (by simp -implicitDefEqProofs (maxSteps := 2000000) only [go_sem, frz_two]) (callOk_still (by kernel_rfl) (by simp only [List.all_cons, List.all_nil, LV.still, LV.leaves, Leaf.still, ints_still, ris_still, eds_still, rels_still, iss_still, ems_still, Bool.and_self, Bool.and_true])) (by simp -implicitDefEqProofs (maxSteps := 2000000) only [go_sem, frz_two]) ?_
  simp -implicitDefEqProofs (maxSteps := 2000000) only [go_sem, frz_two]
  refine call_of (slicesSort_sat (a ++ b) (by simp; omega)) (by simp -implicitDefEqProofs (maxSteps := 2000000) only [go_sem]) (by kernel_rfl) (by simp -implicitDefEqProofs (maxSteps := 2000000) only [go_sem]) ?_
  simp -implicitDefEqProofs (maxSteps := 2000000) only [go_sem]
  refine call_of (slicesCompact_sat ((a ++ b).mergeSort fun x y => decide (x ≤ y)) (by rw [List.length_mergeSort, List.length_append]; omega)) (by simp -implicitDefEqProofs (maxSteps := 2000000) only [go_sem, List.length_mergeSort, List.length_append]) (by kernel_rfl) (by simp -implicitDefEqProofs (maxSteps := 2000000) only [go_sem, List.length_mergeSort, List.length_append]) ?_
  simp -implicitDefEqProofs (maxSteps := 2000000) only [go_sem, List.length_mergeSort, List.length_append]
  exact ⟨rfl, rfl⟩
/-- The variables of an atom. -/
def varsOf (l : List Int) : List Int := selN (fun v => decide (v ∈ l)) 4
theorem varsOf_len (l : List Int) : (varsOf l).length ≤ 4 := selN_len _ 4
theorem varsOf_uni (l : List Int) : uni (l.filter fun x => decide (0 ≤ x) && decide (x ≤ 3)) [] = varsOf l := by
  refine strict_eq (uni_strict _ _) (selN_strict _ _) fun x => ?_
  rw [varsOf, uni_mem, selN_mem, List.mem_filter]
  simp only [List.not_mem_nil, or_false, Bool.and_eq_true, decide_eq_true_eq]
  constructor
  · rintro ⟨h1, h2, h3⟩; exact ⟨h2, by omega, h1⟩
  · rintro ⟨h1, h2, h3⟩; exact ⟨h3, h1, by omega⟩
theorem implAtomVariables_sat (a : RI) (h : a.ok) : Sat Tryz.prog 44 [lRI a] [oInts (varsOf a.l)] [g2] := by
  unfold RI.ok at h
  refine sat_of_body mixed Tryz.func44 rfl (by kernel_rfl) (by kernel_rfl) (rs := [.tmp 2]) rfl rfl rfl ?_
  rw [← varsOf_uni]
  generalize hp : (fun x : Int => decide (0 ≤ x) && decide (x ≤ 3)) = p
  simp -implicitDefEqProofs (maxSteps := 2000000) only [go_sem]
  refine awp_loop Nat (fun k => mkSt [(3, .one (.ref 960 1 0 ((a.l.take k).filter p).length)), (8, .one (.im 1 (ints a.l))), (9, .sc (.int .i64 a.l.length)), (10, .sc (.int .i64 k))] [] [(960, (1, ints ((a.l.take k).filter p)))] 2000)
    (fun k => k ≤ a.l.length) (fun k => a.l.length - k) 0 (by omega) (le_st' _ _ [⟨960, some _, false, 1, _⟩] [] _ (by simp -implicitDefEqProofs (maxSteps := 2000000) only [go_sem] <;> and_intros <;> rfl) (by simp -implicitDefEqProofs (maxSteps := 2000000) only [go_sem] <;> and_intros <;> rfl) (by simp -implicitDefEqProofs (maxSteps := 2000000) only [go_sem] <;> and_intros <;> rfl) (by rfl)) ?_
  rintro k h1
  have hl : ((a.l.take k).filter p).length ≤ a.l.length := Nat.le_trans (List.length_filter_le _ _) (by rw [List.length_take]; omega)
  by_cases c1 : k < a.l.length
  · have t := take_snoc 0 c1
    simp -implicitDefEqProofs (maxSteps := 2000000) only [go_sem, c1]
    refine call_of (within_sat (a.l.getD k 0) 0 3) (by simp -implicitDefEqProofs (maxSteps := 2000000) only [go_sem, c1]) (by kernel_rfl) (by simp -implicitDefEqProofs (maxSteps := 2000000) only [go_sem, c1]) ?_
    simp -implicitDefEqProofs (maxSteps := 2000000) only [go_sem, c1]
    rcases d : (decide (0 ≤ a.l.getD k 0) && decide (a.l.getD k 0 ≤ 3))
    · simp -implicitDefEqProofs (maxSteps := 2000000) only [go_sem, d]
      rw [i64_succ (by omega)]
      refine ⟨k + 1, c1, by omega, ?_⟩
      rw [t, List.filter_append, List.filter_cons_of_neg (by rw [← hp]; show ¬ ((decide (0 ≤ a.l.getD k 0) && decide (a.l.getD k 0 ≤ 3)) = true); rw [d]; simp), List.filter_nil, List.append_nil]
      exact (le_st' _ _ [⟨960, some _, false, 1, _⟩] [] _ (by simp -implicitDefEqProofs (maxSteps := 2000000) only [go_sem] <;> and_intros <;> rfl) (by simp -implicitDefEqProofs (maxSteps := 2000000) only [go_sem] <;> and_intros <;> rfl) (by simp -implicitDefEqProofs (maxSteps := 2000000) only [go_sem] <;> and_intros <;> rfl) (by rfl))
    · simp -implicitDefEqProofs (maxSteps := 2000000) only [go_sem, d]
      refine ⟨by omega, ?_⟩
      rw [i64_succ (by omega)]
      refine ⟨k + 1, c1, by omega, ?_⟩
      rw [t, List.filter_append, List.filter_cons_of_pos (by rw [← hp]; exact d), List.filter_nil]
      exact (le_st' _ _ [⟨960, some _, false, 1, _⟩] [] _ (by simp -implicitDefEqProofs (maxSteps := 2000000) only [go_sem] <;> and_intros <;> rfl) (by simp -implicitDefEqProofs (maxSteps := 2000000) only [go_sem] <;> and_intros <;> rfl) (by simp -implicitDefEqProofs (maxSteps := 2000000) only [go_sem] <;> and_intros <;> rfl) (by rfl))
  · obtain rfl : k = a.l.length := by omega
    simp -implicitDefEqProofs (maxSteps := 2000000) only [go_sem, c1]
    rw [List.take_length] at hl
    refine call_of (union_sat (a.l.filter p) [] (by simp; omega)) (by simp -implicitDefEqProofs (maxSteps := 2000000) only [go_sem, ints_nil]) (callOk_still (by kernel_rfl) (by simp only [List.all_cons, List.all_nil, LV.still, LV.leaves, Leaf.still, ints_still, ris_still, eds_still, rels_still, iss_still, ems_still, Bool.and_self, Bool.and_true])) (by simp -implicitDefEqProofs (maxSteps := 2000000) only [go_sem, ints_nil]) ?_
    simp -implicitDefEqProofs (maxSteps := 2000000) only [go_sem, ints_nil]
    rfl
end Go.Proofs.YtedciihjgbkjgacGreatDoor.A


/- MARKS OF RELATIONS. Conditions: none. -/
namespace Go.Proofs.YtedciihjgbkjgacGreatDoor.A
open Go
set_option linter.unusedSimpArgs false
set_option linter.unusedVariables false
set_option maxRecDepth 100000

def digit (k : Nat) : ByteArray := ⟨[UInt8.ofNat (48 + k % 10)].toArray⟩
def mD : Nat → Nat → ByteArray → ByteArray
  | 0, _, out => out
  | f + 1, k, out => if k = 0 then out else mD f (k / 10) (digit k ++ out)
def markT (k : Int) : ByteArray := if k ≤ 0 then ⟨#[109, 48]⟩ else ⟨#[109]⟩ ++ mD k.toNat k.toNat ByteArray.empty
theorem digit_size (k : Nat) : (digit k).size = 1 := rfl
theorem mD_zero (f : Nat) (out : ByteArray) : mD f 0 out = out := by cases f <;> simp [mD]
theorem u8_digit (k : Nat) : IntKind.u8.wrap (IntKind.i64.wrap (48 + ((k : Int).tmod 10))) = ((48 + k % 10 : Nat) : Int) := by
  have h : (k : Int).tmod 10 = ((k % 10 : Nat) : Int) := by rw [Int.tmod_eq_emod_of_nonneg (by omega)]; omega
  rw [h, IntWalk.i64_in _ (by omega)]
  have h2 : k % 10 < 10 := Nat.mod_lt _ (by omega)
  unfold IntKind.wrap
  simp [IntKind.signed, IntKind.bits]
  omega
theorem i64_div10 {k : Nat} (h : k ≤ 9223372036854775807) : IntKind.i64.wrap ((k : Int).tdiv 10) = ((k / 10 : Nat) : Int) := by
  have h1 : (k : Int).tdiv 10 = ((k / 10 : Nat) : Int) := by rw [Int.tdiv_eq_ediv_of_nonneg (by omega)]; omega
  rw [h1, IntWalk.i64_in _ (by omega)]
end Go.Proofs.YtedciihjgbkjgacGreatDoor.A


/- THE KEY VARIABLES OF AN ATOM. Conditions: none. -/
namespace Go.Proofs.YtedciihjgbkjgacGreatDoor.A
open Go
set_option linter.unusedSimpArgs false
set_option linter.unusedVariables false
set_option maxRecDepth 100000

def keyVars (l : List Rel) (a : RI) : List Int := if inB a.r 0 ((l.length : Int) - 1) && inB (l.getD a.r.toNat default).kl 0 a.l.length then varsOf (a.l.take (l.getD a.r.toNat default).kl.toNat) else []
theorem keyVars_len (l : List Rel) (a : RI) : (keyVars l a).length ≤ 4 := by
  unfold keyVars; split
  · exact varsOf_len _
  · simp
end Go.Proofs.YtedciihjgbkjgacGreatDoor.A


/- VALID QUERIES. Conditions: none. -/
namespace Go.Proofs.YtedciihjgbkjgacGreatDoor.A
open Go
set_option linter.unusedSimpArgs false
set_option linter.unusedVariables false
set_option maxRecDepth 100000

/-- Is the i-th number an index, and behind the one before it. -/
def idxAt (l : List Int) (n : Int) (i : Nat) : Bool := inB (l.getD i 0) 0 (n - 1) && (decide (i = 0) || !decide (l.getD i 0 ≤ l.getD (i - 1) 0))
def idxs (l : List Int) (n : Int) : Bool := upTo (idxAt l n) l.length
theorem areIndices_sat (l : List Int) (n : Int) (h : l.length ≤ 9223372036854775807) (hn : -9223372036854775807 ≤ n ∧ n ≤ 9223372036854775807) : Sat Tryz.prog 40 [lInts l, lInt n] [lBool (idxs l n)] [g1, g1] := by
  refine sat_of_body mixed Tryz.func40 rfl (by kernel_rfl) (by kernel_rfl) (rs := [.tmp 4]) rfl rfl rfl ?_
  unfold idxs
  have w0 : IntKind.i64.wrap (n - 1) = n - 1 := IntWalk.i64_in _ (by omega)
  simp -implicitDefEqProofs (maxSteps := 2000000) only [go_sem]
  refine awp_loop Nat (fun k => mkSt [(0, .one (.im 1 (ints l))), (1, .sc (.int .i64 n)), (7, .one (.im 1 (ints l))), (8, .sc (.int .i64 l.length)), (9, .sc (.int .i64 k))] [] [] 1000)
    (fun k => k ≤ l.length ∧ upTo (idxAt l n) k = true) (fun k => l.length - k) 0 ⟨by omega, rfl⟩ (le_st _ _ [] [] _ rfl (by simp -implicitDefEqProofs (maxSteps := 2000000) only [go_sem] <;> rfl) trivial trivial) ?_
  rintro k ⟨h1, h2⟩
  by_cases c1 : k < l.length
  · rcases d1 : inB (l.getD k 0) 0 (n - 1)
    · rw [upTo_false c1 (by rw [idxAt, d1]; rfl)]
      simp -implicitDefEqProofs (maxSteps := 2000000) only [go_sem, c1, w0]
      refine call_of (inW_sat (l.getD k 0) 0 (n - 1)) (by simp -implicitDefEqProofs (maxSteps := 2000000) only [go_sem, d1, c1]) (by kernel_rfl) (by simp -implicitDefEqProofs (maxSteps := 2000000) only [go_sem, d1, c1]) ?_
      simp -implicitDefEqProofs (maxSteps := 2000000) only [go_sem, d1, c1]
    rcases k with _ | j
    · have e : idxAt l n 0 = true := by rw [idxAt, d1]; rfl
      have c0 : (0 : Int) < l.length := by omega
      simp -implicitDefEqProofs (maxSteps := 2000000) only [go_sem, c1, c0, w0]
      refine call_of (inW_sat (l.getD 0 0) 0 (n - 1)) (by simp -implicitDefEqProofs (maxSteps := 2000000) only [go_sem, d1, c1, c0]) (by kernel_rfl) (by simp -implicitDefEqProofs (maxSteps := 2000000) only [go_sem, d1, c1, c0]) ?_
      simp -implicitDefEqProofs (maxSteps := 2000000) only [go_sem, d1, c1, c0]
      exact ⟨1, ⟨c1, upTo_step h2 e⟩, by omega, (le_st _ _ [] [] _ rfl (by simp -implicitDefEqProofs (maxSteps := 2000000) only [go_sem] <;> rfl) trivial trivial)⟩
    · have c2 : j < l.length := by omega
      have c3 : 0 < ((j + 1 : Nat) : Int) := by omega
      have w1 := i64_pred (j := j) (by omega)
      rcases d2 : decide (l.getD (j + 1) 0 ≤ l.getD j 0)
      · have e : idxAt l n (j + 1) = true := by rw [idxAt, d1, Nat.add_sub_cancel, d2]; rfl
        simp -implicitDefEqProofs (maxSteps := 2000000) only [go_sem, c1, w0]
        refine call_of (inW_sat (l.getD (j + 1) 0) 0 (n - 1)) (by simp -implicitDefEqProofs (maxSteps := 2000000) only [go_sem, d1, d2, c1, c2, c3, w1]) (by kernel_rfl) (by simp -implicitDefEqProofs (maxSteps := 2000000) only [go_sem, d1, d2, c1, c2, c3, w1]) ?_
        simp -implicitDefEqProofs (maxSteps := 2000000) only [go_sem, d1, d2, c1, c2, c3, w1]
        rw [i64_succ (by omega)]
        exact ⟨j + 1 + 1, ⟨c1, upTo_step h2 e⟩, by omega, (le_st _ _ [] [] _ rfl (by simp -implicitDefEqProofs (maxSteps := 2000000) only [go_sem] <;> rfl) trivial trivial)⟩
      · rw [upTo_false c1 (show idxAt l n (j + 1) = false by rw [idxAt, d1, Nat.add_sub_cancel, d2]; rfl)]
        simp -implicitDefEqProofs (maxSteps := 2000000) only [go_sem, c1, w0]
        refine call_of (inW_sat (l.getD (j + 1) 0) 0 (n - 1)) (by simp -implicitDefEqProofs (maxSteps := 2000000) only [go_sem, d1, d2, c1, c2, c3, w1]) (by kernel_rfl) (by simp -implicitDefEqProofs (maxSteps := 2000000) only [go_sem, d1, d2, c1, c2, c3, w1]) ?_
        simp -implicitDefEqProofs (maxSteps := 2000000) only [go_sem, d1, d2, c1, c2, c3, w1]
  · obtain rfl : k = l.length := by omega
    simp -implicitDefEqProofs (maxSteps := 2000000) only [go_sem, c1]
    rw [h2]
/-- The i-th atom: its relation is one, its arity fits, no atom before it has its relation, its terms are such. -/
def relAt (l : List Rel) (a : RI) : Bool := inB a.r 0 ((l.length : Int) - 1) && ((a.l.length : Int) == (l.getD a.r.toNat default).ar)
def termOk (vc : Int) (ts : List Int) (i : Nat) : Bool := inB (ts.getD i 0) (-10) (vc - 1)
def newRel (q : Qu) (i k : Nat) : Bool := !((q.atoms.getD k default).r == (q.atoms.getD i default).r)
def atomOk (l : List Rel) (q : Qu) (i : Nat) : Bool := relAt l (q.atoms.getD i default) && (upTo (newRel q i) i && upTo (termOk q.vc (q.atoms.getD i default).l) (q.atoms.getD i default).l.length)
/-- The variables that occur in the first k atoms. -/
def occurs (q : Qu) (k : Nat) (v : Int) : Bool := (q.atoms.take k).any fun a => decide (v ∈ a.l)
def goodQu (l : List Rel) (q : Qu) : Bool := goodRels l && (inB q.vc 0 4 && (inB q.atoms.length 1 3 && (idxs q.free q.vc && (upTo (atomOk l q) q.atoms.length && upTo (fun v => occurs q q.atoms.length v) q.vc.toNat))))

/-! #### lists of truth values -/
def bls (l : List Bool) : Rows := l.map fun b => [Cell.sc (.bool b)]
theorem bls_length (l : List Bool) : (bls l).length = l.length := by simp [bls]
theorem bls_get {l : List Bool} {i : Nat} (h : i < l.length) : (bls l).getD i [] = [Cell.sc (.bool (l.getD i false))] := get_map false (fun b => [Cell.sc (.bool b)]) h
theorem bls_frz (l : List Bool) : frz (bls l) = bls l := frz_map _ _ (fun _ => rfl) l
theorem bls_rst (l : List Bool) : rst (bls l) = bls l := rst_map _ _ (fun _ => rfl) l
theorem bls_stm (n : Nat) (l : List Bool) : stm n (bls l) = bls l := stm_map n _ _ (fun _ => rfl) l
theorem bls_take (l : List Bool) (k : Nat) : (bls l).take k = bls (l.take k) := by simp [bls]
theorem bls_set (l : List Bool) (i : Nat) (b : Bool) : (bls l).set i [.sc (.bool b)] = bls (l.set i b) := by simp [bls, List.map_set]
theorem bls_rep (n : Nat) (b : Bool) : List.replicate n [Cell.sc (.bool b)] = bls (List.replicate n b) := by simp [bls]
attribute [go_sem] bls_length bls_get bls_frz bls_rst bls_stm bls_take bls_set bls_rep
def met4 (p : Nat → Bool) : List Bool := [p 0, p 1, p 2, p 3]
theorem met4_length (p : Nat → Bool) : (met4 p).length = 4 := rfl
theorem met4_get {p : Nat → Bool} {i : Nat} (h : i < 4) : (met4 p).getD i false = p i := by
  match i, h with
  | 0, _ => rfl
  | 1, _ => rfl
  | 2, _ => rfl
  | 3, _ => rfl
theorem met4_set {p p' : Nat → Bool} {i : Nat} (h : i < 4) (h1 : p' i = true) (h2 : ∀ v, v ≠ i → p' v = p v) : (met4 p).set i true = met4 p' := by
  match i, h with
  | 0, _ => simp [met4, h1, h2]
  | 1, _ => simp [met4, h1, h2]
  | 2, _ => simp [met4, h1, h2]
  | 3, _ => simp [met4, h1, h2]
theorem met4_eq {p p' : Nat → Bool} (h : ∀ v, p v = p' v) : met4 p = met4 p' := by simp [met4, h]

/-! #### what occurs -/
theorem occurs_step {q : Qu} {k : Nat} (h : k < q.atoms.length) (v : Int) : occurs q (k + 1) v = (occurs q k v || decide (v ∈ (q.atoms.getD k default).l)) := by
  unfold occurs; rw [take_snoc default h, List.any_append]; simp
theorem occurs_zero (q : Qu) (v : Int) : occurs q 0 v = false := rfl
theorem uni_occurs {q : Qu} {k : Nat} (h : k < q.atoms.length) : uni (selN (occurs q k) 4) (varsOf (q.atoms.getD k default).l) = selN (occurs q (k + 1)) 4 := by
  refine strict_eq (uni_strict _ _) (selN_strict _ _) fun x => ?_
  rw [uni_mem, varsOf, selN_mem, selN_mem, selN_mem, occurs_step h, Bool.or_eq_true]
  constructor
  · rintro (⟨a, b, c⟩ | ⟨a, b, c⟩)
    · exact ⟨a, b, .inl c⟩
    · exact ⟨a, b, .inr c⟩
  · rintro ⟨a, b, c | c⟩
    · exact .inl ⟨a, b, c⟩
    · exact .inr ⟨a, b, c⟩
theorem selN_full {p : Int → Bool} : ∀ {n : Nat}, (((selN p n).length : Int) == n) = upTo (fun v => p v) n
  | 0 => by simp [selN, upTo]
  | n + 1 => by
    have ih := selN_full (p := p) (n := n)
    have hl := selN_len p n
    rw [upTo, ← ih]
    rcases e : p n
    · rw [selN_no e, Bool.and_false]
      exact beq_eq_false_iff_ne.mpr (by omega)
    · rw [selN_yes e, Bool.and_true, List.length_append, List.length_singleton, Bool.eq_iff_iff, beq_iff_eq, beq_iff_eq]
      omega
theorem selN_above {p : Int → Bool} {n : Nat} : ∀ {m : Nat}, n ≤ m → (∀ v : Nat, n ≤ v → v < m → p v = false) → selN p m = selN p n
  | 0, h, _ => by rw [show n = 0 by omega]
  | m + 1, h, hp => by
    by_cases e : n = m + 1
    · rw [e]
    · rw [selN_no (hp m (by omega) (by omega)), selN_above (by omega) fun v h1 h2 => hp v h1 (by omega)]
theorem occurs_lt {l : List Rel} {q : Qu} {k : Nat} (hk : k ≤ q.atoms.length) (h : upTo (atomOk l q) k = true) {v : Int} (hv : occurs q k v = true) : v ≤ q.vc - 1 := by
  unfold occurs at hv
  obtain ⟨a, ha, hva⟩ := List.any_eq_true.mp hv
  obtain ⟨i, hi, rfl⟩ := List.mem_iff_getElem.mp ha
  rw [List.length_take] at hi
  have h1 := upTo_at h (k := i) (by omega)
  unfold atomOk at h1
  simp only [Bool.and_eq_true] at h1
  have e : q.atoms.getD i default = (q.atoms.take k)[i]'(by rw [List.length_take]; exact hi) := by
    rw [List.getElem_take, List.getD_eq_getElem?_getD, List.getElem?_eq_getElem (by omega)]; rfl
  rw [e] at h1
  obtain ⟨j, hj, hje⟩ := List.mem_iff_getElem.mp (of_decide_eq_true hva)
  have h2 := upTo_at h1.2.2 hj
  unfold termOk at h2
  have h3 := inB_of h2
  rw [List.getD_eq_getElem?_getD, List.getElem?_eq_getElem hj] at h3
  simp only [Option.getD_some] at h3
  rw [hje] at h3
  exact h3.2
theorem all_occur {l : List Rel} {q : Qu} (h4 : inB q.vc 0 4 = true) (h : upTo (atomOk l q) q.atoms.length = true) : (((selN (occurs q q.atoms.length) 4).length : Int) == q.vc) = upTo (fun v => occurs q q.atoms.length v) q.vc.toNat := by
  have hv := inB_of h4
  rw [← selN_full, selN_above (n := q.vc.toNat) (m := 4) (by omega) fun v h1 h2 => ?_]
  · rw [show ((q.vc.toNat : Nat) : Int) = q.vc by omega]
  · rcases e : occurs q q.atoms.length v
    · rfl
    · have := occurs_lt (Nat.le_refl _) h e
      omega
end Go.Proofs.YtedciihjgbkjgacGreatDoor.A


/- VALID QUERIES: the two programs. Conditions: none. -/
namespace Go.Proofs.YtedciihjgbkjgacGreatDoor.A
open Go
set_option linter.unusedSimpArgs false
set_option linter.unusedVariables false
set_option maxRecDepth 100000

theorem goodQu_atom {l : List Rel} {q : Qu} {i : Nat} (hi : i < q.atoms.length) (h : atomOk l q i = false) : goodQu l q = false := by
  unfold goodQu; rw [upTo_false hi h]; simp
theorem goodQu_var {l : List Rel} {q : Qu} {v : Nat} (hv : v < q.vc.toNat) (h : occurs q q.atoms.length v = false) : goodQu l q = false := by
  unfold goodQu; rw [upTo_false (p := fun v => occurs q q.atoms.length v) hv h]; simp
theorem goodQu_free {l : List Rel} {q : Qu} {v : Nat} (hv : v < q.free.length) (h : idxAt q.free q.vc v = false) : goodQu l q = false := by
  unfold goodQu idxs; rw [upTo_false hv h]; simp
theorem dec_snoc {l : List Int} {x v : Int} (h : v ≠ x) : decide (v ∈ l ++ [x]) = decide (v ∈ l) := by
  rw [Bool.eq_iff_iff, decide_eq_true_iff, decide_eq_true_iff, List.mem_append, List.mem_singleton]
  exact ⟨fun k => k.resolve_right h, .inl⟩
theorem specIsValidQuery_sat (l : List Rel) (q : Qu) (h : l.length ≤ 9223372036854775807) (hq : q.fit) : Sat Tryz.prog 11 [lRels l, lQu q] [lBool (goodQu l q)] [g1, g3] := by
  refine sat_of_body mixed Tryz.func11 rfl (by kernel_rfl) (by kernel_rfl) (rs := [.tmp 4]) rfl rfl rfl ?_
  have w0 : IntKind.i64.wrap ((l.length : Int) - 1) = (l.length : Int) - 1 := IntWalk.i64_in _ (by omega)
  simp -implicitDefEqProofs (maxSteps := 2000000) only [go_sem]
  rcases g : goodRels l
  · rw [show goodQu l q = false by rw [goodQu, g]; rfl]
    refine call_of (specAreValidRelations_sat l h) (by simp -implicitDefEqProofs (maxSteps := 2000000) only [go_sem, g]) (by kernel_rfl) (by simp -implicitDefEqProofs (maxSteps := 2000000) only [go_sem, g]) ?_
    simp -implicitDefEqProofs (maxSteps := 2000000) only [go_sem, g]
  rcases v1 : inB q.vc 0 4
  · rw [show goodQu l q = false by rw [goodQu, v1]; simp]
    refine call_of (specAreValidRelations_sat l h) (by simp -implicitDefEqProofs (maxSteps := 2000000) only [go_sem, g]) (by kernel_rfl) (by simp -implicitDefEqProofs (maxSteps := 2000000) only [go_sem, g]) ?_
    simp -implicitDefEqProofs (maxSteps := 2000000) only [go_sem, g]
    refine call_of (inB_sat q.vc 0 4) (by simp -implicitDefEqProofs (maxSteps := 2000000) only [go_sem, v1]) (by kernel_rfl) (by simp -implicitDefEqProofs (maxSteps := 2000000) only [go_sem, v1]) ?_
    simp -implicitDefEqProofs (maxSteps := 2000000) only [go_sem, v1]
  rcases v2 : inB q.atoms.length 1 3
  · rw [show goodQu l q = false by rw [goodQu, v2]; simp]
    refine call_of (specAreValidRelations_sat l h) (by simp -implicitDefEqProofs (maxSteps := 2000000) only [go_sem, g]) (by kernel_rfl) (by simp -implicitDefEqProofs (maxSteps := 2000000) only [go_sem, g]) ?_
    simp -implicitDefEqProofs (maxSteps := 2000000) only [go_sem, g]
    refine call_of (inB_sat q.vc 0 4) (by simp -implicitDefEqProofs (maxSteps := 2000000) only [go_sem, v1]) (by kernel_rfl) (by simp -implicitDefEqProofs (maxSteps := 2000000) only [go_sem, v1]) ?_
    simp -implicitDefEqProofs (maxSteps := 2000000) only [go_sem, v1]
    refine call_of (inB_sat q.atoms.length 1 3) (by simp -implicitDefEqProofs (maxSteps := 2000000) only [go_sem, v2]) (by kernel_rfl) (by simp -implicitDefEqProofs (maxSteps := 2000000) only [go_sem, v2]) ?_
    simp -implicitDefEqProofs (maxSteps := 2000000) only [go_sem, v2]
  obtain ⟨b1, b2⟩ := inB_of v1
  obtain ⟨b3, b4⟩ := inB_of v2
  have wv : IntKind.i64.wrap (q.vc - 1) = q.vc - 1 := IntWalk.i64_in _ (by omega)
  refine call_of (specAreValidRelations_sat l h) (by simp -implicitDefEqProofs (maxSteps := 2000000) only [go_sem, g]) (by kernel_rfl) (by simp -implicitDefEqProofs (maxSteps := 2000000) only [go_sem, g]) ?_
  simp -implicitDefEqProofs (maxSteps := 2000000) only [go_sem, g]
  refine call_of (inB_sat q.vc 0 4) (by simp -implicitDefEqProofs (maxSteps := 2000000) only [go_sem, v1]) (by kernel_rfl) (by simp -implicitDefEqProofs (maxSteps := 2000000) only [go_sem, v1]) ?_
  simp -implicitDefEqProofs (maxSteps := 2000000) only [go_sem, v1]
  refine call_of (inB_sat q.atoms.length 1 3) (by simp -implicitDefEqProofs (maxSteps := 2000000) only [go_sem, v2]) (by kernel_rfl) (by simp -implicitDefEqProofs (maxSteps := 2000000) only [go_sem, v2]) ?_
  simp -implicitDefEqProofs (maxSteps := 2000000) only [go_sem, v2]
  rw [show (4 : Int) = ((4 : Nat) : Int) from rfl, msK_n]
  refine ⟨by omega, ?_⟩
  simp -implicitDefEqProofs (maxSteps := 2000000) only [go_sem]
  obtain ⟨L0, hL0⟩ : ∃ L, L = List.replicate 4 false := ⟨_, rfl⟩
  rw [← hL0]
  refine awp_loop (Nat × List Bool) (fun x => mkSt [(0, .one (.im 3 (rels l))), (3, .one (.vad 1000 0)), (5, .one (.ref 960 1 0 4)), (6, .sc (.int .i64 x.1))] [(1000, sQu q)] [(960, (1, bls x.2))] 2000)
    (fun x => x.1 ≤ q.atoms.length ∧ upTo (atomOk l q) x.1 = true ∧ x.2 = met4 fun v => occurs q x.1 v) (fun x => q.atoms.length - x.1) (0, L0) ⟨by simp, rfl, hL0.trans rfl⟩ (le_st' _ _ [⟨960, some _, false, 1, _⟩] [] _ (by simp -implicitDefEqProofs (maxSteps := 2000000) only [go_sem] <;> and_intros <;> rfl) (by simp -implicitDefEqProofs (maxSteps := 2000000) only [go_sem] <;> and_intros <;> rfl) (by simp -implicitDefEqProofs (maxSteps := 2000000) only [go_sem] <;> and_intros <;> rfl) (by rfl)) ?_
  rintro ⟨i, b⟩ ⟨h1, h2, hb⟩
  simp only at h1 h2 hb
  have hbl : b.length = 4 := by rw [hb]; rfl
  by_cases c1 : i < q.atoms.length
  · have hfa : (q.atoms.getD i default).fit := hq.1.2 _ (mem_getD default c1)
    rcases ea : q.atoms.getD i default with ⟨r, ts⟩
    rw [ea] at hfa
    have hts : ts.length ≤ 9223372036854775807 := hfa
    have wi : IntKind.i64.wrap ((i : Int) + 1) = ((i + 1 : Nat) : Int) := i64_succ (by omega)
    rcases i1 : inB r 0 ((l.length : Int) - 1)
    · rw [goodQu_atom c1 (by rw [atomOk, ea, relAt, i1]; rfl)]
      simp -implicitDefEqProofs (maxSteps := 2000000) only [go_sem, c1, ea, w0]
      refine call_of (inB_sat r 0 ((l.length : Int) - 1)) (by simp -implicitDefEqProofs (maxSteps := 2000000) only [go_sem, i1]) (by kernel_rfl) (by simp -implicitDefEqProofs (maxSteps := 2000000) only [go_sem, i1]) ?_
      simp -implicitDefEqProofs (maxSteps := 2000000) only [go_sem, i1]
    obtain ⟨r1, r2⟩ := inB_of i1
    obtain ⟨m, rfl⟩ : ∃ m : Nat, r = m := ⟨r.toNat, by omega⟩
    have c2 : m < l.length := by omega
    rcases d2 : (ts.length : Int) == (l.getD m default).ar
    · have d3 : ((ts.length : Int) != (l.getD m default).ar) = true := by rw [bne, d2]; rfl
      rw [goodQu_atom c1 (by rw [atomOk, ea, relAt, i1]; simp only [Int.toNat_natCast, d2]; rfl)]
      simp -implicitDefEqProofs (maxSteps := 2000000) only [go_sem, c1, ea, w0]
      refine call_of (inB_sat m 0 ((l.length : Int) - 1)) (by simp -implicitDefEqProofs (maxSteps := 2000000) only [go_sem, i1, d3, c2]) (by kernel_rfl) (by simp -implicitDefEqProofs (maxSteps := 2000000) only [go_sem, i1, d3, c2]) ?_
      simp -implicitDefEqProofs (maxSteps := 2000000) only [go_sem, i1, d3, c2]
    have d3 : ((ts.length : Int) != (l.getD m default).ar) = false := by rw [bne, d2]; rfl
    have hrel : relAt l ⟨m, ts⟩ = true := by rw [relAt, i1]; simp only [Int.toNat_natCast, d2]; rfl
    simp -implicitDefEqProofs (maxSteps := 2000000) only [go_sem, c1, ea, w0]
    refine call_of (inB_sat m 0 ((l.length : Int) - 1)) (by simp -implicitDefEqProofs (maxSteps := 2000000) only [go_sem, i1, d3, c2]) (by kernel_rfl) (by simp -implicitDefEqProofs (maxSteps := 2000000) only [go_sem, i1, d3, c2]) ?_
    simp -implicitDefEqProofs (maxSteps := 2000000) only [go_sem, i1, d3, c2]
    refine awp_loop Nat (fun k => mkSt [(0, .one (.im 3 (rels l))), (3, .one (.vad 1000 0)), (5, .one (.ref 960 1 0 4)), (6, .sc (.int .i64 i)), (7, .one (.vad 2640 0)), (8, .sc (.int .i64 k))] [(1000, sQu q), (2640, sRI ⟨m, ts⟩)] [(960, (1, bls b))] 4000)
      (fun k => k ≤ i ∧ upTo (newRel q i) k = true) (fun k => i - k) 0 ⟨by omega, rfl⟩ (le_st' _ _ [⟨960, some _, false, 1, _⟩] [] _ (by simp -implicitDefEqProofs (maxSteps := 2000000) only [go_sem] <;> and_intros <;> rfl) (by simp -implicitDefEqProofs (maxSteps := 2000000) only [go_sem] <;> and_intros <;> rfl) (by simp -implicitDefEqProofs (maxSteps := 2000000) only [go_sem] <;> and_intros <;> rfl) (by rfl)) ?_
    rintro k ⟨h3, h4⟩
    by_cases c3 : k < i
    · have c4 : k < q.atoms.length := by omega
      rcases d4 : (q.atoms.getD k default).r == (m : Int)
      · simp -implicitDefEqProofs (maxSteps := 2000000) only [go_sem, c3, c4, d4]
        rw [i64_succ (by omega)]
        exact ⟨k + 1, ⟨c3, upTo_step h4 (by rw [newRel, ea, d4]; rfl)⟩, by omega, (le_st' _ _ [⟨960, some _, false, 1, _⟩] [] _ (by simp -implicitDefEqProofs (maxSteps := 2000000) only [go_sem] <;> and_intros <;> rfl) (by simp -implicitDefEqProofs (maxSteps := 2000000) only [go_sem] <;> and_intros <;> rfl) (by simp -implicitDefEqProofs (maxSteps := 2000000) only [go_sem] <;> and_intros <;> rfl) (by rfl))⟩
      · rw [goodQu_atom c1 (by rw [atomOk, upTo_false c3 (by rw [newRel, ea, d4]; rfl)]; simp)]
        simp -implicitDefEqProofs (maxSteps := 2000000) only [go_sem, c3, c4, d4]
    obtain rfl : k = i := by omega
    simp -implicitDefEqProofs (maxSteps := 2000000) only [go_sem, c3]
    refine awp_loop (Nat × List Bool) (fun x => mkSt [(0, .one (.im 3 (rels l))), (3, .one (.vad 1000 0)), (5, .one (.ref 960 1 0 4)), (6, .sc (.int .i64 k)), (7, .one (.vad 2640 0)), (9, .sc (.int .i64 x.1))] [(1000, sQu q), (2640, sRI ⟨m, ts⟩)] [(960, (1, bls x.2))] 6000)
      (fun x => x.1 ≤ ts.length ∧ upTo (termOk q.vc ts) x.1 = true ∧ x.2 = met4 fun v => occurs q k v || decide ((v : Int) ∈ ts.take x.1)) (fun x => ts.length - x.1) (0, b) ⟨by simp, rfl, hb.trans (met4_eq (p' := fun v => occurs q k v || decide ((v : Int) ∈ ts.take 0)) fun v => by simp)⟩ (le_st' _ _ [⟨960, some _, false, 1, _⟩] [] _ (by simp -implicitDefEqProofs (maxSteps := 2000000) only [go_sem] <;> and_intros <;> rfl) (by simp -implicitDefEqProofs (maxSteps := 2000000) only [go_sem] <;> and_intros <;> rfl) (by simp -implicitDefEqProofs (maxSteps := 2000000) only [go_sem] <;> and_intros <;> rfl) (by rfl)) ?_
    rintro ⟨j, bb⟩ ⟨h5, h6, hbb⟩
    simp only at h5 h6 hbb
    have hbbl : bb.length = 4 := by rw [hbb]; rfl
    by_cases c5 : j < ts.length
    · rcases d5 : inB (ts.getD j 0) (-10) (q.vc - 1)
      · rw [goodQu_atom c1 (by rw [atomOk, ea, upTo_false c5 (by rw [termOk, d5])]; simp)]
        simp -implicitDefEqProofs (maxSteps := 2000000) only [go_sem, c5, wv]
        refine call_of (inB_sat (ts.getD j 0) (-10) (q.vc - 1)) (by simp -implicitDefEqProofs (maxSteps := 2000000) only [go_sem, d5]) (by kernel_rfl) (by simp -implicitDefEqProofs (maxSteps := 2000000) only [go_sem, d5]) ?_
        simp -implicitDefEqProofs (maxSteps := 2000000) only [go_sem, d5]
      obtain ⟨t1, t2⟩ := inB_of d5
      have hts1 : ts.take (j + 1) = ts.take j ++ [ts.getD j 0] := take_snoc 0 c5
      have h6' := upTo_step h6 (show termOk q.vc ts j = true by rw [termOk, d5])
      simp -implicitDefEqProofs (maxSteps := 2000000) only [go_sem, c5, wv]
      refine call_of (inB_sat (ts.getD j 0) (-10) (q.vc - 1)) (by simp -implicitDefEqProofs (maxSteps := 2000000) only [go_sem, d5, c5]) (by kernel_rfl) (by simp -implicitDefEqProofs (maxSteps := 2000000) only [go_sem, d5, c5]) ?_
      simp -implicitDefEqProofs (maxSteps := 2000000) only [go_sem, d5, c5]
      by_cases c6 : 0 ≤ ts.getD j 0
      · obtain ⟨t, ht⟩ : ∃ t : Nat, ts.getD j 0 = t := ⟨(ts.getD j 0).toNat, by omega⟩
        have c7 : t < 4 := by omega
        have c8 : 0 ≤ (t : Int) := by omega
        simp -implicitDefEqProofs (maxSteps := 2000000) only [go_sem, ht, c5, c7, c8, hbbl]
        rw [i64_succ (by omega)]
        refine ⟨(j + 1, bb.set t true), ⟨c5, h6', ?_⟩, by simp; omega, (le_st' _ _ [⟨960, some _, false, 1, _⟩] [] _ (by simp -implicitDefEqProofs (maxSteps := 2000000) only [go_sem, hbbl, c7] <;> and_intros <;> rfl) (by simp -implicitDefEqProofs (maxSteps := 2000000) only [go_sem, hbbl, c7] <;> and_intros <;> rfl) (by simp -implicitDefEqProofs (maxSteps := 2000000) only [go_sem, hbbl, c7] <;> and_intros <;> rfl) (by rfl))⟩
        rw [hbb]
        exact met4_set c7 (by rw [hts1, ht]; simp) (fun v hv => by rw [hts1, ht, dec_snoc (fun e => hv (by omega))])
      · simp -implicitDefEqProofs (maxSteps := 2000000) only [go_sem, c6]
        rw [i64_succ (by omega)]
        refine ⟨(j + 1, bb), ⟨c5, h6', ?_⟩, by simp; omega, (le_st' _ _ [⟨960, some _, false, 1, _⟩] [] _ (by simp -implicitDefEqProofs (maxSteps := 2000000) only [go_sem] <;> and_intros <;> rfl) (by simp -implicitDefEqProofs (maxSteps := 2000000) only [go_sem] <;> and_intros <;> rfl) (by simp -implicitDefEqProofs (maxSteps := 2000000) only [go_sem] <;> and_intros <;> rfl) (by rfl))⟩
        exact hbb.trans (met4_eq (p' := fun v => occurs q k v || decide ((v : Int) ∈ ts.take (j + 1))) fun v => by rw [hts1, dec_snoc (by omega)])
    · obtain rfl : j = ts.length := by omega
      simp -implicitDefEqProofs (maxSteps := 2000000) only [go_sem, c5, wi]
      refine ⟨(k + 1, bb), ⟨c1, upTo_step h2 (by rw [atomOk, ea, hrel, h4, h6]; rfl), ?_⟩, by simp; omega, (le_st' _ _ [⟨960, some _, false, 1, _⟩] [] _ (by simp -implicitDefEqProofs (maxSteps := 2000000) only [go_sem] <;> and_intros <;> rfl) (by simp -implicitDefEqProofs (maxSteps := 2000000) only [go_sem] <;> and_intros <;> rfl) (by simp -implicitDefEqProofs (maxSteps := 2000000) only [go_sem] <;> and_intros <;> rfl) (by rfl))⟩
      exact hbb.trans (met4_eq (p' := fun v => occurs q (k + 1) v) fun v => by rw [occurs_step c1, ea, List.take_length])
  obtain rfl : i = q.atoms.length := by omega
  simp -implicitDefEqProofs (maxSteps := 2000000) only [go_sem, c1]
  refine awp_loop Nat (fun v => mkSt [(3, .one (.vad 1000 0)), (5, .one (.ref 960 1 0 4)), (10, .sc (.int .i64 v))] [(1000, sQu q)] [(960, (1, bls b))] 4000)
    (fun v => v ≤ q.vc.toNat ∧ upTo (fun v => occurs q q.atoms.length v) v = true) (fun v => q.vc.toNat - v) 0 ⟨by omega, rfl⟩ (le_st' _ _ [⟨960, some _, false, 1, _⟩] [] _ (by simp -implicitDefEqProofs (maxSteps := 2000000) only [go_sem] <;> and_intros <;> rfl) (by simp -implicitDefEqProofs (maxSteps := 2000000) only [go_sem] <;> and_intros <;> rfl) (by simp -implicitDefEqProofs (maxSteps := 2000000) only [go_sem] <;> and_intros <;> rfl) (by rfl)) ?_
  rintro v ⟨h3, h4⟩
  by_cases c3 : v < q.vc.toNat
  · have c4 : (v : Int) < q.vc := by omega
    have c5 : v < 4 := by omega
    have e5 : b.getD v false = occurs q q.atoms.length v := by rw [hb]; exact met4_get (p := fun v => occurs q q.atoms.length v) c5
    rcases d5 : occurs q q.atoms.length v
    · rw [goodQu_var c3 d5]
      simp -implicitDefEqProofs (maxSteps := 2000000) only [go_sem, c4, c5, e5, d5, hbl]
    · simp -implicitDefEqProofs (maxSteps := 2000000) only [go_sem, c4, c5, e5, d5, hbl]
      rw [i64_succ (by omega)]
      exact ⟨v + 1, ⟨c3, upTo_step h4 d5⟩, by omega, (le_st' _ _ [⟨960, some _, false, 1, _⟩] [] _ (by simp -implicitDefEqProofs (maxSteps := 2000000) only [go_sem] <;> and_intros <;> rfl) (by simp -implicitDefEqProofs (maxSteps := 2000000) only [go_sem] <;> and_intros <;> rfl) (by simp -implicitDefEqProofs (maxSteps := 2000000) only [go_sem] <;> and_intros <;> rfl) (by rfl))⟩
  obtain rfl : v = q.vc.toNat := by omega
  have c4 : ¬ ((q.vc.toNat : Nat) : Int) < q.vc := by omega
  simp -implicitDefEqProofs (maxSteps := 2000000) only [go_sem, c4]
  have hff := hq.2
  refine awp_loop Nat (fun k => mkSt [(3, .one (.vad 1000 0)), (11, .sc (.int .i64 k))] [(1000, sQu q)] [] 6000)
    (fun k => k ≤ q.free.length ∧ upTo (idxAt q.free q.vc) k = true) (fun k => q.free.length - k) 0 ⟨by omega, rfl⟩ (le_st _ _ [] [] _ rfl (by simp -implicitDefEqProofs (maxSteps := 2000000) only [go_sem] <;> rfl) (by simp -implicitDefEqProofs (maxSteps := 2000000) only [go_sem] <;> rfl) (by simp -implicitDefEqProofs (maxSteps := 2000000) only [go_sem] <;> rfl)) ?_
  rintro k ⟨h5, h6⟩
  by_cases e1 : k < q.free.length
  · rcases d1 : inB (q.free.getD k 0) 0 (q.vc - 1)
    · rw [goodQu_free e1 (by rw [idxAt, d1]; rfl)]
      simp -implicitDefEqProofs (maxSteps := 2000000) only [go_sem, e1, wv]
      refine call_of (inB_sat (q.free.getD k 0) 0 (q.vc - 1)) (by simp -implicitDefEqProofs (maxSteps := 2000000) only [go_sem, d1, e1]) (by kernel_rfl) (by simp -implicitDefEqProofs (maxSteps := 2000000) only [go_sem, d1, e1]) ?_
      simp -implicitDefEqProofs (maxSteps := 2000000) only [go_sem, d1, e1]
    rcases k with _ | j
    · have e : idxAt q.free q.vc 0 = true := by rw [idxAt, d1]; rfl
      have e0 : (0 : Int) < q.free.length := by omega
      simp -implicitDefEqProofs (maxSteps := 2000000) only [go_sem, e1, e0, wv]
      refine call_of (inB_sat (q.free.getD 0 0) 0 (q.vc - 1)) (by simp -implicitDefEqProofs (maxSteps := 2000000) only [go_sem, d1, e1, e0]) (by kernel_rfl) (by simp -implicitDefEqProofs (maxSteps := 2000000) only [go_sem, d1, e1, e0]) ?_
      simp -implicitDefEqProofs (maxSteps := 2000000) only [go_sem, d1, e1, e0]
      exact ⟨1, ⟨e1, upTo_step h6 e⟩, by omega, (le_st _ _ [] [] _ rfl (by simp -implicitDefEqProofs (maxSteps := 2000000) only [go_sem] <;> rfl) (by simp -implicitDefEqProofs (maxSteps := 2000000) only [go_sem] <;> rfl) (by simp -implicitDefEqProofs (maxSteps := 2000000) only [go_sem] <;> rfl))⟩
    · have e2 : j < q.free.length := by omega
      have e3 : 0 < ((j + 1 : Nat) : Int) := by omega
      have w1 := i64_pred (j := j) (by omega)
      rcases d2 : decide (q.free.getD (j + 1) 0 ≤ q.free.getD j 0)
      · have e : idxAt q.free q.vc (j + 1) = true := by rw [idxAt, d1, Nat.add_sub_cancel, d2]; rfl
        simp -implicitDefEqProofs (maxSteps := 2000000) only [go_sem, e1, wv]
        refine call_of (inB_sat (q.free.getD (j + 1) 0) 0 (q.vc - 1)) (by simp -implicitDefEqProofs (maxSteps := 2000000) only [go_sem, d1, d2, e1, e2, e3, w1]) (by kernel_rfl) (by simp -implicitDefEqProofs (maxSteps := 2000000) only [go_sem, d1, d2, e1, e2, e3, w1]) ?_
        simp -implicitDefEqProofs (maxSteps := 2000000) only [go_sem, d1, d2, e1, e2, e3, w1]
        rw [i64_succ (by omega)]
        exact ⟨j + 1 + 1, ⟨e1, upTo_step h6 e⟩, by omega, (le_st _ _ [] [] _ rfl (by simp -implicitDefEqProofs (maxSteps := 2000000) only [go_sem] <;> rfl) (by simp -implicitDefEqProofs (maxSteps := 2000000) only [go_sem] <;> rfl) (by simp -implicitDefEqProofs (maxSteps := 2000000) only [go_sem] <;> rfl))⟩
      · rw [goodQu_free e1 (show idxAt q.free q.vc (j + 1) = false by rw [idxAt, d1, Nat.add_sub_cancel, d2]; rfl)]
        simp -implicitDefEqProofs (maxSteps := 2000000) only [go_sem, e1, wv]
        refine call_of (inB_sat (q.free.getD (j + 1) 0) 0 (q.vc - 1)) (by simp -implicitDefEqProofs (maxSteps := 2000000) only [go_sem, d1, d2, e1, e2, e3, w1]) (by kernel_rfl) (by simp -implicitDefEqProofs (maxSteps := 2000000) only [go_sem, d1, d2, e1, e2, e3, w1]) ?_
        simp -implicitDefEqProofs (maxSteps := 2000000) only [go_sem, d1, d2, e1, e2, e3, w1]
  · obtain rfl : k = q.free.length := by omega
    simp -implicitDefEqProofs (maxSteps := 2000000) only [go_sem, e1]
    rw [goodQu, g, v1, v2, idxs, h6, h2, h4]
    rfl
theorem upTo_congr {p p' : Nat → Bool} : ∀ {n : Nat}, (∀ k, k < n → p k = p' k) → upTo p n = upTo p' n
  | 0, _ => rfl
  | n + 1, h => by rw [upTo, upTo, upTo_congr fun k hk => h k (by omega), h n (by omega)]
def otherRel (a : RI) (l : List RI) (k : Nat) : Bool := !((l.getD k default).r == a.r)
abbrev fRI (a : RI) : List Fld := [.sc (.int .i64 a.r), .im 1 (ints a.l)]
theorem isValidQuery1_sat (a b : RI) : Sat Tryz.prog 42 [lRI b, .one (.ip (fRI a))] [lBool (b.r == a.r)] [g2, g1] := by
  refine sat_of_body mixed Tryz.func42 rfl (by kernel_rfl) (by kernel_rfl) (rs := [.tmp 3]) rfl rfl rfl ?_
  simp -implicitDefEqProofs (maxSteps := 2000000) only [go_sem]
theorem atomsIndex_sat (l : List RI) (a : RI) (h : l.length ≤ 9223372036854775807) : Sat Tryz.prog 69 [lRIs l, .one (.fn 42 [fRI a])] [lInt (firstNo (otherRel a l) l.length 0)] [g1, g1] := by
  refine sat_of_body mixed Tryz.func69 rfl (by kernel_rfl) (by kernel_rfl) (rs := [.tmp 4]) rfl rfl rfl ?_
  simp -implicitDefEqProofs (maxSteps := 2000000) only [go_sem]
  refine awp_loop Nat (fun k => mkSt [(0, .one (.im 2 (ris 0 l))), (1, .one (.fni 42 [fRI a])), (7, .sc (.int .i64 l.length)), (8, .sc (.int .i64 k))] [] [] 1000)
    (fun k => k ≤ l.length ∧ firstNo (otherRel a l) (l.length - k) k = firstNo (otherRel a l) l.length 0) (fun k => l.length - k) 0 ⟨by omega, rfl⟩ (le_st _ _ [] [] _ rfl (by simp -implicitDefEqProofs (maxSteps := 2000000) only [go_sem] <;> rfl) trivial trivial) ?_
  rintro k ⟨h1, h2⟩
  by_cases c1 : k < l.length
  · rw [show l.length - k = (l.length - (k + 1)) + 1 by omega, firstNo] at h2
    rcases d : (l.getD k default).r == a.r
    · rw [if_pos (by rw [otherRel, d]; rfl)] at h2
      simp -implicitDefEqProofs (maxSteps := 2000000) only [go_sem, c1]
      refine call_of (isValidQuery1_sat a (l.getD k default)) (by simp -implicitDefEqProofs (maxSteps := 2000000) only [go_sem, d, c1]) (by kernel_rfl) (by simp -implicitDefEqProofs (maxSteps := 2000000) only [go_sem, d, c1]) ?_
      simp -implicitDefEqProofs (maxSteps := 2000000) only [go_sem, d, c1]
      rw [i64_succ (by omega)]
      exact ⟨k + 1, ⟨c1, h2⟩, by omega, (le_st _ _ [] [] _ rfl (by simp -implicitDefEqProofs (maxSteps := 2000000) only [go_sem] <;> rfl) trivial trivial)⟩
    · rw [if_neg (by rw [otherRel, d]; simp)] at h2
      simp -implicitDefEqProofs (maxSteps := 2000000) only [go_sem, c1]
      refine call_of (isValidQuery1_sat a (l.getD k default)) (by simp -implicitDefEqProofs (maxSteps := 2000000) only [go_sem, d, c1]) (by kernel_rfl) (by simp -implicitDefEqProofs (maxSteps := 2000000) only [go_sem, d, c1]) ?_
      simp -implicitDefEqProofs (maxSteps := 2000000) only [go_sem, d, c1]
      rw [← h2]
  · obtain rfl : k = l.length := by omega
    rw [Nat.sub_self, firstNo] at h2
    simp -implicitDefEqProofs (maxSteps := 2000000) only [go_sem, c1]
    rw [← h2]
theorem atomsContains_sat (l : List RI) (a : RI) (h : l.length ≤ 9223372036854775807) : Sat Tryz.prog 41 [lRIs l, .one (.fn 42 [fRI a])] [lBool (!upTo (otherRel a l) l.length)] [g1, g1] := by
  refine sat_of_body mixed Tryz.func41 rfl (by kernel_rfl) (by kernel_rfl) (rs := [.tmp 4]) rfl rfl rfl ?_
  simp -implicitDefEqProofs (maxSteps := 2000000) only [go_sem]
  refine call_of (atomsIndex_sat l a h) (by simp -implicitDefEqProofs (maxSteps := 2000000) only [go_sem]) (by kernel_rfl) (by simp -implicitDefEqProofs (maxSteps := 2000000) only [go_sem]) ?_
  simp -implicitDefEqProofs (maxSteps := 2000000) only [go_sem]
  rw [firstNo_ge _ _ _ rfl, Nat.zero_add]
theorem implIsValidQuery_sat (l : List Rel) (q : Qu) (h : l.length ≤ 9223372036854775807) (hq : q.ok) : Sat Tryz.prog 12 [lRels l, lQu q] [lBool (goodQu l q)] [g1, g3] := by
  refine sat_of_body mixed Tryz.func12 rfl (by kernel_rfl) (by kernel_rfl) (rs := [.tmp 4]) rfl rfl rfl ?_
  have w0 : IntKind.i64.wrap ((l.length : Int) - 1) = (l.length : Int) - 1 := IntWalk.i64_in _ (by omega)
  have hff : q.free.length ≤ 9223372036854775807 := by have := hq.2; omega
  simp -implicitDefEqProofs (maxSteps := 2000000) only [go_sem]
  rcases g : goodRels l
  · rw [show goodQu l q = false by rw [goodQu, g]; rfl]
    refine call_of (implAreValidRelations_sat l h) (by simp -implicitDefEqProofs (maxSteps := 2000000) only [go_sem, g]) (by kernel_rfl) (by simp -implicitDefEqProofs (maxSteps := 2000000) only [go_sem, g]) ?_
    simp -implicitDefEqProofs (maxSteps := 2000000) only [go_sem, g]
  rcases v1 : inB q.vc 0 4
  · rw [show goodQu l q = false by rw [goodQu, v1]; simp]
    refine call_of (implAreValidRelations_sat l h) (by simp -implicitDefEqProofs (maxSteps := 2000000) only [go_sem, g]) (by kernel_rfl) (by simp -implicitDefEqProofs (maxSteps := 2000000) only [go_sem, g]) ?_
    simp -implicitDefEqProofs (maxSteps := 2000000) only [go_sem, g]
    refine call_of (inW_sat q.vc 0 4) (by simp -implicitDefEqProofs (maxSteps := 2000000) only [go_sem, v1]) (by kernel_rfl) (by simp -implicitDefEqProofs (maxSteps := 2000000) only [go_sem, v1]) ?_
    simp -implicitDefEqProofs (maxSteps := 2000000) only [go_sem, v1]
  rcases v2 : inB q.atoms.length 1 3
  · rw [show goodQu l q = false by rw [goodQu, v2]; simp]
    refine call_of (implAreValidRelations_sat l h) (by simp -implicitDefEqProofs (maxSteps := 2000000) only [go_sem, g]) (by kernel_rfl) (by simp -implicitDefEqProofs (maxSteps := 2000000) only [go_sem, g]) ?_
    simp -implicitDefEqProofs (maxSteps := 2000000) only [go_sem, g]
    refine call_of (inW_sat q.vc 0 4) (by simp -implicitDefEqProofs (maxSteps := 2000000) only [go_sem, v1]) (by kernel_rfl) (by simp -implicitDefEqProofs (maxSteps := 2000000) only [go_sem, v1]) ?_
    simp -implicitDefEqProofs (maxSteps := 2000000) only [go_sem, v1]
    refine call_of (inW_sat q.atoms.length 1 3) (by simp -implicitDefEqProofs (maxSteps := 2000000) only [go_sem, v2]) (by kernel_rfl) (by simp -implicitDefEqProofs (maxSteps := 2000000) only [go_sem, v2]) ?_
    simp -implicitDefEqProofs (maxSteps := 2000000) only [go_sem, v2]
  obtain ⟨b1, b2⟩ := inB_of v1
  obtain ⟨b3, b4⟩ := inB_of v2
  have wv : IntKind.i64.wrap (q.vc - 1) = q.vc - 1 := IntWalk.i64_in _ (by omega)
  rcases v3 : idxs q.free q.vc
  · rw [show goodQu l q = false by rw [goodQu, v3]; simp]
    refine call_of (implAreValidRelations_sat l h) (by simp -implicitDefEqProofs (maxSteps := 2000000) only [go_sem, g]) (by kernel_rfl) (by simp -implicitDefEqProofs (maxSteps := 2000000) only [go_sem, g]) ?_
    simp -implicitDefEqProofs (maxSteps := 2000000) only [go_sem, g]
    refine call_of (inW_sat q.vc 0 4) (by simp -implicitDefEqProofs (maxSteps := 2000000) only [go_sem, v1]) (by kernel_rfl) (by simp -implicitDefEqProofs (maxSteps := 2000000) only [go_sem, v1]) ?_
    simp -implicitDefEqProofs (maxSteps := 2000000) only [go_sem, v1]
    refine call_of (inW_sat q.atoms.length 1 3) (by simp -implicitDefEqProofs (maxSteps := 2000000) only [go_sem, v2]) (by kernel_rfl) (by simp -implicitDefEqProofs (maxSteps := 2000000) only [go_sem, v2]) ?_
    simp -implicitDefEqProofs (maxSteps := 2000000) only [go_sem, v2]
    refine call_of (areIndices_sat q.free q.vc hff (by omega)) (by simp -implicitDefEqProofs (maxSteps := 2000000) only [go_sem, v3]) (by kernel_rfl) (by simp -implicitDefEqProofs (maxSteps := 2000000) only [go_sem, v3]) ?_
    simp -implicitDefEqProofs (maxSteps := 2000000) only [go_sem, v3]
  refine call_of (implAreValidRelations_sat l h) (by simp -implicitDefEqProofs (maxSteps := 2000000) only [go_sem, g]) (by kernel_rfl) (by simp -implicitDefEqProofs (maxSteps := 2000000) only [go_sem, g]) ?_
  simp -implicitDefEqProofs (maxSteps := 2000000) only [go_sem, g]
  refine call_of (inW_sat q.vc 0 4) (by simp -implicitDefEqProofs (maxSteps := 2000000) only [go_sem, v1]) (by kernel_rfl) (by simp -implicitDefEqProofs (maxSteps := 2000000) only [go_sem, v1]) ?_
  simp -implicitDefEqProofs (maxSteps := 2000000) only [go_sem, v1]
  refine call_of (inW_sat q.atoms.length 1 3) (by simp -implicitDefEqProofs (maxSteps := 2000000) only [go_sem, v2]) (by kernel_rfl) (by simp -implicitDefEqProofs (maxSteps := 2000000) only [go_sem, v2]) ?_
  simp -implicitDefEqProofs (maxSteps := 2000000) only [go_sem, v2]
  refine call_of (areIndices_sat q.free q.vc hff (by omega)) (by simp -implicitDefEqProofs (maxSteps := 2000000) only [go_sem, v3]) (by kernel_rfl) (by simp -implicitDefEqProofs (maxSteps := 2000000) only [go_sem, v3]) ?_
  simp -implicitDefEqProofs (maxSteps := 2000000) only [go_sem, v3]
  refine awp_loop Nat (fun i => mkSt [(0, .one (.im 3 (rels l))), (3, .one (.vad 1000 0)), (5, .one (.ref 960 1 0 (selN (occurs q i) 4).length)), (36, .one (.im 2 (ris 0 q.atoms))), (37, .sc (.int .i64 q.atoms.length)), (38, .sc (.int .i64 i))] [(1000, sQu q)] [(960, (1, ints (selN (occurs q i) 4)))] 2000)
    (fun i => i ≤ q.atoms.length ∧ upTo (atomOk l q) i = true) (fun i => q.atoms.length - i) 0 ⟨by omega, rfl⟩ (le_st' _ _ [⟨960, some _, false, 1, _⟩] [] _ (by simp -implicitDefEqProofs (maxSteps := 2000000) only [go_sem] <;> and_intros <;> rfl) (by simp -implicitDefEqProofs (maxSteps := 2000000) only [go_sem] <;> and_intros <;> rfl) (by simp -implicitDefEqProofs (maxSteps := 2000000) only [go_sem] <;> and_intros <;> rfl) (by rfl)) ?_
  rintro i ⟨h1, h2⟩
  have hlo := selN_len (occurs q i) 4
  by_cases c1 : i < q.atoms.length
  · have hfa : (q.atoms.getD i default).ok := hq.1.2 _ (mem_getD default c1)
    have hun := uni_occurs (q := q) c1
    have hvl := varsOf_len (q.atoms.getD i default).l
    rcases ea : q.atoms.getD i default with ⟨r, ts⟩
    rw [ea] at hfa hun hvl
    have hts : ts.length ≤ 1048576 := hfa
    have wi : IntKind.i64.wrap ((i : Int) + 1) = ((i + 1 : Nat) : Int) := i64_succ (by omega)
    rcases i1 : inB r 0 ((l.length : Int) - 1)
    · rw [goodQu_atom c1 (by rw [atomOk, ea, relAt, i1]; rfl)]
      simp -implicitDefEqProofs (maxSteps := 2000000) only [go_sem, c1, ea, w0]
      refine call_of (inW_sat r 0 ((l.length : Int) - 1)) (by simp -implicitDefEqProofs (maxSteps := 2000000) only [go_sem, i1]) (by kernel_rfl) (by simp -implicitDefEqProofs (maxSteps := 2000000) only [go_sem, i1]) ?_
      simp -implicitDefEqProofs (maxSteps := 2000000) only [go_sem, i1]
    obtain ⟨r1, r2⟩ := inB_of i1
    obtain ⟨m, rfl⟩ : ∃ m : Nat, r = m := ⟨r.toNat, by omega⟩
    have c2 : m < l.length := by omega
    rcases d2 : (ts.length : Int) == (l.getD m default).ar
    · have d3 : ((ts.length : Int) != (l.getD m default).ar) = true := by rw [bne, d2]; rfl
      rw [goodQu_atom c1 (by rw [atomOk, ea, relAt, i1]; simp only [Int.toNat_natCast, d2]; rfl)]
      simp -implicitDefEqProofs (maxSteps := 2000000) only [go_sem, c1, ea, w0]
      refine call_of (inW_sat m 0 ((l.length : Int) - 1)) (by simp -implicitDefEqProofs (maxSteps := 2000000) only [go_sem, i1, d3, c2]) (by kernel_rfl) (by simp -implicitDefEqProofs (maxSteps := 2000000) only [go_sem, i1, d3, c2]) ?_
      simp -implicitDefEqProofs (maxSteps := 2000000) only [go_sem, i1, d3, c2]
    have d3 : ((ts.length : Int) != (l.getD m default).ar) = false := by rw [bne, d2]; rfl
    have hrel : relAt l ⟨m, ts⟩ = true := by rw [relAt, i1]; simp only [Int.toNat_natCast, d2]; rfl
    have c3 : i ≤ q.atoms.length := by omega
    have hup : upTo (otherRel ⟨m, ts⟩ (q.atoms.take i)) (q.atoms.take i).length = upTo (newRel q i) i := by
      rw [List.length_take, Nat.min_eq_left c3]
      refine upTo_congr fun k hk => ?_
      rw [otherRel, newRel, ea]
      rw [List.getD_eq_getElem?_getD, List.getD_eq_getElem?_getD, List.getElem?_take_of_lt hk]
    rcases d4 : upTo (newRel q i) i
    · rw [goodQu_atom c1 (by rw [atomOk, d4]; simp)]
      simp -implicitDefEqProofs (maxSteps := 2000000) only [go_sem, c1, ea, w0]
      refine call_of (inW_sat m 0 ((l.length : Int) - 1)) (by simp -implicitDefEqProofs (maxSteps := 2000000) only [go_sem, i1, d3, c2, c3, Nat.zero_le]) (by kernel_rfl) (by simp -implicitDefEqProofs (maxSteps := 2000000) only [go_sem, i1, d3, c2, c3, Nat.zero_le]) ?_
      simp -implicitDefEqProofs (maxSteps := 2000000) only [go_sem, i1, d3, c2, c3, Nat.zero_le]
      refine call_of (atomsContains_sat (q.atoms.take i) ⟨m, ts⟩ (by rw [List.length_take]; omega)) (by simp -implicitDefEqProofs (maxSteps := 2000000) only [go_sem, hup, d4, c3]) (by kernel_rfl) (by simp -implicitDefEqProofs (maxSteps := 2000000) only [go_sem, hup, d4, c3]) ?_
      simp -implicitDefEqProofs (maxSteps := 2000000) only [go_sem, hup, d4, c3]
    simp -implicitDefEqProofs (maxSteps := 2000000) only [go_sem, c1, ea, w0]
    refine call_of (inW_sat m 0 ((l.length : Int) - 1)) (by simp -implicitDefEqProofs (maxSteps := 2000000) only [go_sem, i1, d3, c2, c3, Nat.zero_le]) (by kernel_rfl) (by simp -implicitDefEqProofs (maxSteps := 2000000) only [go_sem, i1, d3, c2, c3, Nat.zero_le]) ?_
    simp -implicitDefEqProofs (maxSteps := 2000000) only [go_sem, i1, d3, c2, c3, Nat.zero_le]
    refine call_of (atomsContains_sat (q.atoms.take i) ⟨m, ts⟩ (by rw [List.length_take]; omega)) (by simp -implicitDefEqProofs (maxSteps := 2000000) only [go_sem, hup, d4, c3]) (by kernel_rfl) (by simp -implicitDefEqProofs (maxSteps := 2000000) only [go_sem, hup, d4, c3]) ?_
    simp -implicitDefEqProofs (maxSteps := 2000000) only [go_sem, hup, d4, c3]
    refine awp_loop Nat (fun j => mkSt [(0, .one (.im 3 (rels l))), (3, .one (.vad 1000 0)), (5, .one (.ref 960 1 0 (selN (occurs q i) 4).length)), (7, .one (.vad 2256 0)), (36, .one (.im 2 (ris 0 q.atoms))), (37, .sc (.int .i64 q.atoms.length)), (38, .sc (.int .i64 i)), (71, .one (.im 1 (ints ts))), (72, .sc (.int .i64 ts.length)), (73, .sc (.int .i64 j))] [(1000, sQu q), (2256, sRI ⟨m, ts⟩)] [(960, (1, ints (selN (occurs q i) 4)))] 6000)
      (fun j => j ≤ ts.length ∧ upTo (termOk q.vc ts) j = true) (fun j => ts.length - j) 0 ⟨by omega, rfl⟩ (le_st' _ _ [⟨960, some _, false, 1, _⟩] [] _ (by simp -implicitDefEqProofs (maxSteps := 2000000) only [go_sem] <;> and_intros <;> rfl) (by simp -implicitDefEqProofs (maxSteps := 2000000) only [go_sem] <;> and_intros <;> rfl) (by simp -implicitDefEqProofs (maxSteps := 2000000) only [go_sem] <;> and_intros <;> rfl) (by rfl)) ?_
    rintro j ⟨h5, h6⟩
    by_cases c5 : j < ts.length
    · rcases d5 : inB (ts.getD j 0) (-10) (q.vc - 1)
      · rw [goodQu_atom c1 (by rw [atomOk, ea, upTo_false c5 (by rw [termOk, d5])]; simp)]
        simp -implicitDefEqProofs (maxSteps := 2000000) only [go_sem, c5, wv]
        refine call_of (inW_sat (ts.getD j 0) (-10) (q.vc - 1)) (by simp -implicitDefEqProofs (maxSteps := 2000000) only [go_sem, d5]) (by kernel_rfl) (by simp -implicitDefEqProofs (maxSteps := 2000000) only [go_sem, d5]) ?_
        simp -implicitDefEqProofs (maxSteps := 2000000) only [go_sem, d5]
      simp -implicitDefEqProofs (maxSteps := 2000000) only [go_sem, c5, wv]
      refine call_of (inW_sat (ts.getD j 0) (-10) (q.vc - 1)) (by simp -implicitDefEqProofs (maxSteps := 2000000) only [go_sem, d5, c5]) (by kernel_rfl) (by simp -implicitDefEqProofs (maxSteps := 2000000) only [go_sem, d5, c5]) ?_
      simp -implicitDefEqProofs (maxSteps := 2000000) only [go_sem, d5, c5]
      rw [i64_succ (by omega)]
      exact ⟨j + 1, ⟨c5, upTo_step h6 (by rw [termOk, d5])⟩, by omega, (le_st' _ _ [⟨960, some _, false, 1, _⟩] [] _ (by simp -implicitDefEqProofs (maxSteps := 2000000) only [go_sem] <;> and_intros <;> rfl) (by simp -implicitDefEqProofs (maxSteps := 2000000) only [go_sem] <;> and_intros <;> rfl) (by simp -implicitDefEqProofs (maxSteps := 2000000) only [go_sem] <;> and_intros <;> rfl) (by rfl))⟩
    · obtain rfl : j = ts.length := by omega
      simp -implicitDefEqProofs (maxSteps := 2000000) only [go_sem, c5]
      refine call_of (implAtomVariables_sat ⟨m, ts⟩ hfa) (by simp -implicitDefEqProofs (maxSteps := 2000000) only [go_sem]) (callOk_still (by kernel_rfl) (by simp only [List.all_cons, List.all_nil, LV.still, LV.leaves, Leaf.still, ints_still, ris_still, eds_still, rels_still, iss_still, ems_still, Bool.and_self, Bool.and_true])) (by simp -implicitDefEqProofs (maxSteps := 2000000) only [go_sem]) ?_
      simp -implicitDefEqProofs (maxSteps := 2000000) only [go_sem]
      refine call_of (union_sat (selN (occurs q i) 4) (varsOf ts) (by simp only at hvl; omega)) (by simp -implicitDefEqProofs (maxSteps := 2000000) only [go_sem, hun]) (callOk_still (by kernel_rfl) (by simp only [List.all_cons, List.all_nil, LV.still, LV.leaves, Leaf.still, ints_still, ris_still, eds_still, rels_still, iss_still, ems_still, Bool.and_self, Bool.and_true])) (by simp -implicitDefEqProofs (maxSteps := 2000000) only [go_sem, hun]) ?_
      simp -implicitDefEqProofs (maxSteps := 2000000) only [go_sem, hun]
      rw [wi]
      refine ⟨i + 1, ⟨c1, upTo_step h2 (by rw [atomOk, ea, hrel, d4, h6]; rfl)⟩, by omega, ?_⟩
      exact (le_st' _ _ [⟨960, some _, false, 1, _⟩] [] _ (by simp -implicitDefEqProofs (maxSteps := 2000000) only [go_sem, hun] <;> and_intros <;> rfl) (by simp -implicitDefEqProofs (maxSteps := 2000000) only [go_sem, hun] <;> and_intros <;> rfl) (by simp -implicitDefEqProofs (maxSteps := 2000000) only [go_sem, hun] <;> and_intros <;> rfl) (by rfl))
  · obtain rfl : i = q.atoms.length := by omega
    simp -implicitDefEqProofs (maxSteps := 2000000) only [go_sem, c1]
    rw [all_occur v1 h2, goodQu, g, v1, v2, v3, h2]
    simp
end Go.Proofs.YtedciihjgbkjgacGreatDoor.A


/- EMBEDDINGS. Conditions: none. -/
namespace Go.Proofs.YtedciihjgbkjgacGreatDoor.A
open Go
set_option linter.unusedSimpArgs false
set_option linter.unusedVariables false
set_option maxRecDepth 100000

abbrev lEmb (e : Emb) : LV := .agg [.im 1 (ints e.vs), .im 1 (ints e.fs)]
abbrev oEmb (e : Emb) : LV := .agg [.ow 1 (ints e.vs), .ow 1 (ints e.fs)]
def szEmb (e : Emb) (n : Int) : Int := if szl e.vs n < 0 then -1 else if szl e.fs (szl e.vs n) < 0 then -1 else szl e.fs (szl e.vs n)
theorem szEmb_len {e : Emb} {n : Int} (h : -1 ≤ n ∧ n ≤ 1048576) (h0 : ¬ szEmb e n < 0) : e.vs.length ≤ 1048576 ∧ e.fs.length ≤ 1048576 ∧ -1 ≤ szEmb e n ∧ szEmb e n ≤ 1048576 := by
  unfold szEmb at h0 ⊢
  have a1 := szl_le (a := e.vs) h
  split at h0
  · omega
  · rename_i c1
    have a2 := szl_le (a := e.fs) a1
    split at h0
    · omega
    · rename_i c2
      rw [if_neg c1, if_neg c2]
      exact ⟨szl_len h.2 c1, szl_len a1.2 c2, a2⟩
theorem decide_and {p q : Prop} [Decidable p] [Decidable q] (h : p) : decide (p ∧ q) = decide q := by simp [h]
end Go.Proofs.YtedciihjgbkjgacGreatDoor.A


/- LISTS OF EMBEDDINGS: how they lie, comparison, marks. Conditions: none. -/
namespace Go.Proofs.YtedciihjgbkjgacGreatDoor.A
open Go
set_option linter.unusedSimpArgs false
set_option linter.unusedVariables false
set_option maxRecDepth 100000

abbrev lEms (a : List Emb) : LV := .one (.im 2 (ems 0 a))
abbrev oEms (a : List Emb) : LV := .one (.ow 2 (ems 1 a))

def numEm : List Emb → Nat
  | [] => 0
  | a :: l => a.vs.length + a.fs.length + numEm l
def markEm : List Emb → Int → List Emb
  | [], _ => []
  | a :: l, k => ⟨cnt k a.vs.length, cnt (k + a.vs.length) a.fs.length⟩ :: markEm l (k + a.vs.length + a.fs.length)
theorem numEm_nil : numEm [] = 0 := rfl
attribute [go_sem] numEm_nil
theorem markEm_length : ∀ (a : List Emb) (k : Int), (markEm a k).length = a.length
  | [], _ => rfl
  | a :: l, k => by rw [markEm, List.length_cons, List.length_cons, markEm_length]
theorem numEm_take {a : List Emb} {i : Nat} (h : i < a.length) : numEm (a.take (i + 1)) = numEm (a.take i) + (a.getD i default).vs.length + (a.getD i default).fs.length := by
  induction a generalizing i with
  | nil => simp at h
  | cons x a ih =>
    cases i with
    | zero => simp [numEm]
    | succ i =>
      have := ih (i := i) (by simpa using h)
      rw [List.take_succ_cons, List.take_succ_cons, numEm, numEm, this, List.getD_cons_succ]; omega
theorem numEm_le : ∀ {a : List Emb} (i : Nat), numEm (a.take i) ≤ numEm a
  | [], i => by simp [numEm]
  | x :: a, 0 => by simp [numEm]
  | x :: a, i + 1 => by
    rw [List.take_succ_cons, numEm, numEm]
    have := numEm_le (a := a) i
    omega
theorem numEm_small {n m : Nat} : ∀ {a : List Emb}, (∀ x ∈ a, x.vs.length ≤ n ∧ x.fs.length ≤ m) → numEm a ≤ a.length * (n + m)
  | [], _ => by simp [numEm]
  | x :: a, h => by
    have h1 := numEm_small (a := a) fun y hy => h y (List.mem_cons_of_mem _ hy)
    have h2 := h x (List.mem_cons_self ..)
    rw [numEm, List.length_cons, Nat.add_mul]; omega
theorem markEm_get : ∀ {a : List Emb} {k : Int} {i : Nat}, i < a.length → (markEm a k).getD i default = ⟨cnt (k + numEm (a.take i)) (a.getD i default).vs.length, cnt (k + numEm (a.take i) + (a.getD i default).vs.length) (a.getD i default).fs.length⟩
  | x :: a, k, 0, _ => by simp [markEm, numEm]
  | x :: a, k, i + 1, h => by
    rw [markEm, List.getD_cons_succ, markEm_get (by simpa using h), List.getD_cons_succ, List.take_succ_cons, numEm]
    have e : k + (x.vs.length : Int) + (x.fs.length : Int) + (numEm (a.take i) : Int) = k + ((x.vs.length + x.fs.length + numEm (a.take i) : Nat) : Int) := by omega
    rw [e]
theorem markEm_full (a : List Emb) (k : Int) : List.take a.length (markEm a k) = markEm a k := List.take_of_length_le (by rw [markEm_length]; omega)
attribute [go_sem] markEm_full
theorem Emb.eq_iff (a b : Emb) : decide (a = b) = (decide (a.vs = b.vs) && decide (a.fs = b.fs)) := by cases a; cases b; simp
end Go.Proofs.YtedciihjgbkjgacGreatDoor.A


/- FACTS IN ORDER; VALID DATABASES. Conditions: none. -/
namespace Go.Proofs.YtedciihjgbkjgacGreatDoor.A
open Go
set_option linter.unusedSimpArgs false
set_option linter.unusedVariables false
set_option maxRecDepth 100000

def cmpI (a b : Int) : Int := if a < b then -1 else if a > b then 1 else 0
theorem isNaN_sat (a : Int) : Sat Tryz.prog 119 [lInt a] [lBool false] [g1] := by
  refine sat_of_body mixed Tryz.func119 rfl (by kernel_rfl) (by kernel_rfl) (rs := [.tmp 2]) rfl rfl rfl ?_
  simp -implicitDefEqProofs (maxSteps := 2000000) only [go_sem]
def cmpRI (a b : RI) : Int := if a.r < b.r then -1 else if a.r > b.r then 1 else cmpInts a.l b.l
/-- Is the i-th fact valid, and behind the one before it. -/
def factOk (d : Db) (i : Nat) : Bool := goodFact d.rels (d.facts.getD i default) && (decide (i = 0) || !decide (cmpRI (d.facts.getD (i - 1) default) (d.facts.getD i default) ≥ 0))
def goodDb (d : Db) : Bool := goodRels d.rels && (decide ((d.facts.length : Int) ≤ 14) && upTo (factOk d) d.facts.length)
end Go.Proofs.YtedciihjgbkjgacGreatDoor.A


/- QUERIES FOR DATABASES. Conditions: none. -/
namespace Go.Proofs.YtedciihjgbkjgacGreatDoor.A
open Go
set_option linter.unusedSimpArgs false
set_option linter.unusedVariables false
set_option maxRecDepth 100000

def queryFor (d : Db) (q : Qu) : Bool := goodDb d && goodQu d.rels q
end Go.Proofs.YtedciihjgbkjgacGreatDoor.A
