
/- DATA OF THE PROGRAM, as lists, and how they lie in slices. Conditions: none. -/
import Derived.Test.YtbalifgacjmbpabGreatAT
namespace Go.Proofs.YtbalifgacjmbpabGreat.A
open Go
set_option linter.unusedSimpArgs false
set_option linter.unusedVariables false

theorem mixed : Tryz.prog.follows .mixedOrders = true := by kernel_rfl

/-! #### numbers -/
def iv (a : List Int) : List Value := a.map (.int .i64)
def ints (a : List Int) : Rows := lift (iv a)
theorem iv_length (a : List Int) : (iv a).length = a.length := by simp [iv]
theorem ints_length (a : List Int) : (ints a).length = a.length := by simp [ints, lift, iv]
theorem ints_eq (a : List Int) : ints a = a.map fun n => [Cell.sc (.int .i64 n)] := by simp [ints, lift, iv]
theorem ints_get {a : List Int} {i : Nat} (h : i < a.length) : (ints a).getD i [] = [Cell.sc (.int .i64 (a.getD i 0))] := by
  simp [ints_eq, List.getD_eq_getElem?_getD, h]
theorem ints_frz (a : List Int) : frz (ints a) = ints a := frz_lift _
theorem ints_rst (a : List Int) : rst (ints a) = ints a := rst_lift _
theorem ints_stm (n : Nat) (a : List Int) : stm n (ints a) = ints a := stm_lift n _
theorem ints_flat (a : List Int) : flatB (ints a) = true := lift_flatB _
theorem ints_unlift (a : List Int) : lift (unlift (ints a)) = ints a := by unfold ints; rw [unlift_lift]
theorem ints_take (a : List Int) (k : Nat) : (ints a).take k = ints (a.take k) := by simp [ints_eq]
theorem ints_drop (a : List Int) (k : Nat) : (ints a).drop k = ints (a.drop k) := by simp [ints_eq]
theorem ints_append (a b : List Int) : ints a ++ ints b = ints (a ++ b) := by simp [ints_eq]
theorem ints_one (n : Int) : [[Cell.sc (.int .i64 n)]] = ints [n] := by simp [ints_eq]
theorem ints_nil : ints [] = [] := rfl
theorem ints_set (a : List Int) (i : Nat) (n : Int) : (ints a).set i [Cell.sc (.int .i64 n)] = ints (a.set i n) := by simp [ints_eq, List.map_set]
theorem ints_rep (n : Nat) (m : Int) : List.replicate n [Cell.sc (.int .i64 m)] = ints (List.replicate n m) := by simp [ints_eq]
theorem lift_iv (a : List Int) : lift (iv a) = ints a := rfl
theorem iv_get {a : List Int} {i : Nat} (h : i < a.length) : (iv a).getD i default = .int .i64 (a.getD i 0) := by
  simp [iv, List.getD_eq_getElem?_getD, h]
theorem iv_take (a : List Int) (k : Nat) : (iv a).take k = iv (a.take k) := by simp [iv]
theorem iv_drop (a : List Int) (k : Nat) : (iv a).drop k = iv (a.drop k) := by simp [iv]
theorem iv_set (a : List Int) (i : Nat) (n : Int) : (iv a).set i (.int .i64 n) = iv (a.set i n) := by simp [iv, List.map_set]
theorem iv_unlift (a : List Int) : unlift (ints a) = iv a := unlift_lift _
theorem cellR_ints {s id len w' : Nat} {a : List Int} {K : Cell → List (Nat × Option Obj') → Prop} : cellR s id 1 0 len (some (w', ints a)) K = (len = a.length ∧ K (.sl s (iv a)) [(id, none)]) := by
  unfold ints; rw [cellR_lift, iv_length]
theorem cell_im_ints {st : St} {s w : Nat} {a : List Int} {K : Cell → List (Nat × Option Obj') → Prop} : cellK st s (.im w (ints a)) K = (w = 1 ∧ K (.sl 0 (iv a)) []) := cell_im
theorem ints_still (a : List Int) : stillRows (ints a) = true := by simp [stillRows, ints_eq, Cell.still]
attribute [go_sem] iv_length ints_length ints_get ints_frz ints_rst ints_stm ints_flat ints_unlift ints_take ints_drop ints_append ints_one ints_set ints_rep lift_iv iv_get iv_take iv_drop iv_set iv_unlift cellR_ints cell_im_ints List.take_length List.drop_length
theorem ofNat_lt_0 {k : Nat} : (0 < k) = ((0 : Nat) < k) := rfl
theorem i64_succ {k : Nat} (h : k < 9223372036854775807) : IntKind.i64.wrap ((k : Int) + 1) = ((k + 1 : Nat) : Int) := by
  rw [IntWalk.i64_in _ (by omega)]; rfl
theorem drop_cons {α : Type} {a : List α} {k : Nat} (d : α) (h : k < a.length) : a.drop k = a.getD k d :: a.drop (k + 1) := by
  rw [List.drop_eq_getElem_cons h]; simp [List.getD_eq_getElem?_getD, h]
theorem take_snoc {α : Type} {a : List α} {k : Nat} (d : α) (h : k < a.length) : a.take (k + 1) = a.take k ++ [a.getD k d] := by
  rw [List.take_succ_eq_append_getElem h]; simp [List.getD_eq_getElem?_getD, h]
theorem take_set_snoc {α : Type} {a b : List α} {k : Nat} (d : α) (hl : b.length = a.length) (h : b.take k = a.take k) (hk : k < a.length) : (b.set k (a.getD k d)).take (k + 1) = a.take (k + 1) := by
  rw [take_snoc d (by simpa [hl] using hk), take_snoc d hk, List.take_set_of_le (by omega), h]
  simp [List.getD_eq_getElem?_getD, hl, hk]
theorem of_take {α : Type} {a b : List α} {k : Nat} (hl : b.length = a.length) (h : b.take k = a.take k) (hk : a.length ≤ k) : b = a := by
  rwa [List.take_of_length_le (by omega), List.take_of_length_le hk] at h
theorem cast_ne {a b : Nat} (h : ((a : Int) != b) = false) : a = b := by
  have : (a : Int) = b := by simpa using h
  omega
attribute [go_sem] Int.reduceToNat Int.reduceLE Int.reduceLT Int.reduceAdd Int.reduceSub Int.reduceBEq Int.reduceBNe Int.reduceEq Int.reduceMul
attribute [go_sem] List.length_set List.length_append List.length_replicate List.length_map Nat.zero_add Nat.add_zero
end Go.Proofs.YtbalifgacjmbpabGreat.A
