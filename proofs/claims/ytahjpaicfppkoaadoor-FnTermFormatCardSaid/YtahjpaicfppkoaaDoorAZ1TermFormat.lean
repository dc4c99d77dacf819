/- Packed by pack.py: D F1 D2 F3 LK FM FMQ FD FV FDraw FLib FConst FTerm FTerm2 FDraw2 FMR FE WTermFormat LKB LTermFormat -/
import Derived.Test.YtahjpaicfppkoaaDoorAT
import Derived.WideShapes
import Derived.Laws.Strings
import Derived.Test.YtahjpaicfppkoaaDoorA40
import Derived.Test.YtahjpaicfppkoaaDoorA46
import Derived.Test.YtahjpaicfppkoaaDoorRows
import Derived.Test.YtahjpaicfppkoaaDoorCards
import Derived.Test.YtahjpaicfppkoaaDoorTie
import Derived.Lay
import Derived.LaidLaws
import Derived.Handed
import Derived.SevenTiedAt

/- DATA OF THE PROGRAM, as lists, and how they lie in slices. Conditions: none. -/
namespace Go.Proofs.YtahjpaicfppkoaaDoor.A
open Go
set_option linter.unusedSimpArgs false
set_option linter.unusedVariables false

theorem mixed : Tryd.prog.follows .mixedOrders = true := by kernel_rfl

/-! #### numbers -/
def iv (a : List Int) : List Value := a.map (.int .i64)
def ints (a : List Int) : Rows := lift (iv a)
theorem iv_length (a : List Int) : (iv a).length = a.length := by simp [iv]
theorem ints_length (a : List Int) : (ints a).length = a.length := by simp [ints, lift, iv]
theorem ints_eq (a : List Int) : ints a = a.map fun n => [Cell.sc (.int .i64 n)] := by simp [ints, lift, iv]
theorem ints_get {a : List Int} {i : Nat} (h : i < a.length) : (ints a).getD i [] = [Cell.sc (.int .i64 (a.getD i 0))] := by
  simp [ints_eq, List.getD_eq_getElem?_getD, h]
theorem ints_frz (a : List Int) : frz (ints a) = ints a := frz_lift _
theorem ints_rst (a : List Int) : rst (ints a) = ints a := rst_lift _
theorem ints_stm (n : Nat) (a : List Int) : stm n (ints a) = ints a := stm_lift n _
theorem ints_flat (a : List Int) : flatB (ints a) = true := lift_flatB _
theorem ints_unlift (a : List Int) : lift (unlift (ints a)) = ints a := by unfold ints; rw [unlift_lift]
theorem ints_take (a : List Int) (k : Nat) : (ints a).take k = ints (a.take k) := by simp [ints_eq]
theorem ints_drop (a : List Int) (k : Nat) : (ints a).drop k = ints (a.drop k) := by simp [ints_eq]
theorem ints_append (a b : List Int) : ints a ++ ints b = ints (a ++ b) := by simp [ints_eq]
theorem ints_one (n : Int) : [[Cell.sc (.int .i64 n)]] = ints [n] := by simp [ints_eq]
theorem ints_nil : ints [] = [] := rfl
theorem ints_set (a : List Int) (i : Nat) (n : Int) : (ints a).set i [Cell.sc (.int .i64 n)] = ints (a.set i n) := by simp [ints_eq, List.map_set]
theorem ints_rep (n : Nat) (m : Int) : List.replicate n [Cell.sc (.int .i64 m)] = ints (List.replicate n m) := by simp [ints_eq]
theorem lift_iv (a : List Int) : lift (iv a) = ints a := rfl
theorem iv_get {a : List Int} {i : Nat} (h : i < a.length) : (iv a).getD i default = .int .i64 (a.getD i 0) := by
  simp [iv, List.getD_eq_getElem?_getD, h]
theorem iv_take (a : List Int) (k : Nat) : (iv a).take k = iv (a.take k) := by simp [iv]
theorem iv_drop (a : List Int) (k : Nat) : (iv a).drop k = iv (a.drop k) := by simp [iv]
theorem iv_set (a : List Int) (i : Nat) (n : Int) : (iv a).set i (.int .i64 n) = iv (a.set i n) := by simp [iv, List.map_set]
theorem iv_unlift (a : List Int) : unlift (ints a) = iv a := unlift_lift _
theorem cellR_ints {s id len w' : Nat} {a : List Int} {K : Cell → List (Nat × Option Obj') → Prop} : cellR s id 1 0 len (some (w', ints a)) K = (len = a.length ∧ K (.sl s (iv a)) [(id, none)]) := by
  unfold ints; rw [cellR_lift, iv_length]
theorem cell_im_ints {st : St} {s w : Nat} {a : List Int} {K : Cell → List (Nat × Option Obj') → Prop} : cellK st s (.im w (ints a)) K = (w = 1 ∧ K (.sl 0 (iv a)) []) := cell_im
theorem ints_still (a : List Int) : stillRows (ints a) = true := by simp [stillRows, ints_eq, Cell.still]
attribute [go_sem] iv_length ints_length ints_get ints_frz ints_rst ints_stm ints_flat ints_unlift ints_take ints_drop ints_append ints_one ints_set ints_rep lift_iv iv_get iv_take iv_drop iv_set iv_unlift cellR_ints cell_im_ints List.take_length List.drop_length
theorem ofNat_lt_0 {k : Nat} : (0 < k) = ((0 : Nat) < k) := rfl
theorem i64_succ {k : Nat} (h : k < 9223372036854775807) : IntKind.i64.wrap ((k : Int) + 1) = ((k + 1 : Nat) : Int) := by
  rw [IntWalk.i64_in _ (by omega)]; rfl
theorem drop_cons {α : Type} {a : List α} {k : Nat} (d : α) (h : k < a.length) : a.drop k = a.getD k d :: a.drop (k + 1) := by
  rw [List.drop_eq_getElem_cons h]; simp [List.getD_eq_getElem?_getD, h]
theorem take_snoc {α : Type} {a : List α} {k : Nat} (d : α) (h : k < a.length) : a.take (k + 1) = a.take k ++ [a.getD k d] := by
  rw [List.take_succ_eq_append_getElem h]; simp [List.getD_eq_getElem?_getD, h]
theorem take_set_snoc {α : Type} {a b : List α} {k : Nat} (d : α) (hl : b.length = a.length) (h : b.take k = a.take k) (hk : k < a.length) : (b.set k (a.getD k d)).take (k + 1) = a.take (k + 1) := by
  rw [take_snoc d (by simpa [hl] using hk), take_snoc d hk, List.take_set_of_le (by omega), h]
  simp [List.getD_eq_getElem?_getD, hl, hk]
theorem of_take {α : Type} {a b : List α} {k : Nat} (hl : b.length = a.length) (h : b.take k = a.take k) (hk : a.length ≤ k) : b = a := by
  rwa [List.take_of_length_le (by omega), List.take_of_length_le hk] at h
theorem cast_ne {a b : Nat} (h : ((a : Int) != b) = false) : a = b := by
  have : (a : Int) = b := by simpa using h
  omega
attribute [go_sem] Int.reduceToNat Int.reduceLE Int.reduceLT Int.reduceAdd Int.reduceSub Int.reduceBEq Int.reduceBNe Int.reduceEq Int.reduceMul
attribute [go_sem] List.length_set List.length_append List.length_replicate List.length_map Nat.zero_add Nat.add_zero
end Go.Proofs.YtahjpaicfppkoaaDoor.A


/- THE SMALLEST FUNCTIONS: lists of numbers. Conditions: none. -/
namespace Go.Proofs.YtahjpaicfppkoaaDoor.A
open Go
set_option linter.unusedSimpArgs false
set_option linter.unusedVariables false
set_option maxRecDepth 100000

theorem l1In_sat (x a b : Int) : Sat Tryd.prog 21 [.one (.sc (.int .i64 x)), .one (.sc (.int .i64 a)), .one (.sc (.int .i64 b))] [.one (.sc (.bool (decide (a ≤ x) && decide (x ≤ b))))] [.one .gone, .one .gone, .one .gone] := by
  refine sat_of_body mixed Tryd.func21 rfl (by kernel_rfl) (by kernel_rfl) (rs := [.tmp 6]) rfl rfl rfl ?_
  by_cases h1 : a ≤ x <;> by_cases h2 : x ≤ b <;> simp -implicitDefEqProofs (maxSteps := 2000000) only [go_sem, h1, h2, ge_iff_le, Bool.and_true, Bool.and_false]
theorem within_sat (x a b : Int) : Sat Tryd.prog 16 [.one (.sc (.int .i64 x)), .one (.sc (.int .i64 a)), .one (.sc (.int .i64 b))] [.one (.sc (.bool (decide (a ≤ x) && decide (x ≤ b))))] [.one .gone, .one .gone, .one .gone] := by
  refine sat_of_body mixed Tryd.func16 rfl (by kernel_rfl) (by kernel_rfl) (rs := [.tmp 6]) rfl rfl rfl ?_
  by_cases h1 : a ≤ x <;> by_cases h2 : x ≤ b <;> simp -implicitDefEqProofs (maxSteps := 2000000) only [go_sem, h1, h2, Bool.and_true, Bool.and_false]

def cmpInts : List Int → List Int → Int
  | [], [] => 0
  | [], _ :: _ => -1
  | _ :: _, [] => 1
  | a :: l, b :: m => if a < b then -1 else if a > b then 1 else cmpInts l m
theorem cmpInts_zero : ∀ {a b : List Int}, cmpInts a b = 0 ↔ a = b
  | [], [] => by simp [cmpInts]
  | [], _ :: _ => by simp [cmpInts]
  | _ :: _, [] => by simp [cmpInts]
  | a :: l, b :: m => by
    unfold cmpInts
    rcases Int.lt_trichotomy a b with h | h | h
    · simp [h]; omega
    · subst h; simp [cmpInts_zero]
    · rw [if_neg (by omega), if_pos h]; simp; omega
theorem cmp_beq (a b : List Int) : (cmpInts a b == 0) = decide (a = b) := by
  rw [Bool.eq_iff_iff]; simp [cmpInts_zero]
theorem cmp_bne (a b : List Int) : (cmpInts a b != 0) = !decide (a = b) := by rw [bne, cmp_beq]
attribute [go_sem] beq_self_eq_true bne_self_eq_false Bool.and_self Bool.true_and Bool.false_and Bool.and_true Bool.and_false Bool.not_true Bool.not_false Bool.true_or Bool.false_or Bool.or_true Bool.or_false
/-- Two lists, element by element. -/
theorem eqList_step {a b : List Int} {k : Nat} (h1 : k < a.length) (h2 : k < b.length) (h : a.take k = b.take k) (e : a.getD k 0 = b.getD k 0) : a.take (k + 1) = b.take (k + 1) := by
  rw [take_snoc 0 h1, take_snoc 0 h2, h, e]
theorem eqList_ne {a b : List Int} {k : Nat} (e : a.getD k 0 ≠ b.getD k 0) : a ≠ b := fun h => e (by rw [h])
/-- What is left of a measure of size. -/
def szl (a : List Int) (n : Int) : Int := if n - a.length < 0 then -1 else n - a.length
theorem szl_le {a : List Int} {n : Int} (h : -1 ≤ n ∧ n ≤ 1048576) : -1 ≤ szl a n ∧ szl a n ≤ 1048576 := by unfold szl; split <;> omega
theorem szl_len {a : List Int} {n : Int} (h : n ≤ 1048576) (h0 : ¬ szl a n < 0) : a.length ≤ 1048576 := by unfold szl at h0; split at h0 <;> omega
end Go.Proofs.YtahjpaicfppkoaaDoor.A


/- DATA OF THE PROGRAM: relations, facts, atoms, edges, constraints, lists of lists. Conditions: none. -/
namespace Go.Proofs.YtahjpaicfppkoaaDoor.A
open Go
set_option linter.unusedSimpArgs false
set_option linter.unusedVariables false

theorem frz_map {α : Type} (c c' : α → List Cell) (h : ∀ a, (c a).map Cell.frz = c' a) (l : List α) : frz (l.map c) = l.map c' := by simp [frz, Function.comp_def, h]
theorem rst_map {α : Type} (c c' : α → List Cell) (h : ∀ a, (c a).map Cell.rst = c' a) (l : List α) : rst (l.map c) = l.map c' := by simp [rst, Function.comp_def, h]
theorem stm_map {α : Type} (n : Nat) (c c' : α → List Cell) (h : ∀ a, (c a).map (Cell.stm n) = c' a) (l : List α) : stm n (l.map c) = l.map c' := by simp [stm, Function.comp_def, h]
theorem get_map {α : Type} (d : α) (c : α → List Cell) {l : List α} {i : Nat} (h : i < l.length) : (l.map c).getD i [] = c (l.getD i d) := by
  simp [List.getD_eq_getElem?_getD, h]
theorem stm_append (n : Nat) (a b : Rows) : stm n (a ++ b) = stm n a ++ stm n b := by simp [stm]
theorem stm_set (n : Nat) (a : Rows) (i : Nat) (r : List Cell) : stm n (a.set i r) = (stm n a).set i (r.map (Cell.stm n)) := by simp [stm, List.map_set]
theorem stm_cons (n : Nat) (r : List Cell) (a : Rows) : stm n (r :: a) = r.map (Cell.stm n) :: stm n a := rfl
theorem stm_nil (n : Nat) : stm n [] = [] := rfl
theorem cstm_sc (n : Nat) (v : Value) : Cell.stm n (.sc v) = .sc v := rfl
theorem cstm_sl (n s : Nat) (xs : List Value) : Cell.stm n (.sl (s + 1) xs) = .sl n xs := rfl
theorem cstm_sl0 (n : Nat) (xs : List Value) : Cell.stm n (.sl 0 xs) = .sl 0 xs := rfl
attribute [go_sem] stm_append stm_set stm_cons stm_nil cstm_sc cstm_sl cstm_sl0

/-! #### relations -/
structure Rel where
  name : ByteArray
  ar : Int
  kl : Int
  deriving DecidableEq
instance : Inhabited Rel := ⟨⟨ByteArray.empty, 0, 0⟩⟩
def cRel (x : Rel) : List Cell := [.sc (.string x.name), .sc (.int .i64 x.ar), .sc (.int .i64 x.kl)]
def rels (l : List Rel) : Rows := l.map cRel
theorem rels_length (l : List Rel) : (rels l).length = l.length := by simp [rels]
theorem rels_get {l : List Rel} {i : Nat} (h : i < l.length) : (rels l).getD i [] = [.sc (.string (l.getD i default).name), .sc (.int .i64 (l.getD i default).ar), .sc (.int .i64 (l.getD i default).kl)] := get_map default cRel h
theorem rels_frz (l : List Rel) : frz (rels l) = rels l := frz_map _ _ (fun _ => rfl) l
theorem rels_rst (l : List Rel) : rst (rels l) = rels l := rst_map _ _ (fun _ => rfl) l
theorem rels_stm (n : Nat) (l : List Rel) : stm n (rels l) = rels l := stm_map n _ _ (fun _ => rfl) l
theorem rels_flat (l : List Rel) : flatB (rels l) = true := by simp [flatB, rels, cRel, Cell.flatB]
theorem rels_take (l : List Rel) (k : Nat) : (rels l).take k = rels (l.take k) := by simp [rels]
theorem rels_drop (l : List Rel) (k : Nat) : (rels l).drop k = rels (l.drop k) := by simp [rels]
theorem rels_append (a b : List Rel) : rels a ++ rels b = rels (a ++ b) := by simp [rels]
theorem rels_set (l : List Rel) (i : Nat) (s : ByteArray) (a k : Int) : (rels l).set i [.sc (.string s), .sc (.int .i64 a), .sc (.int .i64 k)] = rels (l.set i ⟨s, a, k⟩) := by simp [rels, List.map_set, cRel]
theorem rels_rep (n : Nat) (s : ByteArray) (a k : Int) : List.replicate n [Cell.sc (.string s), .sc (.int .i64 a), .sc (.int .i64 k)] = rels (List.replicate n ⟨s, a, k⟩) := by simp [rels, cRel]
theorem rels_nil : rels [] = [] := rfl
attribute [go_sem] rels_length rels_get rels_frz rels_rst rels_stm rels_flat rels_take rels_drop rels_append rels_set rels_rep

/-! #### facts and atoms -/
structure RI where
  r : Int
  l : List Int
  deriving DecidableEq
instance : Inhabited RI := ⟨⟨0, []⟩⟩
def cRI (s : Nat) (x : RI) : List Cell := [.sc (.int .i64 x.r), .sl s (iv x.l)]
def ris (s : Nat) (l : List RI) : Rows := l.map (cRI s)
theorem ris_length (s : Nat) (l : List RI) : (ris s l).length = l.length := by simp [ris]
theorem ris_get {s : Nat} {l : List RI} {i : Nat} (h : i < l.length) : (ris s l).getD i [] = [.sc (.int .i64 (l.getD i default).r), .sl s (iv (l.getD i default).l)] := get_map default (cRI s) h
theorem ris_frz (s : Nat) (l : List RI) : frz (ris s l) = ris 0 l := frz_map _ _ (fun _ => rfl) l
theorem ris_rst0 (l : List RI) : rst (ris 0 l) = ris 0 l := rst_map _ _ (fun _ => rfl) l
theorem ris_rst (s : Nat) (l : List RI) : rst (ris (s + 1) l) = ris 1 l := rst_map _ _ (fun _ => rfl) l
theorem ris_stm (n s : Nat) (l : List RI) : stm n (ris (s + 1) l) = ris n l := stm_map n _ _ (fun _ => rfl) l
theorem ris_flat (l : List RI) : flatB (ris 0 l) = true := by simp [flatB, ris, cRI, Cell.flatB]
theorem ris_take (s : Nat) (l : List RI) (k : Nat) : (ris s l).take k = ris s (l.take k) := by simp [ris]
theorem ris_drop (s : Nat) (l : List RI) (k : Nat) : (ris s l).drop k = ris s (l.drop k) := by simp [ris]
theorem ris_append (s : Nat) (a b : List RI) : ris s a ++ ris s b = ris s (a ++ b) := by simp [ris]
theorem ris_snoc (s : Nat) (a : List RI) (r : Int) (l : List Int) : ris s a ++ [[.sc (.int .i64 r), .sl s (iv l)]] = ris s (a ++ [⟨r, l⟩]) := by simp [ris, cRI]
theorem ris_one (s : Nat) (r : Int) (l : List Int) : [[Cell.sc (.int .i64 r), .sl s (iv l)]] = ris s [⟨r, l⟩] := by simp [ris, cRI]
theorem ris_set (s : Nat) (l : List RI) (i : Nat) (r : Int) (x : List Int) : (ris s l).set i [.sc (.int .i64 r), .sl s (iv x)] = ris s (l.set i ⟨r, x⟩) := by simp [ris, List.map_set, cRI]
theorem ris_setCell {s : Nat} {l : List RI} {i : Nat} (x : List Int) (h : i < l.length) : Rows.setCell (ris s l) i 1 (.sl s (iv x)) = ris s (l.set i ⟨(l.getD i default).r, x⟩) := by
  unfold Rows.setCell
  rw [ris_get h]
  exact ris_set s l i _ x
theorem take1 {α : Type} (d x : α) : List.take 1 ((List.replicate 1 d).set 0 x) = [x] := rfl
theorem take2 {α : Type} (d x y : α) : List.take 2 (((List.replicate 2 d).set 0 x).set 1 y) = [x, y] := rfl
attribute [go_sem] take1 take2 List.length_cons List.length_nil
theorem getD_set_same {α : Type} {l : List α} {i : Nat} {x d : α} (h : i < l.length) : (l.set i x).getD i d = x := by
  simp [List.getD_eq_getElem?_getD, h]
theorem ris_rep (s n : Nat) (r : Int) : List.replicate n [Cell.sc (.int .i64 r), .sl s []] = ris s (List.replicate n ⟨r, []⟩) := by simp [ris, cRI, iv]
theorem ris_nil (s : Nat) : ris s [] = [] := rfl
attribute [go_sem] ris_length ris_get ris_frz ris_rst0 ris_rst ris_stm ris_flat ris_take ris_drop ris_append ris_snoc ris_set ris_rep ris_setCell getD_set_same List.set_set

/-! #### lists of lists -/
def cIS (s : Nat) (x : List Int) : List Cell := [.sl s (iv x)]
def iss (s : Nat) (l : List (List Int)) : Rows := l.map (cIS s)
theorem iss_length (s : Nat) (l : List (List Int)) : (iss s l).length = l.length := by simp [iss]
theorem iss_get {s : Nat} {l : List (List Int)} {i : Nat} (h : i < l.length) : (iss s l).getD i [] = [.sl s (iv (l.getD i []))] := get_map [] (cIS s) h
theorem iss_frz (s : Nat) (l : List (List Int)) : frz (iss s l) = iss 0 l := frz_map _ _ (fun _ => rfl) l
theorem iss_rst0 (l : List (List Int)) : rst (iss 0 l) = iss 0 l := rst_map _ _ (fun _ => rfl) l
theorem iss_rst (s : Nat) (l : List (List Int)) : rst (iss (s + 1) l) = iss 1 l := rst_map _ _ (fun _ => rfl) l
theorem iss_stm (n s : Nat) (l : List (List Int)) : stm n (iss (s + 1) l) = iss n l := stm_map n _ _ (fun _ => rfl) l
theorem iss_flat (l : List (List Int)) : flatB (iss 0 l) = true := by simp [flatB, iss, cIS, Cell.flatB]
theorem iss_append (s : Nat) (a b : List (List Int)) : iss s a ++ iss s b = iss s (a ++ b) := by simp [iss]
theorem iss_take (s : Nat) (l : List (List Int)) (k : Nat) : (iss s l).take k = iss s (l.take k) := by simp [iss]
theorem iss_drop (s : Nat) (l : List (List Int)) (k : Nat) : (iss s l).drop k = iss s (l.drop k) := by simp [iss]
theorem iss_set (s : Nat) (l : List (List Int)) (i : Nat) (x : List Int) : (iss s l).set i [.sl s (iv x)] = iss s (l.set i x) := by simp [iss, List.map_set, cIS]
theorem iss_one (s : Nat) (x : List Int) : [[Cell.sl s (iv x)]] = iss s [x] := by simp [iss, cIS]
theorem iss_nil (s : Nat) : iss s [] = [] := rfl
attribute [go_sem] iss_length iss_get iss_frz iss_rst0 iss_rst iss_stm iss_flat iss_append iss_take iss_drop iss_set

/-! #### edges -/
structure Edge where
  a : Int
  b : Int
  deriving DecidableEq
instance : Inhabited Edge := ⟨⟨0, 0⟩⟩
def cEd (x : Edge) : List Cell := [.sc (.int .i64 x.a), .sc (.int .i64 x.b)]
def eds (l : List Edge) : Rows := l.map cEd
theorem eds_length (l : List Edge) : (eds l).length = l.length := by simp [eds]
theorem eds_get {l : List Edge} {i : Nat} (h : i < l.length) : (eds l).getD i [] = [.sc (.int .i64 (l.getD i default).a), .sc (.int .i64 (l.getD i default).b)] := get_map default cEd h
theorem eds_frz (l : List Edge) : frz (eds l) = eds l := frz_map _ _ (fun _ => rfl) l
theorem eds_rst (l : List Edge) : rst (eds l) = eds l := rst_map _ _ (fun _ => rfl) l
theorem eds_stm (n : Nat) (l : List Edge) : stm n (eds l) = eds l := stm_map n _ _ (fun _ => rfl) l
theorem eds_flat (l : List Edge) : flatB (eds l) = true := by simp [flatB, eds, cEd, Cell.flatB]
theorem eds_take (l : List Edge) (k : Nat) : (eds l).take k = eds (l.take k) := by simp [eds]
theorem eds_drop (l : List Edge) (k : Nat) : (eds l).drop k = eds (l.drop k) := by simp [eds]
theorem eds_append (a b : List Edge) : eds a ++ eds b = eds (a ++ b) := by simp [eds]
theorem eds_snoc (l : List Edge) (a b : Int) : eds l ++ [[.sc (.int .i64 a), .sc (.int .i64 b)]] = eds (l ++ [⟨a, b⟩]) := by simp [eds, cEd]
theorem eds_set (l : List Edge) (i : Nat) (a b : Int) : (eds l).set i [.sc (.int .i64 a), .sc (.int .i64 b)] = eds (l.set i ⟨a, b⟩) := by simp [eds, List.map_set, cEd]
theorem eds_rep (n : Nat) (a b : Int) : List.replicate n [Cell.sc (.int .i64 a), .sc (.int .i64 b)] = eds (List.replicate n ⟨a, b⟩) := by simp [eds, cEd]
theorem eds_nil : eds [] = [] := rfl
attribute [go_sem] eds_length eds_get eds_frz eds_rst eds_stm eds_flat eds_take eds_drop eds_append eds_snoc eds_set eds_rep

/-! #### embeddings -/
structure Emb where
  vs : List Int
  fs : List Int
  deriving DecidableEq
instance : Inhabited Emb := ⟨⟨[], []⟩⟩
def cEm (s : Nat) (x : Emb) : List Cell := [.sl s (iv x.vs), .sl s (iv x.fs)]
def ems (s : Nat) (l : List Emb) : Rows := l.map (cEm s)
theorem ems_length (s : Nat) (l : List Emb) : (ems s l).length = l.length := by simp [ems]
theorem ems_get {s : Nat} {l : List Emb} {i : Nat} (h : i < l.length) : (ems s l).getD i [] = [.sl s (iv (l.getD i default).vs), .sl s (iv (l.getD i default).fs)] := get_map default (cEm s) h
theorem ems_frz (s : Nat) (l : List Emb) : frz (ems s l) = ems 0 l := frz_map _ _ (fun _ => rfl) l
theorem ems_rst0 (l : List Emb) : rst (ems 0 l) = ems 0 l := rst_map _ _ (fun _ => rfl) l
theorem ems_rst (s : Nat) (l : List Emb) : rst (ems (s + 1) l) = ems 1 l := rst_map _ _ (fun _ => rfl) l
theorem ems_stm (n s : Nat) (l : List Emb) : stm n (ems (s + 1) l) = ems n l := stm_map n _ _ (fun _ => rfl) l
theorem ems_flat (l : List Emb) : flatB (ems 0 l) = true := by simp [flatB, ems, cEm, Cell.flatB]
theorem ems_take (s : Nat) (l : List Emb) (k : Nat) : (ems s l).take k = ems s (l.take k) := by simp [ems]
theorem ems_drop (s : Nat) (l : List Emb) (k : Nat) : (ems s l).drop k = ems s (l.drop k) := by simp [ems]
theorem ems_append (s : Nat) (a b : List Emb) : ems s a ++ ems s b = ems s (a ++ b) := by simp [ems]
theorem ems_one (s : Nat) (a b : List Int) : [[Cell.sl s (iv a), .sl s (iv b)]] = ems s [⟨a, b⟩] := by simp [ems, cEm]
theorem ems_set (s : Nat) (l : List Emb) (i : Nat) (a b : List Int) : (ems s l).set i [.sl s (iv a), .sl s (iv b)] = ems s (l.set i ⟨a, b⟩) := by simp [ems, List.map_set, cEm]
theorem ems_nil (s : Nat) : ems s [] = [] := rfl
theorem ems_still (s : Nat) (l : List Emb) : stillRows (ems (s + 1) l) = true := by simp [stillRows, ems, cEm, Cell.still]
theorem ems_set0 {s : Nat} {l : List Emb} {i : Nat} (x : List Int) (h : i < l.length) : Rows.setCell (ems s l) i 0 (.sl s (iv x)) = ems s (l.set i ⟨x, (l.getD i default).fs⟩) := by
  unfold Rows.setCell
  rw [ems_get h]
  exact ems_set s l i x _
theorem ems_set1 {s : Nat} {l : List Emb} {i : Nat} (x : List Int) (h : i < l.length) : Rows.setCell (ems s l) i 1 (.sl s (iv x)) = ems s (l.set i ⟨(l.getD i default).vs, x⟩) := by
  unfold Rows.setCell
  rw [ems_get h]
  exact ems_set s l i _ x
attribute [go_sem] ems_length ems_get ems_frz ems_rst0 ems_rst ems_stm ems_flat ems_take ems_drop ems_append ems_set ems_set0 ems_set1
theorem takeL1 (s : List Int) (x : Int) : List.take (s.length + 1) (s ++ [x]) = s ++ [x] := List.take_of_length_le (by simp)
attribute [go_sem] takeL1

theorem str_beq (a b : ByteArray) : (a.toList == b.toList) = decide (a = b) := by
  rw [ByteArray.toList_eq, ByteArray.toList_eq, Bool.eq_iff_iff, decide_eq_true_iff, beq_iff_eq]
  exact ⟨fun h => Go.WideShapes.bytes_inj h, fun h => by rw [h]⟩
theorem i64_pred {j : Nat} (h : j < 9223372036854775807) : IntKind.i64.wrap (((j + 1 : Nat) : Int) - 1) = (j : Int) := by
  rw [IntWalk.i64_in _ (by omega)]; omega
attribute [go_sem] str_beq
theorem tr_and {ops : List Oper} {tr : List Tr} {c : Prop} (h : trOk ops tr = true) (hc : c) : trOk ops tr = true ∧ c := ⟨h, hc⟩
theorem tr_only {ops : List Oper} {tr : List Tr} (h : trOk ops tr = true) : trOk ops tr = true := h
theorem callOk_still {handed lent : List Nat} {res upd : List LV} (h : (lent.all (fun i => !handed.contains i) && decide handed.Nodup) = true) (h2 : (res.all LV.still && upd.all LV.still) = true) : (callOk handed lent res upd && decide handed.Nodup) = true := by
  rw [Bool.and_eq_true] at h
  unfold callOk
  rw [h.1, h.2, h2]
  simp
theorem ris_still (s : Nat) (l : List RI) : stillRows (ris (s + 1) l) = true := by simp [stillRows, ris, cRI, Cell.still]
theorem eds_still (l : List Edge) : stillRows (eds l) = true := by simp [stillRows, eds, cEd, Cell.still]
theorem rels_still (l : List Rel) : stillRows (rels l) = true := by simp [stillRows, rels, cRel, Cell.still]
theorem iss_still (s : Nat) (l : List (List Int)) : stillRows (iss (s + 1) l) = true := by simp [stillRows, iss, cIS, Cell.still]
theorem le_st' {st : St} (slots : List (Nat × AV)) (vars : List (Nat × List SV)) (obs : List OE) (fro : List Nat) (next : Nat)
    (hs : eachL (fun p : Nat × AV => leAV st obs fro (st.slots p.1) p.2) slots) (hv : eachL (fun p : Nat × List SV => leVar st obs fro (st.vars p.1) p.2) vars) (ho : eachL (OE.okay st next) obs) (hn : namesOk slots vars obs fro next = true) :
    Le st (mkSt slots vars (obs.map fun e => (e.new, (e.w, e.rows))) next) := le_st slots vars obs fro next hn hs hv ho
abbrev lInt (n : Int) : LV := .one (.sc (.int .i64 n))
abbrev lBool (b : Bool) : LV := .one (.sc (.bool b))
abbrev lStr (s : ByteArray) : LV := .one (.sc (.string s))
abbrev lInts (a : List Int) : LV := .one (.im 1 (ints a))
abbrev oInts (a : List Int) : LV := .one (.ow 1 (ints a))
abbrev lISS (a : List (List Int)) : LV := .one (.im 1 (iss 0 a))
abbrev oISS (a : List (List Int)) : LV := .one (.ow 1 (iss 1 a))
abbrev lRels (a : List Rel) : LV := .one (.im 3 (rels a))
abbrev oRels (a : List Rel) : LV := .one (.ow 3 (rels a))
abbrev lRel (a : Rel) : LV := .agg [.sc (.string a.name), .sc (.int .i64 a.ar), .sc (.int .i64 a.kl)]
abbrev lRI (a : RI) : LV := .agg [.sc (.int .i64 a.r), .im 1 (ints a.l)]
abbrev oRI (a : RI) : LV := .agg [.sc (.int .i64 a.r), .ow 1 (ints a.l)]
abbrev lRIs (a : List RI) : LV := .one (.im 2 (ris 0 a))
abbrev oRIs (a : List RI) : LV := .one (.ow 2 (ris 1 a))
abbrev lEds (a : List Edge) : LV := .one (.im 2 (eds a))
abbrev oEds (a : List Edge) : LV := .one (.ow 2 (eds a))
structure Db where
  rels : List Rel
  facts : List RI
  deriving DecidableEq
structure Qu where
  vc : Int
  atoms : List RI
  free : List Int
  deriving DecidableEq
abbrev lDb (d : Db) : LV := .agg [.im 3 (A.rels d.rels), .im 2 (ris 0 d.facts)]
abbrev oDb (d : Db) : LV := .agg [.ow 3 (A.rels d.rels), .ow 2 (ris 1 d.facts)]
abbrev lQu (q : Qu) : LV := .agg [.sc (.int .i64 q.vc), .im 2 (ris 0 q.atoms), .im 1 (ints q.free)]
abbrev oQu (q : Qu) : LV := .agg [.sc (.int .i64 q.vc), .ow 2 (ris 1 q.atoms), .ow 1 (ints q.free)]
abbrev uQu (q : Qu) : LV := .agg [.gone, .ow 2 (ris 1 q.atoms), .ow 1 (ints q.free)]
abbrev uRI (a : RI) : LV := .agg [.gone, .ow 1 (ints a.l)]
abbrev sQu (q : Qu) : List SV := [.sc (.int .i64 q.vc), .im 2 (ris 0 q.atoms), .im 1 (ints q.free)]
abbrev sDb (d : Db) : List SV := [.im 3 (A.rels d.rels), .im 2 (ris 0 d.facts)]
abbrev sRI (a : RI) : List SV := [.sc (.int .i64 a.r), .im 1 (ints a.l)]
abbrev g1 : LV := .one .gone
abbrev g2 : LV := .agg [.gone, .gone]
abbrev g3 : LV := .agg [.gone, .gone, .gone]
end Go.Proofs.YtahjpaicfppkoaaDoor.A


/- ATOMS AND QUERIES: size, copy, comparison. Conditions: none. -/
namespace Go.Proofs.YtahjpaicfppkoaaDoor.A
open Go
set_option linter.unusedSimpArgs false
set_option linter.unusedVariables false
set_option maxRecDepth 100000

/-! #### measures of size -/
def szF {α : Type} (f : α → Int → Int) : List α → Int → Int
  | [], n => n
  | a :: l, n => if f a n < 0 then -1 else szF f l (f a n)
def szAll {α : Type} (f : α → Int → Int) (l : List α) (n : Int) : Int := if n - l.length < 0 then -1 else szF f l (n - l.length)
def SzOk {α : Type} (f : α → Int → Int) (P : α → Prop) : Prop := ∀ a n, -1 ≤ n ∧ n ≤ 1048576 → (-1 ≤ f a n ∧ f a n ≤ 1048576) ∧ (¬ f a n < 0 → P a)
theorem szF_ok {α : Type} {f : α → Int → Int} {P : α → Prop} (h : SzOk f P) : ∀ (l : List α) (n : Int), -1 ≤ n ∧ n ≤ 1048576 → (-1 ≤ szF f l n ∧ szF f l n ≤ 1048576) ∧ (¬ szF f l n < 0 → ∀ a ∈ l, P a)
  | [], n, hn => ⟨hn, fun _ => by simp⟩
  | a :: l, n, hn => by
    unfold szF
    have h1 := h a n hn
    split
    · exact ⟨by omega, fun h => absurd (by omega) h⟩
    · rename_i c
      have h2 := szF_ok h l (f a n) h1.1
      exact ⟨h2.1, fun h3 => by simp only [List.mem_cons, forall_eq_or_imp]; exact ⟨h1.2 c, h2.2 h3⟩⟩
theorem szAll_ok {α : Type} {f : α → Int → Int} {P : α → Prop} (h : SzOk f P) : SzOk (szAll f) (fun l => l.length ≤ 1048576 ∧ ∀ a ∈ l, P a) := by
  intro l n hn
  unfold szAll
  split
  · exact ⟨by omega, fun h => absurd (by omega) h⟩
  · have h2 := szF_ok h l (n - l.length) (by omega)
    exact ⟨h2.1, fun h3 => ⟨by omega, h2.2 h3⟩⟩
theorem szl_ok : SzOk szl (fun a => a.length ≤ 1048576) := fun a n h => ⟨szl_le h, fun c => szl_len h.2 c⟩
def szRI (a : RI) (n : Int) : Int := szl a.l n
def RI.ok (a : RI) : Prop := a.l.length ≤ 1048576
def RI.fit (a : RI) : Prop := a.l.length ≤ 9223372036854775807
theorem szRI_ok : SzOk szRI RI.ok := fun a n h => szl_ok a.l n h

theorem mem_getD {α : Type} {l : List α} {k : Nat} (d : α) (h : k < l.length) : l.getD k d ∈ l := by
  rw [List.getD_eq_getElem?_getD, List.getElem?_eq_getElem h]; exact List.getElem_mem h
def szQu (q : Qu) (n : Int) : Int := if szAll szRI q.atoms n < 0 then -1 else szl q.free (szAll szRI q.atoms n)
def Qu.ok (q : Qu) : Prop := (q.atoms.length ≤ 1048576 ∧ ∀ x ∈ q.atoms, x.ok) ∧ q.free.length ≤ 1048576
def Qu.fit (q : Qu) : Prop := (q.atoms.length ≤ 9223372036854775807 ∧ ∀ x ∈ q.atoms, x.fit) ∧ q.free.length ≤ 9223372036854775807
theorem RI.ok.fit {a : RI} (h : a.ok) : a.fit := by unfold RI.ok at h; unfold RI.fit; omega
theorem Qu.ok.fit {q : Qu} (h : q.ok) : q.fit := by
  unfold Qu.ok at h; unfold Qu.fit
  exact ⟨⟨by omega, fun x hx => (h.1.2 x hx).fit⟩, by omega⟩
theorem szQu_ok : SzOk szQu Qu.ok := by
  intro q n h
  unfold szQu Qu.ok
  have h1 := szAll_ok szRI_ok q.atoms n h
  split
  · exact ⟨by omega, fun h => absurd (by omega) h⟩
  · rename_i c
    have h2 := szl_ok q.free _ h1.1
    exact ⟨h2.1, fun h3 => ⟨h1.2 c, h2.2 h3⟩⟩
theorem RI.eq_iff (a b : RI) : decide (a = b) = (decide (a.r = b.r) && decide (a.l = b.l)) := by cases a; cases b; simp
theorem Qu.eq_iff (a b : Qu) : decide (a = b) = (decide (a.vc = b.vc) && (decide (a.atoms = b.atoms) && decide (a.free = b.free))) := by cases a; cases b; simp
theorem list_step {α : Type} (d : α) {a b : List α} {k : Nat} (h1 : k < a.length) (h2 : k < b.length) (h : a.take k = b.take k) (e : a.getD k d = b.getD k d) : a.take (k + 1) = b.take (k + 1) := by
  rw [take_snoc d h1, take_snoc d h2, h, e]
theorem list_ne {α : Type} {d : α} {a b : List α} {k : Nat} (e : a.getD k d ≠ b.getD k d) : a ≠ b := fun h => e (by rw [h])
end Go.Proofs.YtahjpaicfppkoaaDoor.A


/- WHAT A LAW READS: reading into structures of mine. Conditions: none. -/
namespace Go.Proofs.YtahjpaicfppkoaaDoor.A
open Go Go.ChangeShapes Go.WideShapes Go.ChangeAt Go.RowKit
set_option linter.unusedVariables false
variable {H : Type} {enc : TypeId × Value → H} {P : Program} {W : World}
theorem okWide_slice_ne {t e : TypeId} (ht : P.underlying t = some (.slice e)) {r : Reach} {base : Nat} {v : Value} (h : Value.okWide P W r base t v) : ∀ cs, v ≠ .agg cs := by
  obtain ⟨a, l, c, rfl⟩ := okWide_slice ht h
  intro cs h
  cases h
theorem readsC_map {t : TypeId} {α β : Type} {row : α → List Cell} {row' : β → List Cell} {g : α → Prop} {g' : β → Prop} (h : ReadsC enc P W t row g) (f : α → β) (h1 : ∀ a, row' (f a) = row a) (h2 : ∀ a, g a → g' (f a)) : ReadsC enc P W t row' g' := by
  intro n cs x hx
  obtain ⟨a, ha, hr⟩ := h n cs x hx
  exact ⟨f a, h2 a ha, by rw [h1]; exact hr⟩
theorem readsL_ints {t e : TypeId} (ht : P.underlying t = some (.slice e)) (hc : P.cellsOf e = 1) (he : P.underlying e = some (.int .i64)) : ReadsL enc P W t (fun a : List Int => Leaf.im 1 (ints a)) (fun a => a.length ≤ 9223372036854775807) := by
  intro n v x h
  obtain ⟨l, h1, h2⟩ := readsL_slice ht hc (by omega) (fun _ => rfl) (readsC_int he) n v x h
  exact ⟨l, h1.1, fun k => by show LeafRep W (lab0 W) k (Leaf.im 1 (ints l)) v; rw [ints_eq]; exact h2 k⟩
theorem readsL_rows {t e : TypeId} {w : Nat} {α : Type} {row : α → List Cell} {g : α → Prop} (h : ReadsC enc P W e row g) (ht : P.underlying t = some (.slice e)) (hc : P.cellsOf e = w) (hw : 0 < w) (hrow : ∀ a, (row a).length = w) (rows : List α → Rows) (hr : ∀ l, rows l = l.map row) : ReadsL enc P W t (fun l : List α => Leaf.im w (rows l)) (fun l => l.length ≤ 9223372036854775807 ∧ ∀ a ∈ l, g a) := by
  intro n v x hx
  obtain ⟨l, h1, h2⟩ := readsL_slice ht hc hw hrow h n v x hx
  exact ⟨l, h1, fun k => by show LeafRep W (lab0 W) k (Leaf.im w (rows l)) v; rw [hr]; exact h2 k⟩
end Go.Proofs.YtahjpaicfppkoaaDoor.A


/- MARKS AND MEMBERS: lists of numbers that a law writes and reads back. Conditions: none. -/
namespace Go.Proofs.YtahjpaicfppkoaaDoor.A
open Go
set_option linter.unusedSimpArgs false
set_option linter.unusedVariables false
set_option maxRecDepth 100000

theorem i64_plus {k : Int} {i : Nat} (h0 : 0 ≤ k) (h : k + i < 9223372036854775807) : IntKind.i64.wrap (k + i + 1) = k + ((i + 1 : Nat) : Int) := by
  rw [IntWalk.i64_in _ (by omega)]; omega
theorem plus0 (k : Int) : k + ((0 : Nat) : Int) = k := by simp
attribute [go_sem] Int.add_zero Int.ofNat_zero
/-- The numbers from k on. -/
def cnt : Int → Nat → List Int
  | _, 0 => []
  | k, n + 1 => k :: cnt (k + 1) n
theorem cnt_length : ∀ (k : Int) (n : Nat), (cnt k n).length = n
  | _, 0 => rfl
  | k, n + 1 => by rw [cnt, List.length_cons, cnt_length]
theorem cnt_get : ∀ {k : Int} {n i : Nat}, i < n → (cnt k n).getD i 0 = k + i
  | k, n + 1, 0, _ => by simp [cnt]
  | k, n + 1, i + 1, h => by
    rw [cnt, List.getD_cons_succ, cnt_get (by omega)]; omega
theorem cnt_full (k : Int) (n : Nat) : List.take n (cnt k n) = cnt k n := List.take_of_length_le (by rw [cnt_length]; omega)
attribute [go_sem] cnt_full
/-- Where a number stands in a list, or -1. -/
def posI (x : Int) : List Int → Nat → Int
  | [], _ => -1
  | a :: l, k => if a = x then k else posI x l (k + 1)
theorem posI_mem (x : Int) : ∀ (l : List Int) (k : Nat), decide (0 ≤ posI x l k) = decide (x ∈ l)
  | [], k => by simp [posI]
  | a :: l, k => by
    unfold posI
    split
    · rename_i h; subst h; simp
    · rename_i h
      rw [posI_mem x l (k + 1)]
      have : ¬ x = a := fun e => h e.symm
      simp [this]
end Go.Proofs.YtahjpaicfppkoaaDoor.A


/- MARKS OF ATOMS AND QUERIES. Conditions: none. -/
namespace Go.Proofs.YtahjpaicfppkoaaDoor.A
open Go
set_option linter.unusedSimpArgs false
set_option linter.unusedVariables false
set_option maxRecDepth 100000

/-- How many numbers stand in rows. -/
def numRI : List RI → Nat
  | [] => 0
  | a :: l => 1 + a.l.length + numRI l
theorem numRI_nil : numRI [] = 0 := rfl
attribute [go_sem] numRI_nil
def markRI : List RI → Int → List RI
  | [], _ => []
  | a :: l, k => ⟨k, cnt (k + 1) a.l.length⟩ :: markRI l (k + 1 + a.l.length)
theorem markRI_length : ∀ (a : List RI) (k : Int), (markRI a k).length = a.length
  | [], _ => rfl
  | a :: l, k => by rw [markRI, List.length_cons, List.length_cons, markRI_length]
theorem numRI_take {a : List RI} {i : Nat} (h : i < a.length) : numRI (a.take (i + 1)) = numRI (a.take i) + 1 + (a.getD i default).l.length := by
  induction a generalizing i with
  | nil => simp at h
  | cons x a ih =>
    cases i with
    | zero => simp [numRI]
    | succ i =>
      have := ih (i := i) (by simpa using h)
      rw [List.take_succ_cons, List.take_succ_cons, numRI, numRI, this, List.getD_cons_succ]; omega
theorem numRI_le : ∀ {a : List RI} (i : Nat), numRI (a.take i) ≤ numRI a
  | [], i => by simp [numRI]
  | x :: a, 0 => by simp [numRI]
  | x :: a, i + 1 => by
    rw [List.take_succ_cons, numRI, numRI]
    have := numRI_le (a := a) i
    omega
theorem numRI_ok : ∀ {a : List RI}, (∀ x ∈ a, x.ok) → numRI a ≤ a.length * 1048577
  | [], _ => by simp [numRI]
  | x :: a, h => by
    have h1 := numRI_ok (a := a) fun y hy => h y (List.mem_cons_of_mem _ hy)
    have h2 := h x (List.mem_cons_self ..)
    unfold RI.ok at h2
    rw [numRI, List.length_cons]; omega
theorem markRI_get : ∀ {a : List RI} {k : Int} {i : Nat}, i < a.length → (markRI a k).getD i default = ⟨k + numRI (a.take i), cnt (k + numRI (a.take i) + 1) (a.getD i default).l.length⟩
  | x :: a, k, 0, _ => by simp [markRI, numRI]
  | x :: a, k, i + 1, h => by
    rw [markRI, List.getD_cons_succ, markRI_get (by simpa using h), List.getD_cons_succ, List.take_succ_cons, numRI]
    have e : k + 1 + (x.l.length : Int) + (numRI (a.take i) : Int) = k + ((1 + x.l.length + numRI (a.take i) : Nat) : Int) := by omega
    rw [e]
theorem drop_get {α : Type} {d : α} {a b : List α} {i : Nat} (hl : b.length = a.length) (h : b.drop i = a.drop i) (hi : i < a.length) : b.getD i d = a.getD i d := by
  rw [drop_cons d (by omega), drop_cons d hi] at h
  exact (List.cons.inj h).1
theorem drop_set {α : Type} {a b : List α} {i : Nat} (x : α) (h : b.drop i = a.drop i) : (b.set i x).drop (i + 1) = a.drop (i + 1) := by
  rw [List.drop_set_of_lt (by omega), ← List.drop_drop, ← List.drop_drop, h]
theorem take_set_to {α : Type} {a b : List α} {i : Nat} {x d : α} (hl : b.length = a.length) (h : b.take i = a.take i) (hi : i < a.length) (hx : a.getD i d = x) : (b.set i x).take (i + 1) = a.take (i + 1) := by
  rw [← hx]; exact take_set_snoc d hl h hi
def numQu (q : Qu) : Nat := numRI q.atoms + q.free.length
def markQu (q : Qu) (k : Int) : Qu := ⟨q.vc, markRI q.atoms k, cnt (k + numRI q.atoms) q.free.length⟩
theorem numQu_ok {q : Qu} (h : q.ok) : numQu q ≤ 1048577 * 1048577 := by
  have h1 := numRI_ok h.1.2
  have h2 := h.2
  have h3 := h.1.1
  unfold numQu
  have : q.atoms.length * 1048577 ≤ 1048576 * 1048577 := Nat.mul_le_mul_right _ h3
  omega
end Go.Proofs.YtahjpaicfppkoaaDoor.A


/- RELATIONS, FACTS AND DATABASES: size, copy, comparison, marks. Conditions: none. -/
namespace Go.Proofs.YtahjpaicfppkoaaDoor.A
open Go
set_option linter.unusedSimpArgs false
set_option linter.unusedVariables false
set_option maxRecDepth 100000

def szRel (a : Rel) (n : Int) : Int := if n - a.name.size < 0 then -1 else n - a.name.size
def Rel.ok (a : Rel) : Prop := a.name.size ≤ 1048576
def Rel.fit (a : Rel) : Prop := a.name.size ≤ 9223372036854775807
theorem szRel_ok : SzOk szRel Rel.ok := by
  intro a n h
  unfold szRel Rel.ok
  split
  · exact ⟨by omega, fun h => absurd (by omega) h⟩
  · exact ⟨by omega, fun h => by omega⟩
theorem Rel.eq_iff (a b : Rel) : decide (a = b) = (decide (a.name = b.name) && (decide (a.ar = b.ar) && decide (a.kl = b.kl))) := by cases a; cases b; simp
def szDb (d : Db) (n : Int) : Int := if szAll szRel d.rels n < 0 then -1 else szAll szRI d.facts (szAll szRel d.rels n)
def Db.ok (d : Db) : Prop := (d.rels.length ≤ 1048576 ∧ ∀ x ∈ d.rels, x.ok) ∧ (d.facts.length ≤ 1048576 ∧ ∀ x ∈ d.facts, x.ok)
def Db.fit (d : Db) : Prop := (d.rels.length ≤ 9223372036854775807 ∧ ∀ x ∈ d.rels, x.fit) ∧ (d.facts.length ≤ 9223372036854775807 ∧ ∀ x ∈ d.facts, x.fit)
theorem Rel.ok.fit {a : Rel} (h : a.ok) : a.fit := by unfold Rel.ok at h; unfold Rel.fit; omega
theorem Db.ok.fit {d : Db} (h : d.ok) : d.fit := by
  unfold Db.ok at h; unfold Db.fit
  exact ⟨⟨by omega, fun x hx => (h.1.2 x hx).fit⟩, by omega, fun x hx => (h.2.2 x hx).fit⟩
theorem szDb_ok : SzOk szDb Db.ok := by
  intro d n h
  unfold szDb Db.ok
  have h1 := szAll_ok szRel_ok d.rels n h
  split
  · exact ⟨by omega, fun h => absurd (by omega) h⟩
  · rename_i c
    have h2 := szAll_ok szRI_ok d.facts _ h1.1
    exact ⟨h2.1, fun h3 => ⟨h1.2 c, h2.2 h3⟩⟩
theorem Db.eq_iff (a b : Db) : decide (a = b) = (decide (a.rels = b.rels) && decide (a.facts = b.facts)) := by cases a; cases b; simp
end Go.Proofs.YtahjpaicfppkoaaDoor.A


/- VALID RELATIONS, FACTS AND DATABASES. Conditions: none. -/
namespace Go.Proofs.YtahjpaicfppkoaaDoor.A
open Go
set_option linter.unusedSimpArgs false
set_option linter.unusedVariables false
set_option maxRecDepth 100000

/-- Does something hold of all numbers below k. -/
def upTo (p : Nat → Bool) : Nat → Bool
  | 0 => true
  | k + 1 => upTo p k && p k
theorem upTo_false {p : Nat → Bool} {n k : Nat} (h : k < n) (hp : p k = false) : upTo p n = false := by
  induction n with
  | zero => omega
  | succ n ih =>
    unfold upTo
    by_cases e : k = n
    · subst e; simp [hp]
    · rw [ih (by omega)]; rfl
theorem upTo_step {p : Nat → Bool} {k : Nat} (h : upTo p k = true) (hp : p k = true) : upTo p (k + 1) = true := by rw [upTo, h, hp]; rfl
theorem upTo_at {p : Nat → Bool} {n k : Nat} (h : upTo p n = true) (hk : k < n) : p k = true := by
  rcases hp : p k
  · rw [upTo_false hk hp] at h; cases h
  · rfl
def inB (x a b : Int) : Bool := decide (a ≤ x) && decide (x ≤ b)
theorem inB_sat (x a b : Int) : Sat Tryd.prog 21 [lInt x, lInt a, lInt b] [lBool (inB x a b)] [g1, g1, g1] := l1In_sat x a b
theorem inW_sat (x a b : Int) : Sat Tryd.prog 16 [lInt x, lInt a, lInt b] [lBool (inB x a b)] [g1, g1, g1] := within_sat x a b
theorem inB_of {x a b : Int} (h : inB x a b = true) : a ≤ x ∧ x ≤ b := by
  unfold inB at h
  simpa using h
abbrev n0 (r : Rel) : Int := ((r.name.data.toList.getD 0 0).toNat : Int)
def goodRel (r : Rel) : Bool := ((r.name.size : Int) == 1) && (decide (n0 r ≥ 97) && (decide (n0 r ≤ 122) && (inB r.ar 1 3 && inB r.kl 0 r.ar)))
/-- Is the i-th relation valid, and behind the one before it. -/
def relOk (l : List Rel) (i : Nat) : Bool := goodRel (l.getD i default) && (decide (i = 0) || Op.bytesLess (l.getD (i - 1) default).name.toList (l.getD i default).name.toList)
def goodRels (l : List Rel) : Bool := upTo (relOk l) l.length && decide ((l.length : Int) ≤ 4)
/-- The first number below which something fails, or -1. -/
def firstNo (p : Nat → Bool) : Nat → Nat → Int
  | 0, _ => -1
  | n + 1, k => if p k then firstNo p n (k + 1) else k
theorem firstNo_ge (p : Nat → Bool) : ∀ (n k : Nat), upTo p k = true → decide (firstNo p n k ≥ 0) = !upTo p (k + n)
  | 0, k, h => by rw [Nat.add_zero, h]; rfl
  | n + 1, k, h => by
    unfold firstNo
    split
    · rename_i e
      rw [firstNo_ge p n (k + 1) (upTo_step h e), show k + 1 + n = k + (n + 1) by omega]
    · rename_i e
      rw [upTo_false (k := k) (by omega) (by simpa using e)]
      exact decide_eq_true (by omega)
def valOk (l : List Int) (i : Nat) : Bool := inB (l.getD i 0) 0 9
def goodFact (l : List Rel) (f : RI) : Bool := inB f.r 0 ((l.length : Int) - 1) && (((f.l.length : Int) == (l.getD f.r.toNat default).ar) && upTo (valOk f.l) f.l.length)
end Go.Proofs.YtahjpaicfppkoaaDoor.A


/- WHAT IS DRAWN FROM A CODE: the reference's cursor. Conditions: none. -/
namespace Go.Proofs.YtahjpaicfppkoaaDoor.A
open Go
set_option linter.unusedSimpArgs false
set_option linter.unusedVariables false
set_option maxRecDepth 100000

/-! #### bytes -/
def cBy (z : Int) : List Cell := [.sc (.int .u8 z)]
def bys (l : List Int) : Rows := l.map cBy
theorem bys_length (l : List Int) : (bys l).length = l.length := by simp [bys]
theorem bys_get {l : List Int} {i : Nat} (h : i < l.length) : (bys l).getD i [] = [.sc (.int .u8 (l.getD i 0))] := by
  simp [bys, cBy, List.getD_eq_getElem?_getD, h]
theorem bys_frz (l : List Int) : frz (bys l) = bys l := frz_map _ _ (fun _ => rfl) l
attribute [go_sem] bys_length bys_get bys_frz
abbrev lBys (l : List Int) : LV := .one (.im 1 (bys l))
structure Cur where
  b : List Int
  i : Nat
  h : Int
abbrev fCur (c : Cur) : List Fld := [.im 1 (bys c.b), .sc (.int .i64 c.i), .sc (.int .i64 c.h)]
abbrev lCur (c : Cur) : LV := .one (.op (fCur c))
abbrev sCur (c : Cur) : List SV := [.im 1 (bys c.b), .sc (.int .i64 c.i), .sc (.int .i64 c.h)]
def bytesOk (l : List Int) : Prop := ∀ z ∈ l, 0 ≤ z ∧ z ≤ 255
/-- The lowest bits. -/
def low (a m : Int) : Int := IntKind.i64.wrap ((BitVec.ofInt IntKind.i64.bits a &&& BitVec.ofInt IntKind.i64.bits m).toNat : Int)
theorem low_255 (a : Int) : 0 ≤ low a 255 ∧ low a 255 ≤ 255 := by
  unfold low
  have h : (BitVec.ofInt IntKind.i64.bits a &&& BitVec.ofInt IntKind.i64.bits 255).toNat ≤ 255 := by
    rw [BitVec.toNat_and]
    exact Nat.and_le_right
  rw [IntWalk.i64_in _ (by omega)]
  omega
def hAt (b : List Int) : Nat → Int
  | 0 => IntKind.i64.wrap (10101 + (b.length : Int))
  | k + 1 => low (IntKind.i64.wrap (IntKind.i64.wrap (IntKind.i64.wrap (hAt b k * 131) + IntKind.i64.wrap (b.getD k 0)) + 7)) 1073741823
def curN (b : List Int) : Cur := ⟨b, 0, hAt b (min b.length 4000)⟩
theorem l1New_sat (b : List Int) (h : b.length ≤ 9223372036854775807) : Sat Tryd.prog 14 [lBys b] [lCur (curN b)] [g1] := by
  refine sat_of_body mixed Tryd.func14 rfl (by kernel_rfl) (by kernel_rfl) (rs := [.tmp 2]) rfl rfl rfl ?_
  simp -implicitDefEqProofs (maxSteps := 2000000) only [go_sem]
  refine awp_loop Nat (fun k => mkSt [(0, .one (.im 1 (bys b))), (3, .sc (.int .i64 (hAt b k))), (4, .sc (.int .i64 k))] [] [] 2000)
    (fun k => k ≤ b.length ∧ k ≤ 4000) (fun k => b.length - k) 0 ⟨by omega, by omega⟩ (le_st _ _ [] [] _ rfl (by simp -implicitDefEqProofs (maxSteps := 2000000) only [go_sem, hAt] <;> rfl) (by simp -implicitDefEqProofs (maxSteps := 2000000) only [go_sem, hAt] <;> rfl) (by simp -implicitDefEqProofs (maxSteps := 2000000) only [go_sem, hAt] <;> rfl)) ?_
  rintro k ⟨h1, h2⟩
  by_cases c1 : k < b.length
  · by_cases c2 : k < 4000
    · have d2 : decide ((k : Int) < 4000) = true := decide_eq_true (by omega)
      have wk : IntKind.i64.wrap ((k : Int) + 1) = ((k + 1 : Nat) : Int) := i64_succ (by omega)
      simp -implicitDefEqProofs (maxSteps := 2000000) only [go_sem, c1, d2]
      rw [wk]
      exact ⟨k + 1, ⟨c1, by omega⟩, by omega, (le_st _ _ [] [] _ rfl (by simp -implicitDefEqProofs (maxSteps := 2000000) only [go_sem, hAt, low] <;> rfl) (by simp -implicitDefEqProofs (maxSteps := 2000000) only [go_sem, hAt, low] <;> rfl) (by simp -implicitDefEqProofs (maxSteps := 2000000) only [go_sem, hAt, low] <;> rfl))⟩
    · have d2 : decide ((k : Int) < 4000) = false := decide_eq_false (by omega)
      obtain rfl : k = 4000 := by omega
      simp -implicitDefEqProofs (maxSteps := 2000000) only [go_sem, c1, d2]
      rw [curN, Nat.min_eq_right (by omega)]
      first | done | rfl | exact ⟨rfl, rfl⟩ | exact ⟨rfl, rfl, rfl⟩ | (refine tr_and ?_ ?_ <;> first | rfl | exact ⟨rfl, rfl⟩ | kernel_rfl)
  · obtain rfl : k = b.length := by omega
    simp -implicitDefEqProofs (maxSteps := 2000000) only [go_sem, c1]
    rw [curN, Nat.min_eq_left (by omega)]
    first | done | rfl | exact ⟨rfl, rfl⟩ | exact ⟨rfl, rfl, rfl⟩ | (refine tr_and ?_ ?_ <;> first | rfl | exact ⟨rfl, rfl⟩ | kernel_rfl)
def hNext (h : Int) : Int := IntKind.i64.wrap (IntKind.i64.wrap (h * 6364136223846793005) + 1442695040888963407)
def mixB (h : Int) : Int := low (IntKind.i64.wrap ((BitVec.ofInt IntKind.i64.bits (h.fdiv (2 ^ min 33 64)) ^^^ BitVec.ofInt IntKind.i64.bits (h.fdiv (2 ^ min 45 64))).toNat : Int)) 255
def byV (c : Cur) : Int := if c.i < c.b.length then low (IntKind.i64.wrap (mixB (hNext c.h) + IntKind.i64.wrap (c.b.getD c.i 0))) 255 else mixB (hNext c.h)
def byC (c : Cur) : Cur := ⟨c.b, if c.i < c.b.length then c.i + 1 else c.i, hNext c.h⟩
/-- The cursor stands within its bytes. -/
def Cur.ok (c : Cur) : Prop := c.i ≤ c.b.length ∧ c.b.length ≤ 1048576
theorem byC_ok {c : Cur} (h : c.ok) : (byC c).ok := by
  obtain ⟨h1, h2⟩ := h
  refine ⟨?_, h2⟩
  show (if c.i < c.b.length then c.i + 1 else c.i) ≤ c.b.length
  split <;> omega
theorem curN_ok {b : List Int} (h : b.length ≤ 1048576) : (curN b).ok := ⟨Nat.zero_le _, h⟩
theorem byV_lo (c : Cur) : 0 ≤ byV c ∧ byV c ≤ 255 := by
  unfold byV
  split
  · exact low_255 _
  · exact low_255 _
theorem l1Byte_sat (c : Cur) (hc : c.ok) : Sat Tryd.prog 25 [lCur c] [lInt (byV c)] [lCur (byC c)] := by
  refine sat_of_body mixed Tryd.func25 rfl (by kernel_rfl) (by kernel_rfl) (rs := [.tmp 2]) rfl rfl rfl ?_
  rcases c with ⟨b, i, h⟩
  obtain ⟨hi, hb⟩ := hc
  simp only at hi hb
  by_cases c1 : i < b.length
  · have wi : IntKind.i64.wrap ((i : Int) + 1) = ((i + 1 : Nat) : Int) := i64_succ (by omega)
    have e1 : byV ⟨b, i, h⟩ = low (IntKind.i64.wrap (mixB (hNext h) + IntKind.i64.wrap (b.getD i 0))) 255 := if_pos c1
    have e2 : byC ⟨b, i, h⟩ = ⟨b, i + 1, hNext h⟩ := by unfold byC; simp only; rw [if_pos c1]
    rw [e1, e2]
    simp -implicitDefEqProofs (maxSteps := 2000000) only [go_sem, c1, wi]
    exact ⟨rfl, rfl, rfl⟩
  · have e1 : byV ⟨b, i, h⟩ = mixB (hNext h) := if_neg c1
    have e2 : byC ⟨b, i, h⟩ = ⟨b, i, hNext h⟩ := by unfold byC; simp only; rw [if_neg c1]
    rw [e1, e2]
    simp -implicitDefEqProofs (maxSteps := 2000000) only [go_sem, c1]
    exact ⟨rfl, rfl, rfl⟩
/-- Less than this. -/
def beV (c : Cur) (n : Nat) : Nat := (byV c).toNat % n
theorem beV_lt (c : Cur) {n : Nat} (h : 0 < n) : beV c n < n := Nat.mod_lt _ h
theorem l1Below_sat (c : Cur) (n : Nat) (hc : c.ok) (h1 : 0 < n) (h2 : n ≤ 256) : Sat Tryd.prog 18 [lCur c, lInt n] [lInt (beV c n)] [lCur (byC c), g1] := by
  refine sat_of_body mixed Tryd.func18 rfl (by kernel_rfl) (by kernel_rfl) (rs := [.tmp 4]) rfl rfl rfl ?_
  have d1 : decide ((n : Int) ≤ 0) = false := decide_eq_false (by omega)
  have d2 : decide ((n : Int) ≤ 256) = true := decide_eq_true (by omega)
  have hv := byV_lo c
  have e : Int.tmod (byV c) (n : Int) = ((beV c n : Nat) : Int) := by
    obtain ⟨v, hv'⟩ : ∃ v : Nat, byV c = v := ⟨(byV c).toNat, by omega⟩
    unfold beV
    rw [hv', Int.toNat_natCast, ← Int.ofNat_tmod]
  have hn0 : ¬ ((n : Int) = 0) := by omega
  simp -implicitDefEqProofs (maxSteps := 2000000) only [go_sem, d1, d2]
  refine call_of (l1Byte_sat c hc) (by simp -implicitDefEqProofs (maxSteps := 2000000) only [go_sem, e, hn0]) (by kernel_rfl) (by simp -implicitDefEqProofs (maxSteps := 2000000) only [go_sem, e, hn0]) ?_
  simp -implicitDefEqProofs (maxSteps := 2000000) only [go_sem, e, hn0]
  exact ⟨hn0, rfl⟩
theorem l1PickInt_sat (c : Cur) (l : List Int) (hc : c.ok) (h1 : 0 < l.length) (h2 : l.length ≤ 256) : Sat Tryd.prog 22 [lCur c, lInts l] [lInt (l.getD (beV c l.length) 0)] [lCur (byC c), g1] := by
  refine sat_of_body mixed Tryd.func22 rfl (by kernel_rfl) (by kernel_rfl) (rs := [.tmp 4]) rfl rfl rfl ?_
  have hv := beV_lt c h1
  simp -implicitDefEqProofs (maxSteps := 2000000) only [go_sem]
  refine call_of (l1Below_sat c l.length hc h1 h2) (by simp -implicitDefEqProofs (maxSteps := 2000000) only [go_sem, hv]) (by kernel_rfl) (by simp -implicitDefEqProofs (maxSteps := 2000000) only [go_sem, hv]) ?_
  simp -implicitDefEqProofs (maxSteps := 2000000) only [go_sem, hv]
  rfl
/-- The same, of a list that is handed over. -/
theorem l1PickInt_own (c : Cur) (l : List Int) (hc : c.ok) (h1 : 0 < l.length) (h2 : l.length ≤ 256) : Sat Tryd.prog 22 [lCur c, oInts l] [lInt (l.getD (beV c l.length) 0)] [lCur (byC c), g1] := by
  refine sat_of_body mixed Tryd.func22 rfl (by kernel_rfl) (by kernel_rfl) (rs := [.tmp 4]) rfl rfl rfl ?_
  have hv := beV_lt c h1
  simp -implicitDefEqProofs (maxSteps := 2000000) only [go_sem]
  refine call_of (l1Below_sat c l.length hc h1 h2) (by simp -implicitDefEqProofs (maxSteps := 2000000) only [go_sem, hv]) (by kernel_rfl) (by simp -implicitDefEqProofs (maxSteps := 2000000) only [go_sem, hv]) ?_
  simp -implicitDefEqProofs (maxSteps := 2000000) only [go_sem, hv]
  rfl
end Go.Proofs.YtahjpaicfppkoaaDoor.A


/- THE LIBRARY'S IndexByte AND Itoa, of this program. Conditions: none. -/
namespace Go.Proofs.YtahjpaicfppkoaaDoor.A
open Go Go.Shelf
set_option linter.unusedVariables false
set_option maxRecDepth 100000
def laysIdxB_ren : Go.Shelf.Ren := ⟨fun | 137 => 17 | 217 => 24 | 266 => 27 | n => n, fun | 3 => 3 | 5 => 5 | 9 => 9 | n => n, fun n => n⟩
theorem laysIdxB : Lays.n137 Tryd.prog laysIdxB_ren where
  mixed := by kernel_rfl
  f137 := Tryd.func17.trans (congrArg some (by kernel_rfl))
  f217 := Tryd.func24.trans (congrArg some (by kernel_rfl))
  f266 := Tryd.func27.trans (congrArg some (by kernel_rfl))
  t3 := Tryd.underlying3
  a3 := Tryd.isAgg3
  z3 := Tryd.sizeOf3
  v3 := Tryd.zeroValue3
  t5 := Tryd.underlying5
  a5 := Tryd.isAgg5
  z5 := Tryd.sizeOf5
  v5 := Tryd.zeroValue5
  t9 := Tryd.underlying9
  a9 := Tryd.isAgg9
  z9 := Tryd.sizeOf9
  v9 := Tryd.zeroValue9
theorem stringsIndexByte_sat (s : ByteArray) (c : Int) : Sat Tryd.prog 17 [lStr s, .one (.sc (.int .u8 c))] [lInt (Lib.indexByte s.data.toList c.toNat.toUInt8)] [g1, g1] :=
  pure2_sat Tryd.func17 rfl (by kernel_rfl) _ _ _ (Any.strings_IndexByte laysIdxB s c)
def laysItoa_ren : Go.Shelf.Ren := ⟨fun | 129 => 34 | 171 => 23 | 243 => 26 | 246 => 28 | 283 => 29 | 284 => 30 | 285 => 31 | 286 => 32 | 317 => 33 | 318 => 35 | 319 => 36 | 320 => 37 | 337 => 38 | 338 => 39 | n => n, fun | 0 => 0 | 2 => 2 | 3 => 3 | 4 => 4 | 5 => 5 | 9 => 9 | 20 => 20 | 37 => 22 | 46 => 41 | 51 => 51 | 53 => 44 | 171 => 43 | 173 => 47 | 212 => 50 | 213 => 52 | 232 => 55 | 233 => 56 | n => n, fun | 17 => 1 | 18 => 2 | 19 => 3 | n => n⟩
theorem laysItoa : Lays.n171 Tryd.prog laysItoa_ren where
  mixed := by kernel_rfl
  f129 := Tryd.func34.trans (congrArg some (by kernel_rfl))
  f171 := Tryd.func23.trans (congrArg some (by kernel_rfl))
  f243 := Tryd.func26.trans (congrArg some (by kernel_rfl))
  f246 := Tryd.func28.trans (congrArg some (by kernel_rfl))
  f283 := Tryd.func29.trans (congrArg some (by kernel_rfl))
  f284 := Tryd.func30.trans (congrArg some (by kernel_rfl))
  f285 := Tryd.func31.trans (congrArg some (by kernel_rfl))
  f286 := Tryd.func32.trans (congrArg some (by kernel_rfl))
  f317 := Tryd.func33.trans (congrArg some (by kernel_rfl))
  f318 := Tryd.func35.trans (congrArg some (by kernel_rfl))
  f319 := Tryd.func36.trans (congrArg some (by kernel_rfl))
  f320 := Tryd.func37.trans (congrArg some (by kernel_rfl))
  f337 := Tryd.func38.trans (congrArg some (by kernel_rfl))
  f338 := Tryd.func39.trans (congrArg some (by kernel_rfl))
  t0 := Tryd.underlying0
  a0 := Tryd.isAgg0
  z0 := Tryd.sizeOf0
  v0 := Tryd.zeroValue0
  t2 := Tryd.underlying2
  a2 := Tryd.isAgg2
  z2 := Tryd.sizeOf2
  v2 := Tryd.zeroValue2
  t3 := Tryd.underlying3
  a3 := Tryd.isAgg3
  z3 := Tryd.sizeOf3
  v3 := Tryd.zeroValue3
  t4 := Tryd.underlying4
  a4 := Tryd.isAgg4
  z4 := Tryd.sizeOf4
  v4 := Tryd.zeroValue4
  t5 := Tryd.underlying5
  a5 := Tryd.isAgg5
  z5 := Tryd.sizeOf5
  v5 := Tryd.zeroValue5
  t9 := Tryd.underlying9
  a9 := Tryd.isAgg9
  z9 := Tryd.sizeOf9
  v9 := Tryd.zeroValue9
  t20 := Tryd.underlying20
  a20 := Tryd.isAgg20
  z20 := Tryd.sizeOf20
  v20 := Tryd.zeroValue20
  t37 := Tryd.underlying22
  a37 := Tryd.isAgg22
  z37 := Tryd.sizeOf22
  v37 := Tryd.zeroValue22
  t46 := Tryd.underlying41
  a46 := Tryd.isAgg41
  z46 := Tryd.sizeOf41
  v46 := Tryd.zeroValue41
  t51 := Tryd.underlying51
  a51 := Tryd.isAgg51
  z51 := Tryd.sizeOf51
  v51 := Tryd.zeroValue51
  t53 := Tryd.underlying44
  a53 := Tryd.isAgg44
  z53 := Tryd.sizeOf44
  v53 := Tryd.zeroValue44
  t171 := Tryd.underlying43
  a171 := Tryd.isAgg43
  z171 := Tryd.sizeOf43
  v171 := Tryd.zeroValue43
  t173 := Tryd.underlying47
  a173 := Tryd.isAgg47
  z173 := Tryd.sizeOf47
  v173 := Tryd.zeroValue47
  t212 := Tryd.underlying50
  a212 := Tryd.isAgg50
  z212 := Tryd.sizeOf50
  v212 := Tryd.zeroValue50
  t213 := Tryd.underlying52
  a213 := Tryd.isAgg52
  z213 := Tryd.sizeOf52
  t232 := Tryd.underlying55
  a232 := Tryd.isAgg55
  z232 := Tryd.sizeOf55
  v232 := Tryd.zeroValue55
  t233 := Tryd.underlying56
  a233 := Tryd.isAgg56
  z233 := Tryd.sizeOf56
  v233 := Tryd.zeroValue56
  g17 := by kernel_rfl
  g18 := by kernel_rfl
  g19 := by kernel_rfl
theorem strconvItoa_sat (i : Nat) (hi : i < 100) : Sat Tryd.prog 23 [lInt i] [lStr ⟨(Lib.decDigits i).toArray⟩] [g1] :=
  pure1_sat Tryd.func23 rfl (by kernel_rfl) _ _ (Any.strconv_Itoa_small laysItoa i hi)
end Go.Proofs.YtahjpaicfppkoaaDoor.A


/- A CONSTANT's TERM, as the program has it. Conditions: none. -/
namespace Go.Proofs.YtahjpaicfppkoaaDoor.A
open Go
set_option linter.unusedSimpArgs false
set_option linter.unusedVariables false
set_option maxRecDepth 100000
theorem constantT_sat (t : Int) (h : -1000 ≤ t ∧ t ≤ 1000) : Sat Tryd.prog 10 [lInt t] [lInt (-1 - t)] [g1] := by
  refine sat_of_body mixed Tryd.func10 rfl (by kernel_rfl) (by kernel_rfl) (rs := [.tmp 2]) rfl rfl rfl ?_
  have w : IntKind.i64.wrap (-1 - t) = -1 - t := IntWalk.i64_in _ (by omega)
  simp -implicitDefEqProofs (maxSteps := 2000000) only [go_sem, w]
  first | done | rfl | exact ⟨rfl, rfl⟩ | exact ⟨rfl, rfl, rfl⟩ | (refine tr_and ?_ ?_ <;> first | rfl | exact ⟨rfl, rfl⟩ | kernel_rfl)
end Go.Proofs.YtahjpaicfppkoaaDoor.A


/- TERMS AND THEIR TEXTS. Conditions: none. -/
namespace Go.Proofs.YtahjpaicfppkoaaDoor.A
open Go
set_option linter.unusedSimpArgs false
set_option linter.unusedVariables false
set_option maxRecDepth 100000

/-- A term's letter: a digit of a constant, the name of a variable. -/
def letT (t : Int) : UInt8 := if t < 0 then (47 - t).toNat.toUInt8 else if t = 0 then 120 else if t = 1 then 121 else if t = 2 then 122 else 119
def isT (t : Int) : Bool := inB t (-10) 3
def fmtT (t : Int) : ByteArray := if isT t then ⟨#[letT t]⟩ else ⟨#[]⟩
def digT (v : Int) : ByteArray := ⟨#[(48 + v).toNat.toUInt8]⟩
theorem isT_cases {t : Int} (h : isT t = true) : ∃ n : Nat, n < 14 ∧ t = (n : Int) - 10 := by
  have := inB_of h
  exact ⟨(t + 10).toNat, by omega, by omega⟩

theorem byt_eq {a b : ByteArray} (h : a.data.toList = b.data.toList) : a = b := Go.WideShapes.bytes_inj h
theorem byt_app (a b : ByteArray) : (a ++ b).data.toList = a.data.toList ++ b.data.toList := by
  rw [ByteArray.data_append, Array.toList_append]
theorem byt_nil (a : ByteArray) : a ++ (⟨#[]⟩ : ByteArray) = a := byt_eq (by rw [byt_app]; simp)
theorem byteD {v : Nat} (h : v ≤ 9) : IntKind.u8.wrap (IntKind.i64.wrap (48 + (v : Int))) = (((48 + (v : Int)).toNat.toUInt8).toNat : Int) := by
  have key : ∀ v : Fin 10, IntKind.u8.wrap (IntKind.i64.wrap (48 + ((v.val : Nat) : Int))) = (((48 + ((v.val : Nat) : Int)).toNat.toUInt8).toNat : Int) := by decide
  exact key ⟨v, by omega⟩
theorem specFormatInt_sat (v : Nat) (h : v ≤ 9) : Sat Tryd.prog 20 [lInt v] [lStr (digT v)] [g1] := by
  refine sat_of_body mixed Tryd.func20 rfl (by kernel_rfl) (by kernel_rfl) (rs := [.tmp 2]) rfl rfl rfl ?_
  by_cases c0 : v = 0
  · subst c0
    simp -implicitDefEqProofs (maxSteps := 2000000) only [go_sem]
    first | done | rfl | exact ⟨rfl, rfl⟩ | exact ⟨rfl, rfl, rfl⟩ | (refine tr_and ?_ ?_ <;> first | rfl | exact ⟨rfl, rfl⟩ | kernel_rfl)
  have d0 : (((v : Nat) : Int) == 0) = false := by rw [beq_eq_false_iff_ne]; omega
  have d2 : (((v : Nat) : Int) != 0) = true := by rw [bne, d0]; rfl
  have d1 : decide (((v : Nat) : Int) < 0) = false := by rw [decide_eq_false_iff_not]; omega
  simp -implicitDefEqProofs (maxSteps := 2000000) only [go_sem, d0, d1]
  refine awp_loop Nat (fun k => mkSt [(0, .sc (.int .i64 (if k = 0 then (v : Int) else 0))), (3, .sc (.string (if k = 0 then ⟨#[]⟩ else digT v))), (4, .sc (.bool false))] [] [] 3000)
    (fun k => k ≤ 1) (fun k => 1 - k) 0 (by omega) (le_st _ _ [] [] _ rfl (by simp -implicitDefEqProofs (maxSteps := 2000000) only [go_sem, d0, d1] <;> rfl) (by simp -implicitDefEqProofs (maxSteps := 2000000) only [go_sem, d0, d1] <;> rfl) (by simp -implicitDefEqProofs (maxSteps := 2000000) only [go_sem, d0, d1] <;> rfl)) ?_
  rintro k h1
  rcases k with _ | _ | k
  · have e1 : Int.tmod ((v : Nat) : Int) 10 = v := by rw [Int.tmod_eq_emod_of_nonneg (by omega)]; omega
    have e2 : Int.tdiv ((v : Nat) : Int) 10 = 0 := by rw [Int.tdiv_eq_ediv_of_nonneg (by omega)]; omega
    simp -implicitDefEqProofs (maxSteps := 2000000) only [go_sem, d0, d1, d2, e1, e2]
    refine ⟨by decide, [(48 + (v : Int)).toNat.toUInt8], by rw [byteD h]; rfl, by simp, by decide, 1, by omega, by omega, ?_⟩
    exact (le_st _ _ [] [] _ rfl (by simp -implicitDefEqProofs (maxSteps := 2000000) only [go_sem, byt_nil, digT] <;> rfl) (by simp -implicitDefEqProofs (maxSteps := 2000000) only [go_sem, byt_nil, digT] <;> rfl) (by simp -implicitDefEqProofs (maxSteps := 2000000) only [go_sem, byt_nil, digT] <;> rfl))
  · simp -implicitDefEqProofs (maxSteps := 2000000) only [go_sem]
    first | done | rfl | exact ⟨rfl, rfl⟩ | exact ⟨rfl, rfl, rfl⟩ | (refine tr_and ?_ ?_ <;> first | rfl | exact ⟨rfl, rfl⟩ | kernel_rfl)
  · omega
theorem wf64 {n : Int} (h : (Lit.int .i64 n).wf = true) : -9223372036854775808 ≤ n ∧ n ≤ 9223372036854775807 := by
  simp only [Lit.wf, Bool.and_eq_true, decide_eq_true_eq] at h
  have e1 : IntKind.i64.min = -9223372036854775808 := by decide
  have e2 : IntKind.i64.max = 9223372036854775807 := by decide
  rw [e1, e2] at h
  exact h
def tvOk (t : Int) : Bool := inB t (-10) (-1)
theorem specTermValue_sat (t : Int) (ht : -9223372036854775808 ≤ t ∧ t ≤ 9223372036854775807) : Sat Tryd.prog 19 [lInt t] [lInt (if tvOk t then -1 - t else 0), lBool (tvOk t)] [g1] := by
  refine sat_of_body mixed Tryd.func19 rfl (by kernel_rfl) (by kernel_rfl) (rs := [.tmp 2, .tmp 3]) rfl rfl rfl ?_
  rcases d1 : decide (t ≥ 0)
  · have d1' := of_decide_eq_false d1
    have w1 : IntKind.i64.wrap (-1 - t) = -1 - t := IntWalk.i64_in _ (by omega)
    have e : inB (-1 - t) 0 9 = tvOk t := by
      unfold inB tvOk inB
      rw [Bool.eq_iff_iff]; simp; omega
    rcases d2 : tvOk t
    · rw [d2] at e
      simp -implicitDefEqProofs (maxSteps := 2000000) only [go_sem, d1, w1]
      refine call_of (inB_sat (-1 - t) 0 9) (by simp -implicitDefEqProofs (maxSteps := 2000000) only [go_sem, d1, w1, e]) (by kernel_rfl) (by simp -implicitDefEqProofs (maxSteps := 2000000) only [go_sem, d1, w1, e]) ?_
      simp -implicitDefEqProofs (maxSteps := 2000000) only [go_sem, d1, w1, e]
      first | done | rfl | exact ⟨rfl, rfl⟩ | exact ⟨rfl, rfl, rfl⟩ | (refine tr_and ?_ ?_ <;> first | rfl | exact ⟨rfl, rfl⟩ | kernel_rfl)
    · rw [d2] at e
      simp -implicitDefEqProofs (maxSteps := 2000000) only [go_sem, d1, w1]
      refine call_of (inB_sat (-1 - t) 0 9) (by simp -implicitDefEqProofs (maxSteps := 2000000) only [go_sem, d1, w1, e]) (by kernel_rfl) (by simp -implicitDefEqProofs (maxSteps := 2000000) only [go_sem, d1, w1, e]) ?_
      simp -implicitDefEqProofs (maxSteps := 2000000) only [go_sem, d1, w1, e]
      first | done | rfl | exact ⟨rfl, rfl⟩ | exact ⟨rfl, rfl, rfl⟩ | (refine tr_and ?_ ?_ <;> first | rfl | exact ⟨rfl, rfl⟩ | kernel_rfl)
  · have d1' := of_decide_eq_true d1
    have d2 : tvOk t = false := by unfold tvOk inB; simp; omega
    rw [d2]
    simp -implicitDefEqProofs (maxSteps := 2000000) only [go_sem, d1]
    first | done | rfl | exact ⟨rfl, rfl⟩ | exact ⟨rfl, rfl, rfl⟩ | (refine tr_and ?_ ?_ <;> first | rfl | exact ⟨rfl, rfl⟩ | kernel_rfl)
theorem letters : ∀ n : Fin 4, fmtT (n.val : Int) = (⟨#[120, 121, 122, 119]⟩ : ByteArray).extract n.val (n.val + 1) := by decide +kernel
theorem specFormatTerm_sat (t : Int) (ht : -9223372036854775808 ≤ t ∧ t ≤ 9223372036854775807) : Sat Tryd.prog 11 [lInt t] [lStr (fmtT t)] [g1] := by
  refine sat_of_body mixed Tryd.func11 rfl (by kernel_rfl) (by kernel_rfl) (rs := [.tmp 2]) rfl rfl rfl ?_
  rcases d1 : tvOk t
  · simp -implicitDefEqProofs (maxSteps := 2000000) only [go_sem]
    refine call_of (specTermValue_sat t ht) (by simp -implicitDefEqProofs (maxSteps := 2000000) only [go_sem, d1]) (by kernel_rfl) (by simp -implicitDefEqProofs (maxSteps := 2000000) only [go_sem, d1]) ?_
    simp -implicitDefEqProofs (maxSteps := 2000000) only [go_sem, d1]
    rcases d2 : inB t 0 3
    · have e : fmtT t = ⟨#[]⟩ := by
        have : isT t = false := by
          unfold isT inB; unfold tvOk inB at d1; unfold inB at d2
          rw [Bool.and_eq_false_iff] at d1 d2 ⊢
          simp only [decide_eq_false_iff_not] at d1 d2 ⊢
          omega
        rw [fmtT, this]; rfl
      rw [e]
      refine call_of (inB_sat t 0 3) (by simp -implicitDefEqProofs (maxSteps := 2000000) only [go_sem, d2]) (by kernel_rfl) (by simp -implicitDefEqProofs (maxSteps := 2000000) only [go_sem, d2]) ?_
      simp -implicitDefEqProofs (maxSteps := 2000000) only [go_sem, d2]
      first | done | rfl | exact ⟨rfl, rfl⟩ | exact ⟨rfl, rfl, rfl⟩ | (refine tr_and ?_ ?_ <;> first | rfl | exact ⟨rfl, rfl⟩ | kernel_rfl)
    · obtain ⟨n, rfl⟩ : ∃ n : Nat, t = n := ⟨t.toNat, by have := inB_of d2; omega⟩
      have hn : n < 4 := by have := inB_of d2; omega
      have w1 : IntKind.i64.wrap ((n : Int) + 1) = ((n + 1 : Nat) : Int) := i64_succ (by omega)
      refine call_of (inB_sat n 0 3) (by simp -implicitDefEqProofs (maxSteps := 2000000) only [go_sem, d2, w1]) (by kernel_rfl) (by simp -implicitDefEqProofs (maxSteps := 2000000) only [go_sem, d2, w1]) ?_
      simp -implicitDefEqProofs (maxSteps := 2000000) only [go_sem, d2, w1]
      refine ⟨by omega, by omega, ?_⟩
      rw [letters ⟨n, hn⟩]
  · obtain ⟨v, hv⟩ : ∃ v : Nat, -1 - t = v := ⟨(-1 - t).toNat, by have := inB_of d1; omega⟩
    have hv9 : v ≤ 9 := by have := inB_of d1; omega
    have e : fmtT t = digT v := by
      have h1 := inB_of d1
      have : isT t = true := by unfold isT inB; simp; omega
      rw [fmtT, this, if_pos rfl, letT, if_pos (by omega), digT, show 48 + (v : Int) = 47 - t by omega]
    rw [e]
    simp -implicitDefEqProofs (maxSteps := 2000000) only [go_sem]
    refine call_of (specTermValue_sat t ht) (by simp -implicitDefEqProofs (maxSteps := 2000000) only [go_sem, d1, hv]) (by kernel_rfl) (by simp -implicitDefEqProofs (maxSteps := 2000000) only [go_sem, d1, hv]) ?_
    simp -implicitDefEqProofs (maxSteps := 2000000) only [go_sem, d1, hv]
    refine call_of (specFormatInt_sat v hv9) (by simp -implicitDefEqProofs (maxSteps := 2000000) only [go_sem]) (by kernel_rfl) (by simp -implicitDefEqProofs (maxSteps := 2000000) only [go_sem]) ?_
    simp -implicitDefEqProofs (maxSteps := 2000000) only [go_sem]
    first | done | rfl | exact ⟨rfl, rfl⟩ | exact ⟨rfl, rfl, rfl⟩ | (refine tr_and ?_ ?_ <;> first | rfl | exact ⟨rfl, rfl⟩ | kernel_rfl)
/-! #### a term read -/
def p1 (n : Nat) : Int × Bool := if n = 120 then (0, true) else if n = 121 then (1, true) else if n = 122 then (2, true) else if n = 119 then (3, true) else if 48 ≤ n ∧ n ≤ 57 then (47 - (n : Int), true) else (0, false)
def chr0 (s : ByteArray) : UInt8 := s.data.toList.getD 0 0
def pT (s : ByteArray) : Int × Bool := if s.size = 1 then p1 (chr0 s).toNat else (0, false)
theorem pT_of : ∀ k : Fin 14, pT (fmtT ((k.val : Int) - 10)) = ((k.val : Int) - 10, true) := by decide +kernel
theorem fmt_digit : ∀ j : Fin 10, fmtT ((j.val : Int) - 10) = ⟨#[(57 - j.val).toUInt8]⟩ := by decide +kernel
theorem fmt_letter : ∀ j : Fin 4, fmtT (((j.val + 10 : Nat) : Int) - 10) = ⟨#[#[120, 121, 122, 119].getD j.val 0]⟩ := by decide +kernel
theorem byt_one {s : ByteArray} (h : s.size = 1) : s = ⟨#[chr0 s]⟩ := by
  apply byt_eq
  have hl : s.data.toList.length = 1 := by rw [Array.length_toList]; exact h
  unfold chr0
  rcases e : s.data.toList with _ | ⟨c, _ | ⟨_, _⟩⟩
  · rw [e] at hl; simp at hl
  · rfl
  · rw [e] at hl; simp at hl
theorem pT_none {s : ByteArray} (h : ∀ k : Nat, k < 14 → fmtT ((k : Int) - 10) ≠ s) : pT s = (0, false) := by
  unfold pT
  split
  · rename_i h1
    have hs := byt_one h1
    generalize chr0 s = c at hs ⊢
    have hc : ∀ n : Nat, n < 256 → c.toNat = n → c = n.toUInt8 := by
      intro n hn e
      apply UInt8.toNat_inj.mp
      rw [e]; simp; omega
    have nl : ∀ j : Fin 4, c ≠ #[120, 121, 122, 119].getD j.val 0 := fun j e => h (j.val + 10) (by omega) (by rw [fmt_letter j, hs, e])
    have nd : ∀ j : Fin 10, c ≠ (57 - j.val).toUInt8 := fun j e => h j.val (by omega) (by rw [fmt_digit j, hs, e])
    unfold p1
    rw [if_neg (fun e => nl 0 (hc 120 (by omega) e)), if_neg (fun e => nl 1 (hc 121 (by omega) e)), if_neg (fun e => nl 2 (hc 122 (by omega) e)), if_neg (fun e => nl 3 (hc 119 (by omega) e)), if_neg ?_]
    intro ⟨a1, a2⟩
    exact nd ⟨57 - c.toNat, by omega⟩ (hc _ (by simp only; omega) (by simp only; omega))
  · rfl
theorem idx_letter : ∀ n : Fin 256, Lib.indexByte [120, 121, 122, 119] n.val.toUInt8 = if n.val = 120 then 0 else if n.val = 121 then 1 else if n.val = 122 then 2 else if n.val = 119 then 3 else -1 := by decide +kernel
theorem implParseTerm_sat (s : ByteArray) (h : s.size ≤ 9223372036854775807) : Sat Tryd.prog 7 [lStr s] [lInt (pT s).1, lBool (pT s).2] [g1] := by
  refine sat_of_body mixed Tryd.func7 rfl (by kernel_rfl) (by kernel_rfl) (rs := [.tmp 2, .tmp 3]) rfl rfl rfl ?_
  unfold pT
  rcases d1 : ((s.size : Int) != 1)
  · have hs : s.size = 1 := by have : (s.size : Int) = 1 := by simpa using d1
                               omega
    rw [if_pos hs]
    have e0 : s.data.toList.getD 0 0 = chr0 s := rfl
    have hlt : (chr0 s).toNat < 256 := UInt8.toNat_lt _
    have ix := idx_letter ⟨(chr0 s).toNat, hlt⟩
    have ec : (((chr0 s).toNat : Nat) : Int).toNat.toUInt8 = chr0 s := by simp
    simp only [Nat.toUInt8, UInt8.ofNat_toNat] at ix
    generalize chr0 s = c at e0 hlt ix ec ⊢
    have hsz : 0 < s.size := by omega
    have hv : (∃ n : Nat, n < 4 ∧ Lib.indexByte [120, 121, 122, 119] c = n ∧ p1 c.toNat = ((n : Int), true)) ∨ (Lib.indexByte [120, 121, 122, 119] c = -1 ∧ p1 c.toNat = if 48 ≤ c.toNat ∧ c.toNat ≤ 57 then (47 - (c.toNat : Int), true) else (0, false)) := by
      rw [ix]
      unfold p1
      split
      · exact .inl ⟨0, by omega, rfl, rfl⟩
      split
      · exact .inl ⟨1, by omega, rfl, rfl⟩
      split
      · exact .inl ⟨2, by omega, rfl, rfl⟩
      split
      · exact .inl ⟨3, by omega, rfl, rfl⟩
      exact .inr ⟨rfl, rfl⟩
    rcases hv with ⟨n, hn, e1, e2⟩ | ⟨e1, e2⟩
    · have d2 : decide ((0 : Int) ≤ (n : Int)) = true := decide_eq_true (by omega)
      have d3 : decide ((n : Int) ≥ 0) = true := decide_eq_true (by omega)
      rw [e2]
      simp -implicitDefEqProofs (maxSteps := 2000000) only [go_sem, d1, hsz, e0]
      refine call_of (stringsIndexByte_sat ⟨#[120, 121, 122, 119]⟩ c.toNat) (by simp -implicitDefEqProofs (maxSteps := 2000000) only [go_sem, e0, hsz, ec, e1, d2, d3]) (by kernel_rfl) (by simp -implicitDefEqProofs (maxSteps := 2000000) only [go_sem, e0, hsz, ec, e1, d2, d3]) ?_
      simp -implicitDefEqProofs (maxSteps := 2000000) only [go_sem, e0, hsz, ec, e1, d2, d3]
      first | done | rfl | exact ⟨rfl, rfl⟩ | exact ⟨rfl, rfl, rfl⟩ | (refine tr_and ?_ ?_ <;> first | rfl | exact ⟨rfl, rfl⟩ | kernel_rfl)
    · rw [e2]
      rcases d4 : decide (((c.toNat : Nat) : Int) ≥ 48)
      · rw [if_neg (by have := of_decide_eq_false d4; omega)]
        simp -implicitDefEqProofs (maxSteps := 2000000) only [go_sem, d1, hsz, e0]
        refine call_of (stringsIndexByte_sat ⟨#[120, 121, 122, 119]⟩ c.toNat) (by simp -implicitDefEqProofs (maxSteps := 2000000) only [go_sem, e0, hsz, ec, e1, d4]) (by kernel_rfl) (by simp -implicitDefEqProofs (maxSteps := 2000000) only [go_sem, e0, hsz, ec, e1, d4]) ?_
        simp -implicitDefEqProofs (maxSteps := 2000000) only [go_sem, e0, hsz, ec, e1, d4]
      rcases d5 : decide (((c.toNat : Nat) : Int) ≤ 57)
      · rw [if_neg (by have := of_decide_eq_false d5; omega)]
        simp -implicitDefEqProofs (maxSteps := 2000000) only [go_sem, d1, hsz, e0]
        refine call_of (stringsIndexByte_sat ⟨#[120, 121, 122, 119]⟩ c.toNat) (by simp -implicitDefEqProofs (maxSteps := 2000000) only [go_sem, e0, hsz, ec, e1, d4, d5]) (by kernel_rfl) (by simp -implicitDefEqProofs (maxSteps := 2000000) only [go_sem, e0, hsz, ec, e1, d4, d5]) ?_
        simp -implicitDefEqProofs (maxSteps := 2000000) only [go_sem, e0, hsz, ec, e1, d4, d5]
      · have h4 := of_decide_eq_true d4
        have h5 := of_decide_eq_true d5
        have wu : IntKind.u8.wrap (((c.toNat : Nat) : Int) - 48) = ((c.toNat - 48 : Nat) : Int) := by rw [IntWalk.u8_in _ (by omega)]; omega
        have wi : IntKind.i64.wrap ((c.toNat - 48 : Nat) : Int) = ((c.toNat - 48 : Nat) : Int) := IntWalk.i64_in _ (by omega)
        rw [if_pos (by omega), show 47 - ((c.toNat : Nat) : Int) = -1 - ((c.toNat - 48 : Nat) : Int) by omega]
        simp -implicitDefEqProofs (maxSteps := 2000000) only [go_sem, d1, hsz, e0]
        refine call_of (stringsIndexByte_sat ⟨#[120, 121, 122, 119]⟩ c.toNat) (by simp -implicitDefEqProofs (maxSteps := 2000000) only [go_sem, e0, hsz, ec, e1, d4, d5, wu, wi]) (by kernel_rfl) (by simp -implicitDefEqProofs (maxSteps := 2000000) only [go_sem, e0, hsz, ec, e1, d4, d5, wu, wi]) ?_
        simp -implicitDefEqProofs (maxSteps := 2000000) only [go_sem, e0, hsz, ec, e1, d4, d5, wu, wi]
        refine call_of (constantT_sat ((c.toNat - 48 : Nat) : Int) (by omega)) (by simp -implicitDefEqProofs (maxSteps := 2000000) only [go_sem]) (by kernel_rfl) (by simp -implicitDefEqProofs (maxSteps := 2000000) only [go_sem]) ?_
        simp -implicitDefEqProofs (maxSteps := 2000000) only [go_sem]
  · have hs : ¬ s.size = 1 := by intro e; rw [e] at d1; simp at d1
    rw [if_neg hs]
    simp -implicitDefEqProofs (maxSteps := 2000000) only [go_sem, d1]
    first | done | rfl | exact ⟨rfl, rfl⟩ | exact ⟨rfl, rfl, rfl⟩ | (refine tr_and ?_ ?_ <;> first | rfl | exact ⟨rfl, rfl⟩ | kernel_rfl)
end Go.Proofs.YtahjpaicfppkoaaDoor.A


/- A TERM's TEXT, the program's. Conditions: none. -/
namespace Go.Proofs.YtahjpaicfppkoaaDoor.A
open Go
set_option linter.unusedSimpArgs false
set_option linter.unusedVariables false
set_option maxRecDepth 100000

theorem dec_dig : ∀ n : Fin 10, (⟨(Lib.decDigits n.val).toArray⟩ : ByteArray) = digT (n.val : Int) := by decide +kernel
theorem implFormatInt_sat (v : Nat) (h : v ≤ 9) : Sat Tryd.prog 15 [lInt v] [lStr (digT v)] [g1] := by
  refine sat_of_body mixed Tryd.func15 rfl (by kernel_rfl) (by kernel_rfl) (rs := [.tmp 2]) rfl rfl rfl ?_
  rw [← dec_dig ⟨v, by omega⟩]
  simp -implicitDefEqProofs (maxSteps := 2000000) only [go_sem]
  refine call_of (strconvItoa_sat v (by omega)) (by simp -implicitDefEqProofs (maxSteps := 2000000) only [go_sem]) (by kernel_rfl) (by simp -implicitDefEqProofs (maxSteps := 2000000) only [go_sem]) ?_
  simp -implicitDefEqProofs (maxSteps := 2000000) only [go_sem]
  first | done | rfl | exact ⟨rfl, rfl⟩ | exact ⟨rfl, rfl, rfl⟩ | (refine tr_and ?_ ?_ <;> first | rfl | exact ⟨rfl, rfl⟩ | kernel_rfl)
theorem implTermValue_sat (t : Int) (ht : -9223372036854775808 ≤ t ∧ t ≤ 9223372036854775807) : Sat Tryd.prog 8 [lInt t] [lInt (if tvOk t then -1 - t else 0), lBool (tvOk t)] [g1] := by
  refine sat_of_body mixed Tryd.func8 rfl (by kernel_rfl) (by kernel_rfl) (rs := [.tmp 2, .tmp 3]) rfl rfl rfl ?_
  have e : inB t (-10) (-1) = tvOk t := rfl
  rcases d2 : tvOk t
  · rw [d2] at e
    simp -implicitDefEqProofs (maxSteps := 2000000) only [go_sem]
    refine call_of (inW_sat t (-10) (-1)) (by simp -implicitDefEqProofs (maxSteps := 2000000) only [go_sem, e]) (by kernel_rfl) (by simp -implicitDefEqProofs (maxSteps := 2000000) only [go_sem, e]) ?_
    simp -implicitDefEqProofs (maxSteps := 2000000) only [go_sem, e]
    first | done | rfl | exact ⟨rfl, rfl⟩ | exact ⟨rfl, rfl, rfl⟩ | (refine tr_and ?_ ?_ <;> first | rfl | exact ⟨rfl, rfl⟩ | kernel_rfl)
  · rw [d2] at e
    have h1 := inB_of e
    have w1 : IntKind.i64.wrap (-1 - t) = -1 - t := IntWalk.i64_in _ (by omega)
    simp -implicitDefEqProofs (maxSteps := 2000000) only [go_sem]
    refine call_of (inW_sat t (-10) (-1)) (by simp -implicitDefEqProofs (maxSteps := 2000000) only [go_sem, e, w1]) (by kernel_rfl) (by simp -implicitDefEqProofs (maxSteps := 2000000) only [go_sem, e, w1]) ?_
    simp -implicitDefEqProofs (maxSteps := 2000000) only [go_sem, e, w1]
    first | done | rfl | exact ⟨rfl, rfl⟩ | exact ⟨rfl, rfl, rfl⟩ | (refine tr_and ?_ ?_ <;> first | rfl | exact ⟨rfl, rfl⟩ | kernel_rfl)
theorem implFormatTerm_sat (t : Int) (ht : -9223372036854775808 ≤ t ∧ t ≤ 9223372036854775807) : Sat Tryd.prog 6 [lInt t] [lStr (fmtT t)] [g1] := by
  refine sat_of_body mixed Tryd.func6 rfl (by kernel_rfl) (by kernel_rfl) (rs := [.tmp 2]) rfl rfl rfl ?_
  rcases d1 : tvOk t
  · simp -implicitDefEqProofs (maxSteps := 2000000) only [go_sem]
    refine call_of (implTermValue_sat t ht) (by simp -implicitDefEqProofs (maxSteps := 2000000) only [go_sem, d1]) (by kernel_rfl) (by simp -implicitDefEqProofs (maxSteps := 2000000) only [go_sem, d1]) ?_
    simp -implicitDefEqProofs (maxSteps := 2000000) only [go_sem, d1]
    rcases d2 : inB t 0 3
    · have e : fmtT t = ⟨#[]⟩ := by
        have : isT t = false := by
          unfold isT inB; unfold tvOk inB at d1; unfold inB at d2
          rw [Bool.and_eq_false_iff] at d1 d2 ⊢
          simp only [decide_eq_false_iff_not] at d1 d2 ⊢
          omega
        rw [fmtT, this]; rfl
      rw [e]
      refine call_of (inW_sat t 0 3) (by simp -implicitDefEqProofs (maxSteps := 2000000) only [go_sem, d2]) (by kernel_rfl) (by simp -implicitDefEqProofs (maxSteps := 2000000) only [go_sem, d2]) ?_
      simp -implicitDefEqProofs (maxSteps := 2000000) only [go_sem, d2]
      first | done | rfl | exact ⟨rfl, rfl⟩ | exact ⟨rfl, rfl, rfl⟩ | (refine tr_and ?_ ?_ <;> first | rfl | exact ⟨rfl, rfl⟩ | kernel_rfl)
    · obtain ⟨n, rfl⟩ : ∃ n : Nat, t = n := ⟨t.toNat, by have := inB_of d2; omega⟩
      have hn : n < 4 := by have := inB_of d2; omega
      have w1 : IntKind.i64.wrap ((n : Int) + 1) = ((n + 1 : Nat) : Int) := i64_succ (by omega)
      refine call_of (inW_sat n 0 3) (by simp -implicitDefEqProofs (maxSteps := 2000000) only [go_sem, d2, w1]) (by kernel_rfl) (by simp -implicitDefEqProofs (maxSteps := 2000000) only [go_sem, d2, w1]) ?_
      simp -implicitDefEqProofs (maxSteps := 2000000) only [go_sem, d2, w1]
      refine ⟨by omega, by omega, ?_⟩
      rw [letters ⟨n, hn⟩]
  · obtain ⟨v, hv⟩ : ∃ v : Nat, -1 - t = v := ⟨(-1 - t).toNat, by have := inB_of d1; omega⟩
    have hv9 : v ≤ 9 := by have := inB_of d1; omega
    have e : fmtT t = digT v := by
      have h1 := inB_of d1
      have : isT t = true := by unfold isT inB; simp; omega
      rw [fmtT, this, if_pos rfl, letT, if_pos (by omega), digT, show 48 + (v : Int) = 47 - t by omega]
    rw [e]
    simp -implicitDefEqProofs (maxSteps := 2000000) only [go_sem]
    refine call_of (implTermValue_sat t ht) (by simp -implicitDefEqProofs (maxSteps := 2000000) only [go_sem, d1, hv]) (by kernel_rfl) (by simp -implicitDefEqProofs (maxSteps := 2000000) only [go_sem, d1, hv]) ?_
    simp -implicitDefEqProofs (maxSteps := 2000000) only [go_sem, d1, hv]
    refine call_of (implFormatInt_sat v hv9) (by simp -implicitDefEqProofs (maxSteps := 2000000) only [go_sem]) (by kernel_rfl) (by simp -implicitDefEqProofs (maxSteps := 2000000) only [go_sem]) ?_
    simp -implicitDefEqProofs (maxSteps := 2000000) only [go_sem]
    first | done | rfl | exact ⟨rfl, rfl⟩ | exact ⟨rfl, rfl, rfl⟩ | (refine tr_and ?_ ?_ <;> first | rfl | exact ⟨rfl, rfl⟩ | kernel_rfl)
end Go.Proofs.YtahjpaicfppkoaaDoor.A


/- TERMS DRAWN. Conditions: none. -/
namespace Go.Proofs.YtahjpaicfppkoaaDoor.A
open Go
set_option linter.unusedSimpArgs false
set_option linter.unusedVariables false
set_option maxRecDepth 100000

theorem big_sat (b : List Int) (h : b.length ≤ 9223372036854775807) : Sat Tryd.prog 4 [lBys b] [lBool (decide ((b.length : Int) > 1048576))] [g1] := by
  refine sat_of_body mixed Tryd.func4 rfl (by kernel_rfl) (by kernel_rfl) (rs := [.tmp 2]) rfl rfl rfl ?_
  simp -implicitDefEqProofs (maxSteps := 2000000) only [go_sem]
def termL : List Int := [0, 1, 2, 3, 4, -1, -2, -10, -11]
def termD (b : List Int) : Int := termL.getD (beV (curN b) 9) 0
def constD (b : List Int) : Int := ((beV (curN b) 12 : Nat) : Int) - 1
theorem l10Term_sat (c : Cur) (hc : c.ok) : Sat Tryd.prog 13 [lCur c] [lInt (termL.getD (beV c 9) 0)] [lCur (byC c)] := by
  refine sat_of_body mixed Tryd.func13 rfl (by kernel_rfl) (by kernel_rfl) (rs := [.tmp 2]) rfl rfl rfl ?_
  have eL : (((((((((List.replicate 9 (0 : Int)).set 0 0).set 1 1).set 2 2).set 3 3).set 4 4).set 5 (-1)).set 6 (-2)).set 7 (-10)).set 8 (-11) = termL := rfl
  have el : termL.length = 9 := rfl
  simp -implicitDefEqProofs (maxSteps := 2000000) only [go_sem]
  refine call_of (l1PickInt_own c termL hc (by decide) (by decide)) (by simp -implicitDefEqProofs (maxSteps := 2000000) only [go_sem, eL, el]) (by kernel_rfl) (by simp -implicitDefEqProofs (maxSteps := 2000000) only [go_sem, eL, el]) ?_
  simp -implicitDefEqProofs (maxSteps := 2000000) only [go_sem, eL, el]
  rfl
theorem drawFormatTerm_sat (b : List Int) (h : b.length ≤ 1048576) : Sat Tryd.prog 5 [lBys b] [lInt (termD b)] [g1] := by
  refine sat_of_body mixed Tryd.func5 rfl (by kernel_rfl) (by kernel_rfl) (rs := [.tmp 2]) rfl rfl rfl ?_
  simp -implicitDefEqProofs (maxSteps := 2000000) only [go_sem]
  refine call_of (l1New_sat b (by omega)) (by simp -implicitDefEqProofs (maxSteps := 2000000) only [go_sem]) (by kernel_rfl) (by simp -implicitDefEqProofs (maxSteps := 2000000) only [go_sem]) ?_
  simp -implicitDefEqProofs (maxSteps := 2000000) only [go_sem]
  refine call_of (l10Term_sat (curN b) (curN_ok h)) (by simp -implicitDefEqProofs (maxSteps := 2000000) only [go_sem]) (by kernel_rfl) (by simp -implicitDefEqProofs (maxSteps := 2000000) only [go_sem]) ?_
  simp -implicitDefEqProofs (maxSteps := 2000000) only [go_sem]
  rfl
theorem drawConstantTerm_sat (b : List Int) (h : b.length ≤ 1048576) : Sat Tryd.prog 9 [lBys b] [lInt (constD b)] [g1] := by
  refine sat_of_body mixed Tryd.func9 rfl (by kernel_rfl) (by kernel_rfl) (rs := [.tmp 2]) rfl rfl rfl ?_
  have hv := beV_lt (curN b) (n := 12) (by decide)
  have w : IntKind.i64.wrap (((beV (curN b) 12 : Nat) : Int) - 1) = constD b := IntWalk.i64_in _ (by omega)
  simp -implicitDefEqProofs (maxSteps := 2000000) only [go_sem]
  refine call_of (l1New_sat b (by omega)) (by simp -implicitDefEqProofs (maxSteps := 2000000) only [go_sem]) (by kernel_rfl) (by simp -implicitDefEqProofs (maxSteps := 2000000) only [go_sem]) ?_
  simp -implicitDefEqProofs (maxSteps := 2000000) only [go_sem]
  refine call_of (l1Below_sat (curN b) 12 (curN_ok h) (by decide) (by decide)) (by simp -implicitDefEqProofs (maxSteps := 2000000) only [go_sem, w] <;> and_intros <;> rfl) (by kernel_rfl) (by simp -implicitDefEqProofs (maxSteps := 2000000) only [go_sem, w]) ?_
  simp -implicitDefEqProofs (maxSteps := 2000000) only [go_sem, w]
theorem isVariable_sat (t : Int) : Sat Tryd.prog 12 [lInt t] [lBool (decide (t ≥ 0))] [g1] := by
  refine sat_of_body mixed Tryd.func12 rfl (by kernel_rfl) (by kernel_rfl) (rs := [.tmp 2]) rfl rfl rfl ?_
  simp -implicitDefEqProofs (maxSteps := 2000000) only [go_sem]
end Go.Proofs.YtahjpaicfppkoaaDoor.A


/- MARKS OF RELATIONS. Conditions: none. -/
namespace Go.Proofs.YtahjpaicfppkoaaDoor.A
open Go
set_option linter.unusedSimpArgs false
set_option linter.unusedVariables false
set_option maxRecDepth 100000

def digit (k : Nat) : ByteArray := ⟨[UInt8.ofNat (48 + k % 10)].toArray⟩
def mD : Nat → Nat → ByteArray → ByteArray
  | 0, _, out => out
  | f + 1, k, out => if k = 0 then out else mD f (k / 10) (digit k ++ out)
def markT (k : Int) : ByteArray := if k ≤ 0 then ⟨#[109, 48]⟩ else ⟨#[109]⟩ ++ mD k.toNat k.toNat ByteArray.empty
theorem digit_size (k : Nat) : (digit k).size = 1 := rfl
theorem mD_zero (f : Nat) (out : ByteArray) : mD f 0 out = out := by cases f <;> simp [mD]
theorem u8_digit (k : Nat) : IntKind.u8.wrap (IntKind.i64.wrap (48 + ((k : Int).tmod 10))) = ((48 + k % 10 : Nat) : Int) := by
  have h : (k : Int).tmod 10 = ((k % 10 : Nat) : Int) := by rw [Int.tmod_eq_emod_of_nonneg (by omega)]; omega
  rw [h, IntWalk.i64_in _ (by omega)]
  have h2 : k % 10 < 10 := Nat.mod_lt _ (by omega)
  unfold IntKind.wrap
  simp [IntKind.signed, IntKind.bits]
  omega
theorem i64_div10 {k : Nat} (h : k ≤ 9223372036854775807) : IntKind.i64.wrap ((k : Int).tdiv 10) = ((k / 10 : Nat) : Int) := by
  have h1 : (k : Int).tdiv 10 = ((k / 10 : Nat) : Int) := by rw [Int.tdiv_eq_ediv_of_nonneg (by omega)]; omega
  rw [h1, IntWalk.i64_in _ (by omega)]
end Go.Proofs.YtahjpaicfppkoaaDoor.A


/- CONFLICT EDGES: size, copy, comparison, marks; marks of databases. Conditions: none. -/
namespace Go.Proofs.YtahjpaicfppkoaaDoor.A
open Go
set_option linter.unusedSimpArgs false
set_option linter.unusedVariables false
set_option maxRecDepth 100000

def szEds (a : List Edge) (n : Int) : Int := if n - a.length < 0 then -1 else n - a.length
theorem szEds_ok : SzOk szEds (fun a => a.length ≤ 1048576) := by
  intro a n h
  unfold szEds
  split
  · exact ⟨by omega, fun h => absurd (by omega) h⟩
  · exact ⟨by omega, fun h => by omega⟩
def cntE : Int → Nat → List Edge
  | _, 0 => []
  | k, n + 1 => ⟨k, k + 1⟩ :: cntE (k + 2) n
theorem cntE_length : ∀ (k : Int) (n : Nat), (cntE k n).length = n
  | _, 0 => rfl
  | k, n + 1 => by rw [cntE, List.length_cons, cntE_length]
theorem cntE_get : ∀ {k : Int} {n i : Nat}, i < n → (cntE k n).getD i default = ⟨k + ((2 * i : Nat) : Int), k + ((2 * i : Nat) : Int) + 1⟩
  | k, n + 1, 0, _ => by simp [cntE]
  | k, n + 1, i + 1, h => by
    rw [cntE, List.getD_cons_succ, cntE_get (by omega), show k + 2 + ((2 * i : Nat) : Int) = k + ((2 * (i + 1) : Nat) : Int) by omega]
theorem cntE_full (k : Int) (n : Nat) : List.take n (cntE k n) = cntE k n := List.take_of_length_le (by rw [cntE_length]; omega)
attribute [go_sem] cntE_full
def numDb (d : Db) : Nat := 3 * d.rels.length + numRI d.facts
theorem numDb_ok {d : Db} (h : d.ok) : numDb d ≤ 1048577 * 1048577 + 3 * 1048576 := by
  have h1 := numRI_ok h.2.2
  have h2 := h.1.1
  have h3 := h.2.1
  unfold numDb
  have : d.facts.length * 1048577 ≤ 1048576 * 1048577 := Nat.mul_le_mul_right _ h3
  omega
end Go.Proofs.YtahjpaicfppkoaaDoor.A


/- THE WALK OF THE LAW FnTermFormat. Conditions: none. -/
namespace Go.Proofs.YtahjpaicfppkoaaDoor.A
open Go
set_option linter.unusedSimpArgs false
set_option linter.unusedVariables false
set_option maxRecDepth 100000
theorem termL_all : ∀ i : Fin 9, let t := termL.getD i.val 0
    (-11 ≤ t ∧ t ≤ 4) ∧ (isT t = true → pT (fmtT t) = (t, true) ∧ decide (fmtT t = (⟨#[]⟩ : ByteArray)) = false) ∧ (isT t = false → pT (fmtT t) = (0, false) ∧ decide (fmtT t = (⟨#[]⟩ : ByteArray)) = true) := by decide +kernel
set_option maxHeartbeats 8000000 in
/-- THE LAW FnTermFormat. -/
theorem lawTermFormat_sat (b : List Int) (h : b.length ≤ 9223372036854775807) : Sat Tryd.prog 3 [lBys b] [lBool true] [g1] := by
  refine sat_of_body mixed Tryd.func3 rfl (by kernel_rfl) (by kernel_rfl) (rs := [.tmp 2]) rfl rfl rfl ?_
  simp -implicitDefEqProofs (maxSteps := 2000000) only [go_sem]
  refine call_of (big_sat b h) (by simp -implicitDefEqProofs (maxSteps := 2000000) only [go_sem]) (by kernel_rfl) (by simp -implicitDefEqProofs (maxSteps := 2000000) only [go_sem]) ?_
  simp -implicitDefEqProofs (maxSteps := 2000000) only [go_sem]
  refine cond_split (fun e0 => ?_) fun e0 => ?_
  · simp -implicitDefEqProofs (maxSteps := 2000000) only [go_sem]
  have o0 : b.length ≤ 1048576 := by have := of_decide_eq_false e0; omega
  simp -implicitDefEqProofs (maxSteps := 2000000) only [go_sem]
  obtain ⟨⟨t1, t2⟩, t3, t4⟩ := termL_all ⟨beV (curN b) 9, beV_lt _ (by decide)⟩
  have ht : termL.getD (beV (curN b) 9) 0 = termD b := rfl
  simp only [ht] at t1 t2 t3 t4
  have w1 := beV_lt (curN b) (n := 12) (by decide)
  have w2 : -1 ≤ constD b ∧ constD b ≤ 10 := by unfold constD; omega
  refine call_of (drawFormatTerm_sat b o0) (by simp -implicitDefEqProofs (maxSteps := 2000000) only [go_sem]) (by kernel_rfl) (by simp -implicitDefEqProofs (maxSteps := 2000000) only [go_sem]) ?_
  simp -implicitDefEqProofs (maxSteps := 2000000) only [go_sem]
  refine call_of (implFormatTerm_sat (termD b) (by omega)) (by simp -implicitDefEqProofs (maxSteps := 2000000) only [go_sem]) (by kernel_rfl) (by simp -implicitDefEqProofs (maxSteps := 2000000) only [go_sem]) ?_
  simp -implicitDefEqProofs (maxSteps := 2000000) only [go_sem]
  refine call_of (implParseTerm_sat (fmtT (termD b)) (by have : (fmtT (termD b)).size ≤ 1 := by { unfold fmtT; split; exact Nat.le_refl 1; exact Nat.zero_le 1 }; omega)) (by simp -implicitDefEqProofs (maxSteps := 2000000) only [go_sem]) (by kernel_rfl) (by simp -implicitDefEqProofs (maxSteps := 2000000) only [go_sem]) ?_
  simp -implicitDefEqProofs (maxSteps := 2000000) only [go_sem]
  refine call_of (implTermValue_sat (termD b) (by omega)) (by simp -implicitDefEqProofs (maxSteps := 2000000) only [go_sem]) (by kernel_rfl) (by simp -implicitDefEqProofs (maxSteps := 2000000) only [go_sem]) ?_
  simp -implicitDefEqProofs (maxSteps := 2000000) only [go_sem]
  refine call_of (drawConstantTerm_sat b o0) (by simp -implicitDefEqProofs (maxSteps := 2000000) only [go_sem]) (by kernel_rfl) (by simp -implicitDefEqProofs (maxSteps := 2000000) only [go_sem]) ?_
  simp -implicitDefEqProofs (maxSteps := 2000000) only [go_sem]
  refine call_of (constantT_sat (constD b) (by omega)) (by simp -implicitDefEqProofs (maxSteps := 2000000) only [go_sem]) (by kernel_rfl) (by simp -implicitDefEqProofs (maxSteps := 2000000) only [go_sem]) ?_
  simp -implicitDefEqProofs (maxSteps := 2000000) only [go_sem]
  refine call_of (implTermValue_sat (-1 - constD b) (by omega)) (by simp -implicitDefEqProofs (maxSteps := 2000000) only [go_sem]) (by kernel_rfl) (by simp -implicitDefEqProofs (maxSteps := 2000000) only [go_sem]) ?_
  simp -implicitDefEqProofs (maxSteps := 2000000) only [go_sem]
  refine call_of (specFormatTerm_sat (termD b) (by omega)) (by simp -implicitDefEqProofs (maxSteps := 2000000) only [go_sem]) (by kernel_rfl) (by simp -implicitDefEqProofs (maxSteps := 2000000) only [go_sem]) ?_
  simp -implicitDefEqProofs (maxSteps := 2000000) only [go_sem]
  generalize termD b = t at t1 t2 t3 t4 ⊢
  generalize constD b = w at w2 ⊢
  have eV : (decide (t ≥ 0) == !decide (t < 0)) = true := by
    rcases d : decide (t < 0)
    · have := of_decide_eq_false d; rw [decide_eq_true (by omega)]; rfl
    · have := of_decide_eq_true d; rw [decide_eq_false (by omega)]; rfl
  have eB : ∀ p : Bool, (p == p) = true := fun p => by cases p <;> rfl
  have eW : (-1 - (-1 - w) == w) = true := by rw [beq_iff_eq]; omega
  have eT : (-1 - (-1 - t) == t) = true := by rw [beq_iff_eq]; omega
  have eN : (true == false) = false := rfl
  have eM : (false == true) = false := rfl
  have eS : (t == t) = true := by rw [beq_iff_eq]
  rcases it : isT t
  · obtain ⟨q1, q2⟩ := t4 it
    have tv : tvOk t = false := by
      unfold tvOk inB; unfold isT inB at it
      rw [Bool.and_eq_false_iff, decide_eq_false_iff_not, decide_eq_false_iff_not] at it ⊢
      omega
    rcases wt : tvOk (-1 - w)
    · rcases d1 : decide (w ≥ 0)
      · skip
        simp -implicitDefEqProofs (maxSteps := 2000000) only [go_sem, q1, q2, tv, wt, d1, eV, eB, eS, eN, eM, str_beq]
        refine call_of (isVariable_sat t) ?_ ?_ ?_ ?_
        · simp -implicitDefEqProofs (maxSteps := 2000000) only [go_sem, q1, q2, tv, wt, d1, eV, eB, eS, eN, eM, str_beq]
        · kernel_rfl
        · simp -implicitDefEqProofs (maxSteps := 2000000) only [go_sem, q1, q2, tv, wt, d1, eV, eB, eS, eN, eM, str_beq]
        simp -implicitDefEqProofs (maxSteps := 2000000) only [go_sem, q1, q2, tv, wt, d1, eV, eB, eS, eN, eM, str_beq]
        first | (with_reducible refine tr_and ?_ ?_; focus kernel_rfl) | (with_reducible refine tr_only ?_; kernel_rfl) | skip
      · have d2 : decide (w ≤ 9) = false := by
          have := of_decide_eq_true d1
          refine decide_eq_false fun h9 => ?_
          unfold tvOk inB at wt
          rw [Bool.and_eq_false_iff, decide_eq_false_iff_not, decide_eq_false_iff_not] at wt
          omega
        simp -implicitDefEqProofs (maxSteps := 2000000) only [go_sem, q1, q2, tv, wt, d1, d2, eV, eB, eS, eN, eM, str_beq]
        refine call_of (isVariable_sat t) ?_ ?_ ?_ ?_
        · simp -implicitDefEqProofs (maxSteps := 2000000) only [go_sem, q1, q2, tv, wt, d1, d2, eV, eB, eS, eN, eM, str_beq]
        · kernel_rfl
        · simp -implicitDefEqProofs (maxSteps := 2000000) only [go_sem, q1, q2, tv, wt, d1, d2, eV, eB, eS, eN, eM, str_beq]
        simp -implicitDefEqProofs (maxSteps := 2000000) only [go_sem, q1, q2, tv, wt, d1, d2, eV, eB, eS, eN, eM, str_beq]
        first | (with_reducible refine tr_and ?_ ?_; focus kernel_rfl) | (with_reducible refine tr_only ?_; kernel_rfl) | skip
    · have hw := inB_of wt
      have d1 : decide (w ≥ 0) = true := decide_eq_true (by omega)
      have d2 : decide (w ≤ 9) = true := decide_eq_true (by omega)
      simp -implicitDefEqProofs (maxSteps := 2000000) only [go_sem, q1, q2, tv, wt, d1, d2, eW, eV, eB, eS, eN, eM, str_beq]
      refine call_of (isVariable_sat t) ?_ ?_ ?_ ?_
      · simp -implicitDefEqProofs (maxSteps := 2000000) only [go_sem, q1, q2, tv, wt, d1, d2, eW, eV, eB, eS, eN, eM, str_beq]
      · kernel_rfl
      · simp -implicitDefEqProofs (maxSteps := 2000000) only [go_sem, q1, q2, tv, wt, d1, d2, eW, eV, eB, eS, eN, eM, str_beq]
      simp -implicitDefEqProofs (maxSteps := 2000000) only [go_sem, q1, q2, tv, wt, d1, d2, eW, eV, eB, eS, eN, eM, str_beq]
      first | (with_reducible refine tr_and ?_ ?_; focus kernel_rfl) | (with_reducible refine tr_only ?_; kernel_rfl) | skip
  · obtain ⟨q1, q2⟩ := t3 it
    rcases tv : tvOk t
    · skip
      rcases wt : tvOk (-1 - w)
      · rcases d1 : decide (w ≥ 0)
        · skip
          simp -implicitDefEqProofs (maxSteps := 2000000) only [go_sem, q1, q2, tv, wt, d1, eV, eB, eS, eN, eM, str_beq]
          refine call_of (isVariable_sat t) ?_ ?_ ?_ ?_
          · simp -implicitDefEqProofs (maxSteps := 2000000) only [go_sem, q1, q2, tv, wt, d1, eV, eB, eS, eN, eM, str_beq]
          · kernel_rfl
          · simp -implicitDefEqProofs (maxSteps := 2000000) only [go_sem, q1, q2, tv, wt, d1, eV, eB, eS, eN, eM, str_beq]
          simp -implicitDefEqProofs (maxSteps := 2000000) only [go_sem, q1, q2, tv, wt, d1, eV, eB, eS, eN, eM, str_beq]
          first | (with_reducible refine tr_and ?_ ?_; focus kernel_rfl) | (with_reducible refine tr_only ?_; kernel_rfl) | skip
        · have d2 : decide (w ≤ 9) = false := by
            have := of_decide_eq_true d1
            refine decide_eq_false fun h9 => ?_
            unfold tvOk inB at wt
            rw [Bool.and_eq_false_iff, decide_eq_false_iff_not, decide_eq_false_iff_not] at wt
            omega
          simp -implicitDefEqProofs (maxSteps := 2000000) only [go_sem, q1, q2, tv, wt, d1, d2, eV, eB, eS, eN, eM, str_beq]
          refine call_of (isVariable_sat t) ?_ ?_ ?_ ?_
          · simp -implicitDefEqProofs (maxSteps := 2000000) only [go_sem, q1, q2, tv, wt, d1, d2, eV, eB, eS, eN, eM, str_beq]
          · kernel_rfl
          · simp -implicitDefEqProofs (maxSteps := 2000000) only [go_sem, q1, q2, tv, wt, d1, d2, eV, eB, eS, eN, eM, str_beq]
          simp -implicitDefEqProofs (maxSteps := 2000000) only [go_sem, q1, q2, tv, wt, d1, d2, eV, eB, eS, eN, eM, str_beq]
          first | (with_reducible refine tr_and ?_ ?_; focus kernel_rfl) | (with_reducible refine tr_only ?_; kernel_rfl) | skip
      · have hw := inB_of wt
        have d1 : decide (w ≥ 0) = true := decide_eq_true (by omega)
        have d2 : decide (w ≤ 9) = true := decide_eq_true (by omega)
        simp -implicitDefEqProofs (maxSteps := 2000000) only [go_sem, q1, q2, tv, wt, d1, d2, eW, eV, eB, eS, eN, eM, str_beq]
        refine call_of (isVariable_sat t) ?_ ?_ ?_ ?_
        · simp -implicitDefEqProofs (maxSteps := 2000000) only [go_sem, q1, q2, tv, wt, d1, d2, eW, eV, eB, eS, eN, eM, str_beq]
        · kernel_rfl
        · simp -implicitDefEqProofs (maxSteps := 2000000) only [go_sem, q1, q2, tv, wt, d1, d2, eW, eV, eB, eS, eN, eM, str_beq]
        simp -implicitDefEqProofs (maxSteps := 2000000) only [go_sem, q1, q2, tv, wt, d1, d2, eW, eV, eB, eS, eN, eM, str_beq]
        first | (with_reducible refine tr_and ?_ ?_; focus kernel_rfl) | (with_reducible refine tr_only ?_; kernel_rfl) | skip
    · skip
      rcases wt : tvOk (-1 - w)
      · rcases d1 : decide (w ≥ 0)
        · skip
          simp -implicitDefEqProofs (maxSteps := 2000000) only [go_sem, q1, q2, tv, eT, wt, d1, eV, eB, eS, eN, eM, str_beq]
          refine call_of (isVariable_sat t) ?_ ?_ ?_ ?_
          · simp -implicitDefEqProofs (maxSteps := 2000000) only [go_sem, q1, q2, tv, eT, wt, d1, eV, eB, eS, eN, eM, str_beq]
          · kernel_rfl
          · simp -implicitDefEqProofs (maxSteps := 2000000) only [go_sem, q1, q2, tv, eT, wt, d1, eV, eB, eS, eN, eM, str_beq]
          simp -implicitDefEqProofs (maxSteps := 2000000) only [go_sem, q1, q2, tv, eT, wt, d1, eV, eB, eS, eN, eM, str_beq]
          refine call_of (constantT_sat (-1 - t) (by omega)) ?_ ?_ ?_ ?_
          · simp -implicitDefEqProofs (maxSteps := 2000000) only [go_sem, q1, q2, tv, eT, wt, d1, eV, eB, eS, eN, eM, str_beq]
          · kernel_rfl
          · simp -implicitDefEqProofs (maxSteps := 2000000) only [go_sem, q1, q2, tv, eT, wt, d1, eV, eB, eS, eN, eM, str_beq]
          simp -implicitDefEqProofs (maxSteps := 2000000) only [go_sem, q1, q2, tv, eT, wt, d1, eV, eB, eS, eN, eM, str_beq]
          first | (with_reducible refine tr_and ?_ ?_; focus kernel_rfl) | (with_reducible refine tr_only ?_; kernel_rfl) | skip
        · have d2 : decide (w ≤ 9) = false := by
            have := of_decide_eq_true d1
            refine decide_eq_false fun h9 => ?_
            unfold tvOk inB at wt
            rw [Bool.and_eq_false_iff, decide_eq_false_iff_not, decide_eq_false_iff_not] at wt
            omega
          simp -implicitDefEqProofs (maxSteps := 2000000) only [go_sem, q1, q2, tv, eT, wt, d1, d2, eV, eB, eS, eN, eM, str_beq]
          refine call_of (isVariable_sat t) ?_ ?_ ?_ ?_
          · simp -implicitDefEqProofs (maxSteps := 2000000) only [go_sem, q1, q2, tv, eT, wt, d1, d2, eV, eB, eS, eN, eM, str_beq]
          · kernel_rfl
          · simp -implicitDefEqProofs (maxSteps := 2000000) only [go_sem, q1, q2, tv, eT, wt, d1, d2, eV, eB, eS, eN, eM, str_beq]
          simp -implicitDefEqProofs (maxSteps := 2000000) only [go_sem, q1, q2, tv, eT, wt, d1, d2, eV, eB, eS, eN, eM, str_beq]
          refine call_of (constantT_sat (-1 - t) (by omega)) ?_ ?_ ?_ ?_
          · simp -implicitDefEqProofs (maxSteps := 2000000) only [go_sem, q1, q2, tv, eT, wt, d1, d2, eV, eB, eS, eN, eM, str_beq]
          · kernel_rfl
          · simp -implicitDefEqProofs (maxSteps := 2000000) only [go_sem, q1, q2, tv, eT, wt, d1, d2, eV, eB, eS, eN, eM, str_beq]
          simp -implicitDefEqProofs (maxSteps := 2000000) only [go_sem, q1, q2, tv, eT, wt, d1, d2, eV, eB, eS, eN, eM, str_beq]
          first | (with_reducible refine tr_and ?_ ?_; focus kernel_rfl) | (with_reducible refine tr_only ?_; kernel_rfl) | skip
      · have hw := inB_of wt
        have d1 : decide (w ≥ 0) = true := decide_eq_true (by omega)
        have d2 : decide (w ≤ 9) = true := decide_eq_true (by omega)
        simp -implicitDefEqProofs (maxSteps := 2000000) only [go_sem, q1, q2, tv, eT, wt, d1, d2, eW, eV, eB, eS, eN, eM, str_beq]
        refine call_of (isVariable_sat t) ?_ ?_ ?_ ?_
        · simp -implicitDefEqProofs (maxSteps := 2000000) only [go_sem, q1, q2, tv, eT, wt, d1, d2, eW, eV, eB, eS, eN, eM, str_beq]
        · kernel_rfl
        · simp -implicitDefEqProofs (maxSteps := 2000000) only [go_sem, q1, q2, tv, eT, wt, d1, d2, eW, eV, eB, eS, eN, eM, str_beq]
        simp -implicitDefEqProofs (maxSteps := 2000000) only [go_sem, q1, q2, tv, eT, wt, d1, d2, eW, eV, eB, eS, eN, eM, str_beq]
        refine call_of (constantT_sat (-1 - t) (by omega)) ?_ ?_ ?_ ?_
        · simp -implicitDefEqProofs (maxSteps := 2000000) only [go_sem, q1, q2, tv, eT, wt, d1, d2, eW, eV, eB, eS, eN, eM, str_beq]
        · kernel_rfl
        · simp -implicitDefEqProofs (maxSteps := 2000000) only [go_sem, q1, q2, tv, eT, wt, d1, d2, eW, eV, eB, eS, eN, eM, str_beq]
        simp -implicitDefEqProofs (maxSteps := 2000000) only [go_sem, q1, q2, tv, eT, wt, d1, d2, eW, eV, eB, eS, eN, eM, str_beq]
        first | (with_reducible refine tr_and ?_ ?_; focus kernel_rfl) | (with_reducible refine tr_only ?_; kernel_rfl) | skip
end Go.Proofs.YtahjpaicfppkoaaDoor.A


/- BYTES READ. Conditions: none. -/
namespace Go.Proofs.YtahjpaicfppkoaaDoor.A
open Go
set_option linter.unusedVariables false
theorem readsC_byte {H : Type} {enc : TypeId × Value → H} {P : Program} {W : World} {t : TypeId} (ht : P.underlying t = some (.int .u8)) : ReadsC enc P W t cBy (fun _ => True) := by
  intro n cs x h
  obtain ⟨z, rfl⟩ := trod_int ht h
  exact ⟨z, trivial, ⟨rfl, rfl⟩, trivial⟩
end Go.Proofs.YtahjpaicfppkoaaDoor.A


/- THE LAW FnTermFormat: for every input it returns true, and the input reads as it did. Conditions: none. -/
namespace Go.Proofs.YtahjpaicfppkoaaDoor.lawTermFormat
open Go.ChangeShapes Go.WideShapes Go.ChangeAt Go.RowKit
open Go.Proofs.YtahjpaicfppkoaaDoor.A
set_option linter.unusedVariables false
theorem own : ownKnob Tryd.prog.godebug = none := by kernel_rfl
theorem laid : laidOutB Tryd.prog = true := by kernel_rfl
theorem rowed : mapsRowed Tryd.prog = true := by kernel_rfl
theorem full : ((List.range Tryd.prog.types.size).all fun t => match Tryd.prog.underlying t with | some (.slice e) => decide (0 < Tryd.prog.cellsOf e) | _ => true) = true := by kernel_rfl
set_option maxRecDepth 100000 in
theorem lifted (os : Os) (started : os.Started) (H : Type) (enc : TypeId × Value → H) :
    ReturnsInHanded {} Tryd.checked os 3 .any (fun w args => (Rows.fnTermFormatSpec.pre enc Tryd.prog Tryd.f3 Rows.fnTermFormatRow.domain false w args ∧ laidMetH Tryd.prog Rows.fnTermFormatRow.laid w) ∧ sizedMet enc Tryd.prog Tryd.f3 (OpenSpec.ofChange Rows.fnTermFormatSpec) false w args)
      (Rows.fnTermFormatSpec.post enc Tryd.prog Tryd.f3 false true false false) := by
  refine returnsInHanded_of_change_and (C := Tryd.checked) (X := fun w _ => laidMetH Tryd.prog Rows.fnTermFormatRow.laid w) (fun _ _ _ hh h => h.of_heap hh) own started (by kernel_rfl) Tryd.func3
    (ChangeSpec.witness_shaped (enc := enc) (C := Tryd.checked) (os := os) (X := fun w _ => laidMetH Tryd.prog Rows.fnTermFormatRow.laid w) false (World.laidAll Tryd.prog os Rows.fnTermFormatRow.laid) #[.slice none 0 0] 8 (World.laidAll_os _ _ _)
      (World.shaped_of_ZipB (by kernel_rfl) (by kernel_rfl)) (by kernel_rfl) (by kernel_rfl) (by kernel_rfl)
      (by rw [MakeChecks.laidMetH_plain _ _ _ (by kernel_rfl)]; exact laidMet_laidAll _ (by kernel_rfl) (by kernel_rfl))) ?_
  intro W base args ds gs before hval hW _ _ _ _
  obtain ⟨p, q, hA, hV, hpq, _⟩ := id hW
  rw [Tryd.params3] at hA hval
  obtain ⟨v0, vs0, d0, ds0, p0, q0, e0, rfl, rfl, h0, r0⟩ := trodAll_cons hA
  obtain ⟨rfl, rfl, rfl⟩ := trodAll_nil r0
  obtain ⟨rfl, _⟩ := trodVars_none hV
  obtain rfl : args = #[v0] := by cases args; simp_all
  have rB := readsC_byte (enc := enc) (W := W) und5
  have lBs := readsL_rows (w := 1) rB und22 (by kernel_rfl) (by omega) (fun _ => rfl) bys (fun _ => rfl)
  obtain ⟨a0, g0, l0⟩ := arg_one lBs (okWide_slice_ne und22 (hval 0 _ v0 rfl rfl)) h0
  exact law_calls laid rowed full Tryd.func3 rfl (by kernel_rfl) rfl rfl (by kernel_rfl) rfl und4 hW (lawTermFormat_sat a0 g0.1) ⟨l0 _, trivial⟩ rfl rfl rfl
theorem over : Rows.fnTermFormatRow.holds Tryd.pinned (OpenSpec.ofChange Rows.fnTermFormatSpec) :=
  OpenClaim.holds_of_wide 3 Tryd.f3 rfl rfl rfl rfl rfl rfl rfl ⟨rfl, rfl, rfl, rfl, rfl⟩ rfl rfl rfl rfl rfl (by kernel_rfl) Tryd.func3 (by kernel_rfl)
    (of_decide_eq_true (by kernel_rfl)) (by unfold Func.isWrapper; first | (rw [if_pos (by decide +kernel)]; kernel_rfl) | (rw [if_neg (by decide +kernel)]; exact ⟨rfl, rfl⟩))
    (fun os started H enc _ => lifted os started H enc)
end Go.Proofs.YtahjpaicfppkoaaDoor.lawTermFormat
namespace Go.Proofs.YtahjpaicfppkoaaDoor
/-- The card. -/
theorem fnTermFormat_holds : Rows.FnTermFormatCardSaid :=
  Claim7.holds_tied_plain_at .later [] [.data, .data, .data] true (true, "64d5879efbf09a180410e1e0b9ad6553aaa9e560f66252c69e8d4725f05cc9ba") false lawTermFormat.over (fun _ h => by cases h) (by kernel_rfl) (fun _ h => by cases h) fnTermFormat_row_tie rfl ⟨rfl, rfl⟩ (by kernel_rfl) rfl
    (fun f fn hf hfn => by
      obtain rfl : f = 3 := Option.some.inj ((show Tryd.prog.funcNamed "loop.example/g01918/laws.FnTermFormat" = some 3 by kernel_rfl).symm.trans hf) |>.symm
      obtain rfl : fn = Tryd.f3 := (Option.some.inj (Tryd.func3.symm.trans hfn)).symm
      refine ⟨by kernel_rfl, fun j t ht => ?_⟩
      have hall : (Tryd.f3.params.all fun u => !Tryd.prog.wantsStandIn u) = true := by kernel_rfl
      have hm := Array.mem_of_getElem? ht
      exact (show Tryd.prog.wantsStandIn t = false by simpa using (Array.all_eq_true_iff_forall_mem.mp hall) t hm))
    (by kernel_rfl)
#print axioms fnTermFormat_holds
end Go.Proofs.YtahjpaicfppkoaaDoor
