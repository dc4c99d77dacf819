/- Packed by pack.py: FPi1 FPi2 FPi3 FDel FReg FRegJ FPi4 FPi5 FPi6 FE WParseQuery LParseQuery -/
import Derived.Test.YtedciihjgbkjgabGreatDoorAZ2ParseQuery
import Derived.Laws.Externs
import Derived.Lib.Bytealg
import Derived.Test.YtedciihjgbkjgabGreatDoorAZ1ParseQuery
import Derived.Shelf.RegionOpenPlain
import Derived.WalkKit
import Derived.Deep.LoopGhost
import Derived.Deep.RegionLaw
import Derived.Lib.Walk
import Derived.Lib.SliceRun
import Derived.Sort.Row
import Derived.Deep.RegionLawGrows
import Derived.Lib.Hide
import Derived.Test.YtedciihjgbkjgabGreatDoorA47
import Derived.Test.YtedciihjgbkjgabGreatDoorRows
import Derived.Test.YtedciihjgbkjgabGreatDoorCards
import Derived.Test.YtedciihjgbkjgabGreatDoorTie
import Derived.Lay
import Derived.LaidLaws
import Derived.Handed
import Derived.SevenTiedAt
import Derived.ChangeMaps5

/- TEXTS CUT AT A SIGN: the library. Conditions: none. -/
namespace Go.Proofs.YtedciihjgbkjgabGreatDoor.A
open Go
set_option linter.unusedSimpArgs false
set_option linter.unusedVariables false
set_option maxRecDepth 100000

/-! #### functions that the model runs by itself -/
theorem extern2_sat {P : Program} {f : FuncId} {fn : Func} {e : Array Value → Sem Value} (hf : P.funcs[f]? = some fn) (hname : (fn.name == "runtime.NumGoroutine") = false)
    (hb : fn.body.isNone = true) (hn : Extern.findNext fn = none) (he : Extern.find fn = some e) (v1 v2 v : Value) (hr : ∀ W, (e #[v1, v2]).run P W = .ok v W) :
    Sat P f [.one (.sc v1), .one (.sc v2)] [.one (.sc v)] [.one .gone, .one .gone] := by
  refine ⟨rfl, rfl, fun W lab vs hdead hrep => ?_⟩
  rcases vs with _ | ⟨u1, _ | ⟨u2, _ | ⟨_, _⟩⟩⟩
  · exact hrep.elim
  · exact hrep.2.elim
  rotate_left
  · exact hrep.2.2.elim
  obtain ⟨h1, h2, -⟩ := hrep
  obtain rfl : u1 = v1 := h1
  obtain rfl : u2 = v2 := h2
  unfold CallF
  rw [run_callFunc_extern hf hname hb hn he, hr]
  exact ⟨lab, rfl, ⟨trivial, trivial, trivial⟩, ⟨rfl, rfl, rfl, Nat.le_refl _, fun _ _ _ => ⟨rfl, rfl⟩, hdead⟩⟩
theorem indexByteString_sat (s : ByteArray) (c : Int) : Sat Tryz.prog 172 [lStr s, .one (.sc (.int .u8 c))] [lInt (Lib.indexByte s.data.toList c.toNat.toUInt8)] [g1, g1] :=
  extern2_sat Tryz.func172 (by kernel_rfl) (by kernel_rfl) (by kernel_rfl) (e := Extern.BytealgIndexByte.indexByte) (by kernel_rfl) _ _ _ (fun W => Lib.run_indexByteString s c W)
theorem countString_sat (s : ByteArray) (c : Int) : Sat Tryz.prog 176 [lStr s, .one (.sc (.int .u8 c))] [lInt (Lib.countByte s.data.toList c.toNat.toUInt8)] [g1, g1] :=
  extern2_sat Tryz.func176 (by kernel_rfl) (by kernel_rfl) (by kernel_rfl) (e := Extern.BytealgCount.count) (by kernel_rfl) _ _ _ (fun W => Lib.run_countString s c W)
/-! #### where a sign stands -/
theorem ixB_none {c : UInt8} : ∀ {l : List UInt8}, c ∉ l → Lib.indexByte l c = -1
  | [], _ => rfl
  | b :: l, h => by
    rw [List.mem_cons, not_or] at h
    unfold Lib.indexByte
    rw [if_neg (by rw [beq_iff_eq]; exact fun e => h.1 e.symm), ixB_none h.2]; rfl
theorem ixB_some {c : UInt8} {l2 : List UInt8} : ∀ {l1 : List UInt8}, c ∉ l1 → Lib.indexByte (l1 ++ c :: l2) c = l1.length
  | [], _ => by
    rw [List.nil_append]
    unfold Lib.indexByte
    rw [if_pos (beq_self_eq_true c)]; rfl
  | b :: l, h => by
    rw [List.mem_cons, not_or] at h
    rw [List.cons_append]
    unfold Lib.indexByte
    have e := ixB_some (l2 := l2) h.2
    rw [if_neg (by rw [beq_iff_eq]; exact fun e => h.1 e.symm), e, if_neg (by rw [beq_iff_eq]; omega), List.length_cons]; omega
abbrev oneB (c : UInt8) : ByteArray := ⟨#[c]⟩
def hasB (s : ByteArray) (c : UInt8) : Prop := c ∈ s.data.toList
theorem ixS_no {s : ByteArray} {c : UInt8} (h : ¬ hasB s c) : Lib.indexByte s.data.toList c = -1 := ixB_none h
theorem ixS_at {a b : ByteArray} {c : UInt8} (h : ¬ hasB a c) : Lib.indexByte (a ++ oneB c ++ b).data.toList c = (a.size : Int) := by
  rw [byt_app, byt_app, List.append_assoc]
  have := ixB_some (c := c) (l2 := b.data.toList) h
  rw [show (oneB c).data.toList ++ b.data.toList = c :: b.data.toList from rfl, this, Array.length_toList]; rfl
theorem cut3_size (a b : ByteArray) (c : UInt8) : (a ++ oneB c ++ b).size = a.size + 1 + b.size := by
  rw [app_size, app_size]; rfl
theorem ext_left (a b : ByteArray) (c : UInt8) : (a ++ oneB c ++ b).extract 0 a.size = a := by
  apply byt_eq
  rw [ByteArray.data_extract, Array.toList_extract, byt_app, byt_app, List.append_assoc]
  simp [List.extract, List.take_append]
theorem ext_right (a b : ByteArray) (c : UInt8) : (a ++ oneB c ++ b).extract (a.size + 1) (a ++ oneB c ++ b).size = b := by
  apply byt_eq
  rw [ByteArray.data_extract, Array.toList_extract, cut3_size, byt_app, byt_app, List.append_assoc, show (oneB c).data.toList ++ b.data.toList = c :: b.data.toList from rfl]
  have h1 : a.size = a.data.toList.length := Array.length_toList.symm
  have h2 : b.size = b.data.toList.length := Array.length_toList.symm
  simp only [List.extract]
  rw [h1, h2, show a.data.toList.length + 1 + b.data.toList.length - (a.data.toList.length + 1) = b.data.toList.length by omega, List.drop_append, List.drop_of_length_le (by omega), List.nil_append, show a.data.toList.length + 1 - a.data.toList.length = 1 by omega, List.drop_one, List.tail_cons, List.take_length]
theorem u8_back (c : UInt8) : (((c.toNat : Nat) : Int)).toNat.toUInt8 = c := by
  rw [Int.toNat_natCast]; exact UInt8.ofNat_toNat
theorem byte0 (c : UInt8) : ((oneB c).data.toList.getD 0 0).toNat = c.toNat := rfl
theorem stringsliteIndexByte_sat (s : ByteArray) (c : UInt8) : Sat Tryz.prog 152 [lStr s, .one (.sc (.int .u8 c.toNat))] [lInt (Lib.indexByte s.data.toList c)] [g1, g1] := by
  refine sat_of_body mixed Tryz.func152 rfl (by kernel_rfl) (by kernel_rfl) (rs := [.tmp 4]) rfl rfl rfl ?_
  have h := indexByteString_sat s (c.toNat : Int)
  rw [u8_back] at h
  simp -implicitDefEqProofs (maxSteps := 2000000) only [go_sem]
  refine call_of (h) (by simp -implicitDefEqProofs (maxSteps := 2000000) only [go_sem]) (by kernel_rfl) (by simp -implicitDefEqProofs (maxSteps := 2000000) only [go_sem]) ?_
  simp -implicitDefEqProofs (maxSteps := 2000000) only [go_sem]
theorem stringsliteIndex_sat (s : ByteArray) (c : UInt8) : Sat Tryz.prog 127 [lStr s, lStr (oneB c)] [lInt (Lib.indexByte s.data.toList c)] [g1, g1] := by
  refine sat_of_body mixed Tryz.func127 rfl (by kernel_rfl) (by kernel_rfl) (rs := [.tmp 4]) rfl rfl rfl ?_
  have hs : (oneB c).size = 1 := rfl
  have z0 : (((1 : Nat) : Int) == 0) = false := rfl
  have z1 : (((1 : Nat) : Int) == 1) = true := rfl
  by_cases e : oneB c = s
  · have e1 : Lib.indexByte s.data.toList c = 0 := by rw [← e]; show Lib.indexByte [c] c = 0; unfold Lib.indexByte; rw [if_pos (beq_self_eq_true c)]
    rw [e1]
    have d := decide_eq_true e
    simp -implicitDefEqProofs (maxSteps := 2000000) only [go_sem, hs, z0, z1, d]
    first | done | rfl | exact ⟨rfl, rfl⟩ | exact ⟨rfl, rfl, rfl⟩ | (refine tr_and ?_ ?_ <;> first | rfl | exact ⟨rfl, rfl⟩ | kernel_rfl)
  · have d := decide_eq_false e
    simp -implicitDefEqProofs (maxSteps := 2000000) only [go_sem, hs, z0, z1, d, byte0]
    refine call_of (stringsliteIndexByte_sat s c) (by simp -implicitDefEqProofs (maxSteps := 2000000) only [go_sem]) (by kernel_rfl) (by simp -implicitDefEqProofs (maxSteps := 2000000) only [go_sem]) ?_
    simp -implicitDefEqProofs (maxSteps := 2000000) only [go_sem]
theorem stringsIndex_sat (s : ByteArray) (c : UInt8) : Sat Tryz.prog 158 [lStr s, lStr (oneB c)] [lInt (Lib.indexByte s.data.toList c)] [g1, g1] := by
  refine sat_of_body mixed Tryz.func158 rfl (by kernel_rfl) (by kernel_rfl) (rs := [.tmp 4]) rfl rfl rfl ?_
  simp -implicitDefEqProofs (maxSteps := 2000000) only [go_sem]
  refine call_of (stringsliteIndex_sat s c) (by simp -implicitDefEqProofs (maxSteps := 2000000) only [go_sem]) (by kernel_rfl) (by simp -implicitDefEqProofs (maxSteps := 2000000) only [go_sem]) ?_
  simp -implicitDefEqProofs (maxSteps := 2000000) only [go_sem]
theorem stringsCount_sat (s : ByteArray) (c : UInt8) : Sat Tryz.prog 157 [lStr s, lStr (oneB c)] [lInt (Lib.countByte s.data.toList c)] [g1, g1] := by
  refine sat_of_body mixed Tryz.func157 rfl (by kernel_rfl) (by kernel_rfl) (rs := [.tmp 4]) rfl rfl rfl ?_
  have hs : (oneB c).size = 1 := rfl
  have h := countString_sat s (c.toNat : Int)
  rw [u8_back] at h
  have z0 : (((1 : Nat) : Int) == 0) = false := rfl
  have z1 : (((1 : Nat) : Int) == 1) = true := rfl
  simp -implicitDefEqProofs (maxSteps := 2000000) only [go_sem, hs, z0, z1, byte0]
  refine call_of (h) (by simp -implicitDefEqProofs (maxSteps := 2000000) only [go_sem]) (by kernel_rfl) (by simp -implicitDefEqProofs (maxSteps := 2000000) only [go_sem]) ?_
  simp -implicitDefEqProofs (maxSteps := 2000000) only [go_sem]
/-! #### a text cut at the first sign -/
theorem sliteCut_no (s : ByteArray) (c : UInt8) (h : ¬ hasB s c) : Sat Tryz.prog 92 [lStr s, lStr (oneB c)] [lStr s, lStr ⟨#[]⟩, lBool false] [g1, g1] := by
  refine sat_of_body mixed Tryz.func92 rfl (by kernel_rfl) (by kernel_rfl) (rs := [.tmp 4, .tmp 5, .tmp 6]) rfl rfl rfl ?_
  have e := ixS_no h
  have d : decide ((-1 : Int) ≥ 0) = false := rfl
  simp -implicitDefEqProofs (maxSteps := 2000000) only [go_sem]
  refine call_of (stringsliteIndex_sat s c) (by simp -implicitDefEqProofs (maxSteps := 2000000) only [go_sem, e, d]) (by kernel_rfl) (by simp -implicitDefEqProofs (maxSteps := 2000000) only [go_sem, e, d]) ?_
  simp -implicitDefEqProofs (maxSteps := 2000000) only [go_sem, e, d]
  first | done | rfl | exact ⟨rfl, rfl⟩ | exact ⟨rfl, rfl, rfl⟩ | (refine tr_and ?_ ?_ <;> first | rfl | exact ⟨rfl, rfl⟩ | kernel_rfl)
theorem sliteCut_yes (a b : ByteArray) (c : UInt8) (h : ¬ hasB a c) (hl : (a ++ oneB c ++ b).size ≤ 9223372036854775807) : Sat Tryz.prog 92 [lStr (a ++ oneB c ++ b), lStr (oneB c)] [lStr a, lStr b, lBool true] [g1, g1] := by
  refine sat_of_body mixed Tryz.func92 rfl (by kernel_rfl) (by kernel_rfl) (rs := [.tmp 4, .tmp 5, .tmp 6]) rfl rfl rfl ?_
  have e := ixS_at (b := b) h
  have hz := cut3_size a b c
  have x1 := ext_left a b c
  have x2 := ext_right a b c
  generalize a ++ oneB c ++ b = s at e hz x1 x2 hl ⊢
  have d : decide (((a.size : Nat) : Int) ≥ 0) = true := decide_eq_true (by omega)
  have hs : (oneB c).size = 1 := rfl
  have w1 : IntKind.i64.wrap ((a.size : Int) + ((1 : Nat) : Int)) = ((a.size + 1 : Nat) : Int) := by rw [IntWalk.i64_in _ (by omega)]; omega
  simp -implicitDefEqProofs (maxSteps := 2000000) only [go_sem]
  refine call_of (stringsliteIndex_sat s c) (by simp -implicitDefEqProofs (maxSteps := 2000000) only [go_sem, e, d, hs, w1, x1, x2]) (by kernel_rfl) (by simp -implicitDefEqProofs (maxSteps := 2000000) only [go_sem, e, d, hs, w1, x1, x2]) ?_
  simp -implicitDefEqProofs (maxSteps := 2000000) only [go_sem, e, d, hs, w1, x1, x2]
  and_intros <;> omega
theorem stringsCut_no (s : ByteArray) (c : UInt8) (h : ¬ hasB s c) : Sat Tryz.prog 54 [lStr s, lStr (oneB c)] [lStr s, lStr ⟨#[]⟩, lBool false] [g1, g1] := by
  refine sat_of_body mixed Tryz.func54 rfl (by kernel_rfl) (by kernel_rfl) (rs := [.tmp 4, .tmp 5, .tmp 6]) rfl rfl rfl ?_
  simp -implicitDefEqProofs (maxSteps := 2000000) only [go_sem]
  refine call_of (sliteCut_no s c h) (by simp -implicitDefEqProofs (maxSteps := 2000000) only [go_sem]) (by kernel_rfl) (by simp -implicitDefEqProofs (maxSteps := 2000000) only [go_sem]) ?_
  simp -implicitDefEqProofs (maxSteps := 2000000) only [go_sem]
  first | done | rfl | exact ⟨rfl, rfl⟩ | exact ⟨rfl, rfl, rfl⟩ | (refine tr_and ?_ ?_ <;> first | rfl | exact ⟨rfl, rfl⟩ | kernel_rfl)
theorem stringsCut_yes (a b : ByteArray) (c : UInt8) (h : ¬ hasB a c) (hl : (a ++ oneB c ++ b).size ≤ 9223372036854775807) : Sat Tryz.prog 54 [lStr (a ++ oneB c ++ b), lStr (oneB c)] [lStr a, lStr b, lBool true] [g1, g1] := by
  refine sat_of_body mixed Tryz.func54 rfl (by kernel_rfl) (by kernel_rfl) (rs := [.tmp 4, .tmp 5, .tmp 6]) rfl rfl rfl ?_
  have s0 := sliteCut_yes a b c h hl
  generalize a ++ oneB c ++ b = s at s0 ⊢
  simp -implicitDefEqProofs (maxSteps := 2000000) only [go_sem]
  refine call_of (s0) (by simp -implicitDefEqProofs (maxSteps := 2000000) only [go_sem]) (by kernel_rfl) (by simp -implicitDefEqProofs (maxSteps := 2000000) only [go_sem]) ?_
  simp -implicitDefEqProofs (maxSteps := 2000000) only [go_sem]
  first | done | rfl | exact ⟨rfl, rfl⟩ | exact ⟨rfl, rfl, rfl⟩ | (refine tr_and ?_ ?_ <;> first | rfl | exact ⟨rfl, rfl⟩ | kernel_rfl)
end Go.Proofs.YtedciihjgbkjgabGreatDoor.A


/- TEXTS CUT AT EVERY SIGN: the library; words. Conditions: none. -/
namespace Go.Proofs.YtedciihjgbkjgabGreatDoor.A
open Go
set_option linter.unusedSimpArgs false
set_option linter.unusedVariables false
set_option maxRecDepth 100000

theorem joinB_cc (x y : ByteArray) (r : List ByteArray) (sep : ByteArray) : joinB (x :: y :: r) sep = x ++ sep ++ joinB (y :: r) sep := by
  apply byt_eq
  rw [byt_app, byt_app, joinB_data, joinB_data, List.map_cons, List.map_cons, Lib.join_cons, Lib.join_cons]
  simp [Lib.joinTail, List.append_assoc]
theorem mem_first {c : UInt8} : ∀ {l : List UInt8}, c ∈ l → ∃ l1 l2, l = l1 ++ c :: l2 ∧ c ∉ l1
  | b :: l, h => by
    by_cases e : b = c
    · exact ⟨[], l, by rw [e]; rfl, by simp⟩
    · obtain ⟨l1, l2, h1, h2⟩ := mem_first (l := l) (by
        rcases List.mem_cons.mp h with h | h
        · exact absurd h.symm e
        · exact h)
      refine ⟨b :: l1, l2, by rw [h1]; rfl, fun hm => ?_⟩
      rcases List.mem_cons.mp hm with h | h
      · exact e h.symm
      · exact h2 h
theorem first_B {s : ByteArray} {c : UInt8} (h : hasB s c) : ∃ a b : ByteArray, s = a ++ oneB c ++ b ∧ ¬ hasB a c := by
  obtain ⟨l1, l2, h1, h2⟩ := mem_first h
  refine ⟨⟨l1.toArray⟩, ⟨l2.toArray⟩, byt_eq ?_, by unfold hasB; simpa using h2⟩
  rw [byt_app, byt_app, h1]
  simp
/-- Every text is words with signs between. -/
theorem words_of (c : UInt8) : ∀ (n : Nat) (s : ByteArray), s.size ≤ n → ∃ ws : List ByteArray, ws ≠ [] ∧ s = joinB ws (oneB c) ∧ ∀ w ∈ ws, ¬ hasB w c := by
  intro n
  induction n with
  | zero =>
    intro s hs
    refine ⟨[s], by simp, (joinB_one s _).symm, fun w hw => ?_⟩
    rw [List.mem_singleton.mp hw]
    unfold hasB
    have : s.data.toList = [] := List.length_eq_zero_iff.mp (by rw [Array.length_toList]; show s.size = 0; omega)
    rw [this]; simp
  | succ n ih =>
    intro s hs
    by_cases h : hasB s c
    · obtain ⟨a, b, rfl, h2⟩ := first_B h
      have hz := cut3_size a b c
      obtain ⟨ws, h3, h4, h5⟩ := ih b (by omega)
      obtain ⟨w, r, rfl⟩ := List.exists_cons_of_ne_nil h3
      refine ⟨a :: w :: r, by simp, by rw [joinB_cc, ← h4], fun x hx => ?_⟩
      rcases List.mem_cons.mp hx with rfl | hx
      · exact h2
      · exact h5 x hx
    · refine ⟨[s], by simp, (joinB_one s _).symm, fun w hw => ?_⟩
      rw [List.mem_singleton.mp hw]; exact h
theorem count_words (c : UInt8) : ∀ (ws : List ByteArray), (∀ w ∈ ws, ¬ hasB w c) → Lib.countByte (joinB ws (oneB c)).data.toList c = ws.length - 1
  | [], _ => by rw [joinB_nil]; rfl
  | [w], h => by
    rw [joinB_one]
    exact List.count_eq_zero.mpr (h w (by simp))
  | w :: v :: r, h => by
    have ih := count_words c (v :: r) fun x hx => h x (List.mem_cons_of_mem _ hx)
    have hw : ¬ hasB w c := h w (by simp)
    unfold Lib.countByte at ih ⊢
    rw [joinB_cc, byt_app, byt_app, List.count_append, List.count_append, ih, List.count_eq_zero.mpr hw, show (oneB c).data.toList = [c] from rfl, List.count_singleton_self]
    simp only [List.length_cons]
    omega
theorem words_size (c : UInt8) : ∀ (ws : List ByteArray), ws.length ≤ (joinB ws (oneB c)).size + 1
  | [] => by simp
  | [w] => by simp
  | w :: v :: r => by
    have ih := words_size c (v :: r)
    rw [joinB_cc, cut3_size, List.length_cons]
    omega
theorem drop_size (c : UInt8) : ∀ (k : Nat) (ws : List ByteArray), (joinB (ws.drop k) (oneB c)).size ≤ (joinB ws (oneB c)).size
  | 0, ws => Nat.le_refl _
  | k + 1, [] => by rw [List.drop_nil]; exact Nat.le_refl _
  | k + 1, [w] => by
    rw [List.drop_succ_cons, List.drop_nil, joinB_nil]; exact Nat.zero_le _
  | k + 1, w :: v :: r => by
    have ih := drop_size c k (v :: r)
    rw [List.drop_succ_cons, joinB_cc, cut3_size]
    omega
theorem drop_two {α : Type} {l : List α} {d : α} {k : Nat} (h : k + 1 < l.length) : l.drop k = l.getD k d :: l.getD (k + 1) d :: l.drop (k + 2) := by
  rw [List.drop_eq_getElem_cons (by omega), List.drop_eq_getElem_cons h]
  simp [List.getD_eq_getElem?_getD, show k < l.length by omega, h]
theorem fill_set {α : Type} {l : List α} {d e : α} {k : Nat} (h : k < l.length) : (l.take k ++ List.replicate (l.length - k) e).set k (l.getD k d) = l.take (k + 1) ++ List.replicate (l.length - (k + 1)) e := by
  have hl : (l.take k).length = k := by rw [List.length_take]; omega
  rw [List.set_append_right _ _ (by omega), hl, Nat.sub_self, show l.length - k = (l.length - (k + 1)) + 1 by omega, List.replicate_succ, List.set_cons_zero, take_snoc d h, List.append_assoc]; rfl
theorem genSplit_sat (c : UInt8) (ws : List ByteArray) (hne : ws ≠ []) (h : ∀ w ∈ ws, ¬ hasB w c) (hl : (joinB ws (oneB c)).size ≤ 1048576) :
    Sat Tryz.prog 130 [lStr (joinB ws (oneB c)), lStr (oneB c), lInt 0, lInt (-1)] [.one (.ow 1 (txs ws))] [g1, g1, g1, g1] := by
  refine sat_of_body mixed Tryz.func130 rfl (by kernel_rfl) (by kernel_rfl) (rs := [.tmp 8]) rfl rfl rfl ?_
  have hN : 0 < ws.length := List.length_pos_iff.mpr hne
  have h1 := words_size c ws
  have h2 := stringsCount_sat (joinB ws (oneB c)) c
  rw [count_words c ws h] at h2
  have hs : (oneB c).size = 1 := rfl
  have e1 : decide (oneB c = (⟨#[]⟩ : ByteArray)) = false := by
    rw [decide_eq_false_iff_not]
    intro e
    have := congrArg ByteArray.size e
    simp [ByteArray.size] at this
  have w1 : IntKind.i64.wrap (((ws.length - 1 : Nat) : Int) + 1) = ((ws.length : Nat) : Int) := by rw [IntWalk.i64_in _ (by omega)]; omega
  have w2 : IntKind.i64.wrap ((((joinB ws (oneB c)).size : Nat) : Int) + 1) = (((joinB ws (oneB c)).size + 1 : Nat) : Int) := by rw [IntWalk.i64_in _ (by omega)]; omega
  have w3 : IntKind.i64.wrap (((ws.length : Nat) : Int) - 1) = ((ws.length - 1 : Nat) : Int) := by rw [IntWalk.i64_in _ (by omega)]; omega
  have d0 : ((-1 : Int) == 0) = false := rfl
  have d1 : decide ((-1 : Int) < 0) = true := rfl
  simp -implicitDefEqProofs (maxSteps := 2000000) only [go_sem, d0, d1, e1]
  refine call_of (h2) (by simp -implicitDefEqProofs (maxSteps := 2000000) only [go_sem, w1, w2, w3, if_neg (show ¬ (joinB ws (oneB c)).size + 1 < ws.length by omega)]) (by kernel_rfl) (by simp -implicitDefEqProofs (maxSteps := 2000000) only [go_sem, w1, w2, w3, if_neg (show ¬ (joinB ws (oneB c)).size + 1 < ws.length by omega)]) ?_
  simp -implicitDefEqProofs (maxSteps := 2000000) only [go_sem, w1, w2, w3, if_neg (show ¬ (joinB ws (oneB c)).size + 1 < ws.length by omega)]
  repeat (refine And.intro (by omega) ?_)
  refine awp_loop Nat (fun k => mkSt [(0, .sc (.string (joinB (ws.drop k) (oneB c)))), (1, .sc (.string (oneB c))), (2, .sc (.int .i64 0)), (3, .sc (.int .i64 ((ws.length - 1 : Nat) : Int))), (9, .one (.ref 960 1 0 ws.length)), (10, .sc (.int .i64 k))] [] [(960, (1, txs (ws.take k ++ List.replicate (ws.length - k) ⟨#[]⟩)))] 8000)
    (fun k => k ≤ ws.length - 1) (fun k => ws.length - 1 - k) 0 (by omega) (le_st' _ _ [⟨960, some _, false, 1, _⟩] [] _ (by simp -implicitDefEqProofs (maxSteps := 2000000) only [go_sem, List.drop_zero, List.take_zero, List.nil_append, Nat.sub_zero] <;> and_intros <;> rfl) (by simp -implicitDefEqProofs (maxSteps := 2000000) only [go_sem, List.drop_zero, List.take_zero, List.nil_append, Nat.sub_zero] <;> and_intros <;> rfl) (by simp -implicitDefEqProofs (maxSteps := 2000000) only [go_sem, List.drop_zero, List.take_zero, List.nil_append, Nat.sub_zero] <;> and_intros <;> rfl) (by rfl)) ?_
  rintro k q1
  have hfl : (ws.take k ++ List.replicate (ws.length - k) (⟨#[]⟩ : ByteArray)).length = ws.length := by simp; omega
  have hfs := fill_set (l := ws) (d := (⟨#[]⟩ : ByteArray)) (e := (⟨#[]⟩ : ByteArray)) (k := k) (by omega)
  have wk : IntKind.i64.wrap ((k : Int) + 1) = ((k + 1 : Nat) : Int) := i64_succ (by omega)
  by_cases c1 : k < ws.length - 1
  · have hd := drop_two (l := ws) (d := (⟨#[]⟩ : ByteArray)) (k := k) (by omega)
    have hd1 : ws.drop (k + 1) = ws.getD (k + 1) ⟨#[]⟩ :: ws.drop (k + 2) := by
      rw [List.drop_eq_getElem_cons (by omega)]
      simp [List.getD_eq_getElem?_getD, show k + 1 < ws.length by omega]
    have hw := h _ (mem_getD (⟨#[]⟩ : ByteArray) (show k < ws.length by omega))
    have hj : joinB (ws.drop k) (oneB c) = ws.getD k ⟨#[]⟩ ++ oneB c ++ joinB (ws.drop (k + 1)) (oneB c) := by rw [hd, joinB_cc, hd1]
    have ix := ixS_at (b := joinB (ws.drop (k + 1)) (oneB c)) hw
    have x1 := ext_left (ws.getD k ⟨#[]⟩) (joinB (ws.drop (k + 1)) (oneB c)) c
    have x2 := ext_right (ws.getD k ⟨#[]⟩) (joinB (ws.drop (k + 1)) (oneB c)) c
    have hz := cut3_size (ws.getD k ⟨#[]⟩) (joinB (ws.drop (k + 1)) (oneB c)) c
    rw [← hj] at ix x1 x2 hz
    have hzl : (joinB (ws.drop k) (oneB c)).size ≤ 1048576 := Nat.le_trans (drop_size c k ws) hl
    generalize joinB (ws.drop k) (oneB c) = s0 at hj ix x1 x2 hz hzl ⊢
    have si := stringsIndex_sat s0 c
    rw [ix] at si
    have d2 : decide (((ws.getD k ⟨#[]⟩).size : Int) < 0) = false := decide_eq_false (by omega)
    have w4 : IntKind.i64.wrap (((ws.getD k ⟨#[]⟩).size : Int) + 0) = ((ws.getD k ⟨#[]⟩).size : Int) := by rw [IntWalk.i64_in _ (by omega)]; omega
    have w5 : IntKind.i64.wrap (((ws.getD k ⟨#[]⟩).size : Int) + ((1 : Nat) : Int)) = (((ws.getD k ⟨#[]⟩).size + 1 : Nat) : Int) := by rw [IntWalk.i64_in _ (by omega)]; omega
    have w6 : IntKind.i64.wrap (((ws.getD k ⟨#[]⟩).size : Nat) : Int) = (((ws.getD k ⟨#[]⟩).size : Nat) : Int) := IntWalk.i64_in _ (by omega)
    have c2 : k < ws.length := by omega
    simp -implicitDefEqProofs (maxSteps := 2000000) only [go_sem, c1]
    have eg := txs_get (l := ws.take k ++ List.replicate (ws.length - k) ⟨#[]⟩) (i := k) (by rw [hfl]; omega)
    refine call_of (si) (by simp -implicitDefEqProofs (maxSteps := 2000000) only [go_sem, d2, w4, w5, w6, x1, x2, hs, c2, hfl, eg, hfs]) (by kernel_rfl) (by simp -implicitDefEqProofs (maxSteps := 2000000) only [go_sem, d2, w4, w5, w6, x1, x2, hs, c2, hfl, eg, hfs]) ?_
    simp -implicitDefEqProofs (maxSteps := 2000000) only [go_sem, d2, w4, w5, w6, x1, x2, hs, c2, hfl, eg, hfs]
    repeat (refine And.intro (by omega) ?_)
    rw [wk]
    exact ⟨k + 1, by omega, by omega, (le_st' _ _ [⟨960, some _, false, 1, _⟩] [] _ (by simp -implicitDefEqProofs (maxSteps := 2000000) only [go_sem, hfs] <;> and_intros <;> rfl) (by simp -implicitDefEqProofs (maxSteps := 2000000) only [go_sem, hfs] <;> and_intros <;> rfl) (by simp -implicitDefEqProofs (maxSteps := 2000000) only [go_sem, hfs] <;> and_intros <;> rfl) (by rfl))⟩
  · obtain rfl : k = ws.length - 1 := by omega
    have c2 : ws.length - 1 < ws.length := by omega
    have eg := txs_get (l := ws.take (ws.length - 1) ++ List.replicate (ws.length - (ws.length - 1)) ⟨#[]⟩) (i := ws.length - 1) (by rw [hfl]; omega)
    have hlast : joinB (ws.drop (ws.length - 1)) (oneB c) = ws.getD (ws.length - 1) ⟨#[]⟩ := by
      rw [List.drop_eq_getElem_cons c2, show ws.length - 1 + 1 = ws.length by omega, List.drop_length, joinB_one]
      simp [List.getD_eq_getElem?_getD, c2]
    have hend : ws.take (ws.length - 1 + 1) ++ List.replicate (ws.length - (ws.length - 1 + 1)) (⟨#[]⟩ : ByteArray) = ws := by
      rw [show ws.length - 1 + 1 = ws.length by omega, Nat.sub_self, List.replicate_zero, List.append_nil, List.take_length]
    rw [hend] at hfs
    rw [hlast]
    simp -implicitDefEqProofs (maxSteps := 2000000) only [go_sem, c1, c2, hfl, eg, hfs, wk]
    exact ⟨by omega, by omega, by kernel_rfl⟩
theorem stringsSplit_sat (c : UInt8) (ws : List ByteArray) (hne : ws ≠ []) (h : ∀ w ∈ ws, ¬ hasB w c) (hl : (joinB ws (oneB c)).size ≤ 1048576) :
    Sat Tryz.prog 94 [lStr (joinB ws (oneB c)), lStr (oneB c)] [.one (.ow 1 (txs ws))] [g1, g1] := by
  refine sat_of_body mixed Tryz.func94 rfl (by kernel_rfl) (by kernel_rfl) (rs := [.tmp 4]) rfl rfl rfl ?_
  have s0 := genSplit_sat c ws hne h hl
  simp -implicitDefEqProofs (maxSteps := 2000000) only [go_sem]
  refine call_of (s0) (by simp -implicitDefEqProofs (maxSteps := 2000000) only [go_sem]) (by kernel_rfl) (by simp -implicitDefEqProofs (maxSteps := 2000000) only [go_sem]) ?_
  simp -implicitDefEqProofs (maxSteps := 2000000) only [go_sem]
  first | done | rfl | exact ⟨rfl, rfl⟩ | exact ⟨rfl, rfl, rfl⟩ | (refine tr_and ?_ ?_ <;> first | rfl | exact ⟨rfl, rfl⟩ | kernel_rfl)
/-- The words of a text that is not empty. -/
theorem implWords_sat (ws : List ByteArray) (h : ∀ w ∈ ws, ¬ hasB w 32) (h0 : 0 < (joinB ws (oneB 32)).size) (hl : (joinB ws (oneB 32)).size ≤ 1048576) :
    Sat Tryz.prog 56 [lStr (joinB ws (oneB 32))] [.one (.ow 1 (txs ws))] [g1] := by
  refine sat_of_body mixed Tryz.func56 rfl (by kernel_rfl) (by kernel_rfl) (rs := [.tmp 2]) rfl rfl rfl ?_
  have hne : ws ≠ [] := by rintro rfl; rw [joinB_nil] at h0; exact absurd h0 (by decide)
  have s0 := stringsSplit_sat 32 ws hne h hl
  have d : decide (joinB ws (oneB 32) = (⟨#[]⟩ : ByteArray)) = false := decide_eq_false (noB_ne h0)
  simp -implicitDefEqProofs (maxSteps := 2000000) only [go_sem, d]
  refine call_of (s0) (by simp -implicitDefEqProofs (maxSteps := 2000000) only [go_sem]) (by kernel_rfl) (by simp -implicitDefEqProofs (maxSteps := 2000000) only [go_sem]) ?_
  simp -implicitDefEqProofs (maxSteps := 2000000) only [go_sem]
  first | done | rfl | exact ⟨rfl, rfl⟩ | exact ⟨rfl, rfl, rfl⟩ | (refine tr_and ?_ ?_ <;> first | rfl | exact ⟨rfl, rfl⟩ | kernel_rfl)
theorem implWords_none : Sat Tryz.prog 56 [lStr ⟨#[]⟩] [.one (.ow 1 (txs []))] [g1] := by
  refine sat_of_body mixed Tryz.func56 rfl (by kernel_rfl) (by kernel_rfl) (rs := [.tmp 2]) rfl rfl rfl ?_
  simp -implicitDefEqProofs (maxSteps := 2000000) only [go_sem]
  first | done | rfl | exact ⟨rfl, rfl⟩ | exact ⟨rfl, rfl, rfl⟩ | (refine tr_and ?_ ?_ <;> first | rfl | exact ⟨rfl, rfl⟩ | kernel_rfl)
end Go.Proofs.YtedciihjgbkjgabGreatDoor.A


/- TERMS OF A WORD AND THE PLACE OF A RELATION: the program's walk. Conditions: none. -/
namespace Go.Proofs.YtedciihjgbkjgabGreatDoor.A
open Go
set_option linter.unusedSimpArgs false
set_option linter.unusedVariables false
set_option maxRecDepth 100000

def barA (s : ByteArray) (i : Nat) : Bool := decide (byA s i = 124)
def okU (s : ByteArray) (i : Nat) : Bool := barA s i || (pT (s.extract i (i + 1))).2
def selT (s : ByteArray) : Nat → List Int
  | 0 => []
  | i + 1 => if barA s i then selT s i else selT s i ++ [t1 s i]
def okT (s : ByteArray) : Bool := upTo (okU s) s.size
def trT (s : ByteArray) : List Int := if okT s then selT s s.size else []
theorem selT_len (s : ByteArray) : ∀ i, (selT s i).length ≤ i
  | 0 => Nat.le_refl _
  | i + 1 => by
    have := selT_len s i
    rw [selT]; split
    · omega
    · rw [List.length_append, List.length_singleton]; omega
theorem trT_len (s : ByteArray) : (trT s).length ≤ s.size := by
  unfold trT
  split
  · exact selT_len s _
  · exact Nat.zero_le _
theorem implParseTerms_sat (s : ByteArray) (h : s.size ≤ 1048576) : Sat Tryz.prog 55 [lStr s] [oInts (trT s), lBool (okT s)] [g1] := by
  refine sat_of_body mixed Tryz.func55 rfl (by kernel_rfl) (by kernel_rfl) (rs := [.tmp 2, .tmp 3]) rfl rfl rfl ?_
  unfold trT
  simp -implicitDefEqProofs (maxSteps := 2000000) only [go_sem]
  refine awp_loop Nat (fun i => mkSt [(0, .sc (.string s)), (4, .one (.ref 960 1 0 (selT s i).length)), (5, .sc (.int .i64 i))] [] [(960, (1, ints (selT s i)))] 4000)
    (fun i => i ≤ s.size ∧ upTo (okU s) i = true) (fun i => s.size - i) 0 ⟨by omega, rfl⟩ (le_st' _ _ [⟨960, some _, false, 1, _⟩] [] _ (by simp -implicitDefEqProofs (maxSteps := 2000000) only [go_sem, selT, ints_nil, List.length_nil] <;> and_intros <;> rfl) (by simp -implicitDefEqProofs (maxSteps := 2000000) only [go_sem, selT, ints_nil, List.length_nil] <;> and_intros <;> rfl) (by simp -implicitDefEqProofs (maxSteps := 2000000) only [go_sem, selT, ints_nil, List.length_nil] <;> and_intros <;> rfl) (by rfl)) ?_
  rintro i ⟨h1, h2⟩
  have hl := selT_len s i
  by_cases c1 : i < s.size
  · have wi : IntKind.i64.wrap ((i : Int) + 1) = ((i + 1 : Nat) : Int) := i64_succ (by omega)
    have c2 : i + 1 ≤ s.size := c1
    rcases d : barA s i
    · have d' : (((byA s i : Nat) : Int) == 124) = false := by
        have := of_decide_eq_false d
        rw [beq_eq_false_iff_ne]; omega
      have hz := ext_size s i (i + 1)
      rcases e : (pT (s.extract i (i + 1))).2
      · have hno : okT s = false := upTo_false c1 (by unfold okU; rw [d, e]; rfl)
        rw [hno]
        simp -implicitDefEqProofs (maxSteps := 2000000) only [go_sem, c1, d', wi, c2, Nat.le_add_right]
        refine call_of (implParseTerm_sat (s.extract i (i + 1)) (by omega)) (by simp -implicitDefEqProofs (maxSteps := 2000000) only [go_sem, e]) (by kernel_rfl) (by simp -implicitDefEqProofs (maxSteps := 2000000) only [go_sem, e]) ?_
        simp -implicitDefEqProofs (maxSteps := 2000000) only [go_sem, e]
        first | done | rfl | exact ⟨rfl, rfl⟩ | exact ⟨rfl, rfl, rfl⟩ | (refine tr_and ?_ ?_ <;> first | rfl | exact ⟨rfl, rfl⟩ | kernel_rfl)
      · have hst : selT s (i + 1) = selT s i ++ [t1 s i] := by rw [selT, d]; rfl
        have hok : upTo (okU s) (i + 1) = true := by rw [upTo, h2]; unfold okU; rw [e]; simp
        simp -implicitDefEqProofs (maxSteps := 2000000) only [go_sem, c1, d', wi, c2, Nat.le_add_right]
        refine call_of (implParseTerm_sat (s.extract i (i + 1)) (by omega)) (by simp -implicitDefEqProofs (maxSteps := 2000000) only [go_sem, e]) (by kernel_rfl) (by simp -implicitDefEqProofs (maxSteps := 2000000) only [go_sem, e]) ?_
        simp -implicitDefEqProofs (maxSteps := 2000000) only [go_sem, e]
        rw [show (pT (s.extract i (i + 1))).1 = t1 s i from rfl]
        repeat (refine And.intro (by omega) ?_)
        rw [wi]
        exact ⟨i + 1, ⟨c1, hok⟩, by omega, (le_st' _ _ [⟨960, some _, false, 1, _⟩] [] _ (by simp -implicitDefEqProofs (maxSteps := 2000000) only [go_sem, hst, repP, List.set_cons_zero] <;> and_intros <;> rfl) (by simp -implicitDefEqProofs (maxSteps := 2000000) only [go_sem, hst, repP, List.set_cons_zero] <;> and_intros <;> rfl) (by simp -implicitDefEqProofs (maxSteps := 2000000) only [go_sem, hst, repP, List.set_cons_zero] <;> and_intros <;> rfl) (by rfl))⟩
    · have d' : (((byA s i : Nat) : Int) == 124) = true := by
        have := of_decide_eq_true d
        rw [this]; rfl
      have hst : selT s (i + 1) = selT s i := by rw [selT, d, if_pos rfl]
      have hok : upTo (okU s) (i + 1) = true := by rw [upTo, h2]; unfold okU; rw [d]; rfl
      simp -implicitDefEqProofs (maxSteps := 2000000) only [go_sem, c1, d']
      rw [wi]
      exact ⟨i + 1, ⟨c1, hok⟩, by omega, (le_st' _ _ [⟨960, some _, false, 1, _⟩] [] _ (by simp -implicitDefEqProofs (maxSteps := 2000000) only [go_sem, hst] <;> and_intros <;> rfl) (by simp -implicitDefEqProofs (maxSteps := 2000000) only [go_sem, hst] <;> and_intros <;> rfl) (by simp -implicitDefEqProofs (maxSteps := 2000000) only [go_sem, hst] <;> and_intros <;> rfl) (by rfl))⟩
  · obtain rfl : i = s.size := by omega
    have hok : okT s = true := h2
    rw [hok]
    simp -implicitDefEqProofs (maxSteps := 2000000) only [go_sem, c1]
    first | done | rfl | exact ⟨rfl, rfl⟩ | exact ⟨rfl, rfl, rfl⟩ | (refine tr_and ?_ ?_ <;> first | rfl | exact ⟨rfl, rfl⟩ | kernel_rfl)
/-! #### the place of a relation -/
theorem relationIndex1_sat (r : Rel) (s : ByteArray) : Sat Tryz.prog 96 [lRel r, .one (.ip [.sc (.string s)])] [lBool (decide (r.name = s))] [g3, g1] := by
  refine sat_of_body mixed Tryz.func96 rfl (by kernel_rfl) (by kernel_rfl) (rs := [.tmp 3]) rfl rfl rfl ?_
  simp -implicitDefEqProofs (maxSteps := 2000000) only [go_sem]
  first | done | rfl | exact ⟨rfl, rfl⟩ | exact ⟨rfl, rfl, rfl⟩ | (refine tr_and ?_ ?_ <;> first | rfl | exact ⟨rfl, rfl⟩ | kernel_rfl)
theorem relIndexF_sat (l : List Rel) (s : ByteArray) (h : l.length ≤ 9223372036854775807) : Sat Tryz.prog 95 [lRels l, .one (.fn 96 [[.sc (.string s)]])] [lInt (relIx l s)] [g1, g1] := by
  refine sat_of_body mixed Tryz.func95 rfl (by kernel_rfl) (by kernel_rfl) (rs := [.tmp 4]) rfl rfl rfl ?_
  unfold relIx
  generalize hp : nameNo l s = p
  have hp' : ∀ i, p i = !decide ((l.getD i default).name = s) := fun i => by rw [← hp]; rfl
  simp -implicitDefEqProofs (maxSteps := 2000000) only [go_sem]
  refine awp_loop Nat (fun k => mkSt [(0, .one (.im 3 (rels l))), (1, .one (.fni 96 [[.sc (.string s)]])), (7, .sc (.int .i64 l.length)), (8, .sc (.int .i64 k))] [] [] 3000)
    (fun k => k ≤ l.length ∧ firstNo p (l.length - k) k = firstNo p l.length 0) (fun k => l.length - k) 0 ⟨by omega, by rw [Nat.sub_zero]⟩ (le_st _ _ [] [] _ rfl (by simp -implicitDefEqProofs (maxSteps := 2000000) only [go_sem] <;> rfl) trivial trivial) ?_
  rintro k ⟨h1, h2⟩
  by_cases c1 : k < l.length
  · have wk : IntKind.i64.wrap ((k : Int) + 1) = ((k + 1 : Nat) : Int) := i64_succ (by omega)
    rw [show l.length - k = (l.length - (k + 1)) + 1 by omega, firstNo, hp'] at h2
    rcases e : decide ((l.getD k default).name = s)
    · rw [e, Bool.not_false, if_pos rfl] at h2
      simp -implicitDefEqProofs (maxSteps := 2000000) only [go_sem, c1]
      refine call_of (relationIndex1_sat (l.getD k default) s) (by simp -implicitDefEqProofs (maxSteps := 2000000) only [go_sem, c1, e]) (by kernel_rfl) (by simp -implicitDefEqProofs (maxSteps := 2000000) only [go_sem, c1, e]) ?_
      simp -implicitDefEqProofs (maxSteps := 2000000) only [go_sem, c1, e]
      rw [wk]
      exact ⟨k + 1, ⟨c1, h2⟩, by omega, (le_st _ _ [] [] _ rfl (by simp -implicitDefEqProofs (maxSteps := 2000000) only [go_sem] <;> rfl) trivial trivial)⟩
    · rw [e, Bool.not_true, if_neg (by simp)] at h2
      simp -implicitDefEqProofs (maxSteps := 2000000) only [go_sem, c1]
      refine call_of (relationIndex1_sat (l.getD k default) s) (by simp -implicitDefEqProofs (maxSteps := 2000000) only [go_sem, c1, e]) (by kernel_rfl) (by simp -implicitDefEqProofs (maxSteps := 2000000) only [go_sem, c1, e]) ?_
      simp -implicitDefEqProofs (maxSteps := 2000000) only [go_sem, c1, e]
      rw [← h2]
  · obtain rfl : k = l.length := by omega
    rw [Nat.sub_self, firstNo] at h2
    simp -implicitDefEqProofs (maxSteps := 2000000) only [go_sem, c1]
    rw [← h2]
theorem implRelationIndex_sat (l : List Rel) (s : ByteArray) (h : l.length ≤ 9223372036854775807) : Sat Tryz.prog 57 [lRels l, lStr s] [lInt (relIx l s)] [g1, g1] := by
  refine sat_of_body mixed Tryz.func57 rfl (by kernel_rfl) (by kernel_rfl) (rs := [.tmp 4]) rfl rfl rfl ?_
  simp -implicitDefEqProofs (maxSteps := 2000000) only [go_sem]
  refine call_of (relIndexF_sat l s h) (by simp -implicitDefEqProofs (maxSteps := 2000000) only [go_sem]) (by kernel_rfl) (by simp -implicitDefEqProofs (maxSteps := 2000000) only [go_sem]) ?_
  simp -implicitDefEqProofs (maxSteps := 2000000) only [go_sem]
end Go.Proofs.YtedciihjgbkjgabGreatDoor.A


/- slices.Delete OF ONE ATOM, as a contract of the abstract semantics. Conditions: none. -/
namespace Go.Proofs.YtedciihjgbkjgabGreatDoor.A
open Go Go.RowKit Go.Lib
set_option linter.unusedSimpArgs false
set_option linter.unusedVariables false

/-! #### what lies in a block behind cells that are set -/
theorem heap_setCells (b : Nat) : ∀ (vs : List Value) (o : Nat) (w : World) (c : Array Value) (t : TypeId), w.heap[b]? = some (.cells c t (0, 0)) → o + vs.length ≤ c.size →
    ∃ c' : Array Value, (w.setCells b o vs).heap[b]? = some (.cells c' t (0, 0)) ∧ c'.size = c.size ∧ ∀ k : Nat, c'[k]? = if o ≤ k ∧ k < o + vs.length then vs[k - o]? else c[k]?
  | [], o, w, c, t, h, _ => ⟨c, h, rfl, fun k => by rw [if_neg (by simp)]⟩
  | v :: r, o, w, c, t, h, hl => by
    rw [List.length_cons] at hl
    have h1 : (w.setCell ⟨b, o, none⟩ v).heap[b]? = some (.cells (c.setIfInBounds o v) t (0, 0)) := by
      have hb : b < w.heap.size := (Array.getElem?_eq_some_iff.1 h).1
      have hv : w.heap[b] = .cells c t (0, 0) := (Array.getElem?_eq_some_iff.1 h).2
      simp [World.setCell, Array.getElem?_modify, h]
    obtain ⟨c', h2, h3, h4⟩ := heap_setCells b r (o + 1) _ _ t h1 (by simp; omega)
    refine ⟨c', h2, by simpa using h3, fun k => ?_⟩
    rw [h4 k, List.length_cons]
    by_cases e : k = o
    · subst e
      rw [if_neg (by omega), if_pos (by omega), Nat.sub_self, List.getElem?_cons_zero, Array.getElem?_setIfInBounds_self_of_lt (by omega)]
    · by_cases e2 : o + 1 ≤ k ∧ k < o + 1 + r.length
      · rw [if_pos e2, if_pos (by omega), show k - o = (k - (o + 1)) + 1 by omega, List.getElem?_cons_succ]
      · rw [if_neg e2, if_neg (by omega), Array.getElem?_setIfInBounds_ne (by omega)]
theorem heap_setCells_ne (b : Nat) {k : Nat} (h : k ≠ b) : ∀ (vs : List Value) (o : Nat) (w : World), (w.setCells b o vs).heap[k]? = w.heap[k]?
  | [], _, _ => rfl
  | v :: r, o, w => by
    rw [World.setCells, heap_setCells_ne b h r]
    simp [World.setCell, Array.getElem?_modify, Ne.symm h]
theorem setCells_rest (b : Nat) : ∀ (vs : List Value) (o : Nat) (w : World), (w.setCells b o vs).os = w.os ∧ (w.setCells b o vs).tape = w.tape ∧ (w.setCells b o vs).output = w.output ∧ (w.setCells b o vs).heap.size = w.heap.size
  | [], _, _ => ⟨rfl, rfl, rfl, rfl⟩
  | v :: r, o, w => by
    obtain ⟨h1, h2, h3, h4⟩ := setCells_rest b r (o + 1) (w.setCell ⟨b, o, none⟩ v)
    exact ⟨h1, h2, h3, by rw [World.setCells, h4]; simp [World.setCell]⟩
def zAt : List Value := [.int .i64 0, .slice none 0 0]
/-- 'clear' of one atom. -/
theorem run_clear_atom (w : World) (e ty t : TypeId) (ht : Tryz.prog.underlying t = some (.slice e)) (hv : ∀ w, (zeroValue e).run Tryz.prog w = .ok (.agg zAt.toArray) w) (b o c : Nat)
    (hc : ∀ j, j < 2 → (w.cell? ⟨b, o + j, none⟩).isSome = true) (hf : ∀ j, j < 2 → w.frozen? ⟨b, o + j, none⟩ = false) :
    (Builtin.clear_ #[t] ty #[.slice (some ⟨b, o, none⟩) 1 c]).run Tryz.prog w = .ok (.tuple #[]) (w.setCells b o zAt) := by
  have hst := run_storeCells_cells (P := Tryz.prog) b o zAt 0 w (by simpa [zAt] using hc) (by simpa [zAt] using hf) (by intro v hv'; simp [zAt] at hv'; rcases hv' with rfl | rfl <;> rfl)
  simp only [Nat.add_zero] at hst
  have hz : (Builtin.zeroCells (Value.agg zAt.toArray).cells 1).toList = zAt := by kernel_rfl
  simp [Builtin.clear_, run_underlying ht, hv, hz, hst]
/-! #### the call -/
theorem entersD {P : Program} {f : FuncId} {fn : Func} {c : Code} (hf : P.funcs[f]? = some fn) (hb : fn.body = some c) (hn : (fn.name == "runtime.NumGoroutine") = false) (vs : Array Value) (W : World) : (callFunc f vs).run P W = .ok (.enter f vs) W := by
  have h1 : fn.name ≠ "runtime.NumGoroutine" := by simpa using hn
  simp [callFunc, hf, h1, hb, Sem.run, program]
theorem ris_erase (s : Nat) (l : List RI) (i : Nat) : (ris s l).eraseIdx i = ris s (l.eraseIdx i) := by
  unfold ris
  refine List.ext_getElem? fun m => ?_
  rw [List.getElem?_eraseIdx, List.getElem?_map, List.getElem?_map, List.getElem?_map, List.getElem?_eraseIdx]
  split <;> rfl
def delL (i : Nat) : Lab → Lab
  | .own 0 => .own 4096
  | .inn 0 p j => if p < i then .inn 4096 p j else if p = i then .far else .inn 4096 (p - 1) j
  | L => L
theorem delL_inn {i p j : Nat} : delL i (.inn 0 (if p < i then p else p + 1) j) = .inn 4096 p j := by
  unfold delL
  by_cases h : p < i
  · rw [if_pos h]; simp [h]
  · rw [if_neg h]; simp only; rw [if_neg (by omega), if_neg (by omega), Nat.add_sub_cancel]
end Go.Proofs.YtedciihjgbkjgabGreatDoor.A


/- THE REGION THAT APPENDS TO A SLICE WITH TWO OWNERS: by hand. Conditions: none. -/
namespace Go.Proofs.YtedciihjgbkjgabGreatDoor.A
open Go Go.RowKit Go.Lib
set_option linter.unusedSimpArgs false
set_option linter.unusedVariables false

theorem step_calls {P : Program} {ops : Array Oper} {o : Oper} {a : Act} {w : World} {K : Act → World → Prop} {Q : Exit → Act → World → Prop} {E : Prop}
    (hg : o.guard = none) (f : FuncId) (x : Operand) (t : TypeId) (hop : o.op = Op.call { callee := Callee.value (Operand.func f), args := #[x], argTypes := #[t] })
    {fn : Func} {c : Code} (hf : P.funcs[f]? = some fn) (hb : fn.body = some c) (hn : (fn.name == "runtime.NumGoroutine") = false)
    (u v : Value) (hu : a.eval x = u) (hc : Calls P f #[u] w fun e w' => e = .returned v ∧ w' = w) (hK : K (a.put o.dst v) w) :
    if Region.wanted o (yielded ops a.tmps) = true then Oper.wp P o a w K Q else E := by
  have hw : Region.wanted o (yielded ops a.tmps) = true := by simp [Region.wanted, hg]
  rw [if_pos hw]
  have hcf : (callFunc f #[u]).run P w = .ok (.enter f #[u]) w := by
    have h1 : fn.name ≠ "runtime.NumGoroutine" := by simpa using hn
    simp [callFunc, hf, h1, hb, Sem.run, program]
  unfold Oper.wp
  have he : (execOp a.eval o).run P w = .ok (.enter f #[u]) w := by
    simp [execOp, hop, resolve, Deferred.ofValue, invoke, Act.eval] at hu ⊢
    rw [hu]; exact hcf
  rw [he, Oper.upon_enter]
  refine hc.mono ?_
  rintro e w' ⟨rfl, rfl⟩
  exact hK
/-- What an append leaves of the world. -/
structure AppR (w W1 : World) (b n : Nat) (c : Array Value) (t : TypeId) (b1 : Nat) (ys : List Value) : Prop where
  os : W1.os = w.os
  tape : W1.tape = w.tape
  output : W1.output = w.output
  size : w.heap.size ≤ W1.heap.size
  same : ∀ k, k < w.heap.size → k ≠ b → W1.heap[k]? = w.heap[k]?
  blk : w.heap[b]? = some (.cells c t (0, 0)) → ∃ c1 : Array Value, W1.heap[b]? = some (.cells c1 t (0, 0)) ∧ c1.size = c.size ∧ ∀ k : Nat, k < n → c1[k]? = c[k]?
  new : ∀ (j : Nat) (u : Value), ys[j]? = some u → W1.cell? ⟨b1, 0 + j, none⟩ = some u
/-- What is appended to: a slice with its block, or none. -/
def App1 (H : Array Obj) (hd : Value) (b n cap : Nat) (c : Array Value) (tb : TypeId) (olds : List Value) : Prop :=
  (hd = .slice (some ⟨b, 0, none⟩) n cap ∧ n ≤ cap ∧ H[b]? = some (.cells c tb (0, 0)) ∧ c.size = cap ∧ ∀ (j : Nat) (u : Value), olds[j]? = some u → c[j]? = some u) ∨ ((∃ A, hd = .slice A 0 0) ∧ n = 0)
theorem step_app {P : Program} {ops : Array Oper} {o : Oper} {a : Act} {w : World} {K : Act → World → Prop} {Q : Exit → Act → World → Prop} {E : Prop}
    (hg : o.guard = none) (s x : Operand) (t : TypeId) (hop : o.op = Op.call { callee := Callee.builtin Builtin.append, args := #[s, x], argTypes := #[t, t] })
    (e : TypeId) (i : TypeInfo) (z : Value) (bytes : Nat) (h1 : P.underlying t = some (.slice e)) (h2 : P.info? e = some i) (h3 : i.zero = some z) (h4 : i.size = 1) (h5 : i.bytes = bytes) (h6 : z.cells.size = 1)
    (hd : Value) (b n cap : Nat) (c : Array Value) (tb : TypeId) (olds : List Value) (hs : a.eval s = hd) (hap : App1 w.heap hd b n cap c tb olds) (hlo : olds.length = n)
    (nb : Nat) (nw : Value) (h1w : nw.oneCell' = true) (hx : a.eval x = .slice (some ⟨nb, 0, none⟩) 1 1) (hnb : w.cell? ⟨nb, 0, none⟩ = some nw) (hnn : n ≤ 1048576) (hby : bytes ≤ 4096)
    (hK : ∀ W1 b1 cap1, AppR w W1 b n c tb b1 (olds ++ [nw]) → K (a.put o.dst (.slice (some ⟨b1, 0, none⟩) (n + 1) cap1)) W1) :
    if Region.wanted o (yielded ops a.tmps) = true then Oper.wp P o a w K Q else E := by
  have hw : Region.wanted o (yielded ops a.tmps) = true := by simp [Region.wanted, hg]
  rw [if_pos hw]
  rcases hap with ⟨hd1, hn, hb, hsz, holds⟩ | ⟨⟨A, hd1⟩, hn0⟩
  case inr =>
    subst hn0
    subst hd1
    have ho : olds = [] := List.length_eq_zero_iff.mp hlo
    subst ho
    have hnw : ∀ (j : Nat) (v : Value), [nw][j]? = some v → w.cell? ((⟨nb, 0, none⟩ : Addr).add j) = some v := by
      intro j u hu
      rcases j with _ | j
      · cases hu; simpa [Addr.add] using hnb
      · cases hu
    have hrun : ∃ cap1 zs, (Builtin.append_ #[t, t] o.type #[.slice A 0 0, .slice (some ⟨nb, 0, none⟩) 1 1]).run P w = .ok (.slice (some ⟨w.heap.size, 0, none⟩) 1 cap1) (w.drew.alloc (.cells (([nw] : List Value).toArray ++ zs) e)) := by
      cases A with
      | none => exact ⟨_, _, run_append_nil (P := P) (w := w) t o.type e i z h1 h2 h3 ⟨nb, 0, none⟩ 1 1 [nw] (by rw [h4]; rfl) hnw (by omega) (by omega) (by omega)⟩
      | some A =>
        have hr := run_append_grow (P := P) (w := w) t o.type e i z h1 h2 h3 A 0 0 [] (by simp) (by simp) ⟨nb, 0, none⟩ 1 1 [nw] (by rw [h4]; rfl) hnw (by omega) (by omega) (by
          rw [nextslicecap_zero (by omega)]; omega)
        exact ⟨grownCap w 1 0 e, Builtin.zeroCells z.cells (grownCap w 1 0 e - 1), by simpa using hr⟩
    obtain ⟨cap1, zs, hrun⟩ := hrun
    have hk := hK (w.drew.alloc (.cells (([nw] : List Value).toArray ++ zs) e)) w.heap.size cap1 ⟨rfl, rfl, rfl, by rw [alloc_size]; exact Nat.le_succ _, fun k hk _ => by
      rw [alloc_get, if_neg (by show k ≠ w.heap.size; omega)]; rfl, fun hb => ⟨c, by
      have := (Array.getElem?_eq_some_iff.mp hb).1
      rw [alloc_get, if_neg (by show b ≠ w.heap.size; omega)]; exact hb, rfl, fun _ _ => rfl⟩, fun j u hu => by
      rw [cell_cells (by rw [alloc_get]; exact if_pos rfl)]
      rcases j with _ | j
      · cases hu; rw [Array.getElem?_append_left (by simp)]; rfl
      · cases hu⟩
    unfold Oper.wp
    simp [execOp, hop, resolve, invoke, builtin, hs, hx, hrun, Result.andThen]
    exact hk
  rw [hd1] at hs
  have hcell : ∀ k, w.cell? ⟨b, k, none⟩ = c[k]? := fun k => cell_cells hb
  have hnews : ∀ (j : Nat) (u : Value), [nw][j]? = some u → w.cell? ((⟨nb, 0, none⟩ : Addr).add j) = some u := by
    intro j u hu
    rcases j with _ | j
    · cases hu; simpa [Addr.add] using hnb
    · cases hu
  have hb' : b < w.heap.size := (Array.getElem?_eq_some_iff.mp hb).1
  by_cases hr : n + 1 ≤ cap
  · have hrun := run_append_room_cells (P := P) w t o.type e i h1 h2 b 0 n cap ⟨nb, 0, none⟩ 1 1 [nw] (by rw [h4]; rfl) hnews (by intro u hu; rw [List.mem_singleton.mp hu]; exact h1w) hr
      (fun j hj => by rw [hcell, Array.getElem?_eq_getElem (by rw [h4]; simp at hj; omega)]; rfl) (fun j hj => by simp [World.frozen?, hb])
    rw [h4, Nat.zero_add, Nat.mul_one] at hrun
    obtain ⟨c1, k1, k2, k3⟩ := heap_setCells b [nw] n w c tb hb (by simp; omega)
    obtain ⟨r1, r2, r3, r4⟩ := setCells_rest b [nw] n w
    have hk := hK (w.setCells b n [nw]) b cap ⟨r1, r2, r3, by rw [r4]; exact Nat.le_refl _, fun k hk hkb => heap_setCells_ne b hkb _ _ _, fun _ => ⟨c1, k1, k2, fun k hk => by rw [k3, if_neg (by omega)]⟩, fun j u hu => by
      rw [cell_cells k1, k3, Nat.zero_add]
      rcases Nat.lt_or_ge j n with hj | hj
      · rw [if_neg (by omega)]
        rw [List.getElem?_append_left (by omega)] at hu
        exact holds j u hu
      · rw [List.getElem?_append_right (by omega), hlo] at hu
        have hj1 : j - n < 1 := (List.getElem?_eq_some_iff.mp hu).1
        rw [if_pos (by simp; omega)]
        exact hu⟩
    unfold Oper.wp
    simp [execOp, hop, resolve, invoke, builtin, hs, hx, hrun, Result.andThen]
    exact hk
  · obtain ⟨v', w', hrun, hown, hgrow⟩ := run_append_arg_grows (P := P) w t o.type e i z 1 bytes h1 h2 h3 h4 h5 h6 (by omega) ⟨b, 0, none⟩ n cap olds (by omega) (fun j u hu => by
        rw [Addr.add_lit, Nat.zero_add, hcell]; exact holds j u hu) ⟨nb, 0, none⟩ 1 1 [nw] rfl hnews (by omega) (by simp only [maxLen]; omega) (by
        have := Nat.mul_le_mul (show n + 1 ≤ 1048577 by omega) hby; omega)
    obtain ⟨g1, ⟨g2, g3⟩ | ⟨g, cap1, cur, rfl, g4, g5, g6, g7, g8, g9⟩⟩ := hown
    · omega
    obtain ⟨q1, q2, q3, q4, q5⟩ := hgrow
    have hk := hK w' g cap1 ⟨by first | exact q1 | exact q1.symm, by first | exact q2 | exact q2.symm, by first | exact q3 | exact q3.symm, q4, fun k hk _ => by have := q5 k hk (by simp); first | exact this | exact this.symm, fun _ => ⟨c, by have := q5 b hb' (by simp); first | exact this.trans hb | exact this.symm.trans hb, rfl, fun _ _ => rfl⟩, fun j u hu => by
      rw [cell_cells g5, Nat.zero_add]
      have hj : j < n + 1 := by have := (List.getElem?_eq_some_iff.mp hu).1; rw [List.length_append, hlo] at this; exact this
      rw [← g9, List.getElem?_take, if_pos (by omega)] at hu
      simpa using hu⟩
    unfold Oper.wp
    simp [execOp, hop, resolve, invoke, builtin, hs, hx, hrun, Result.andThen]
    exact hk
/-- A function's region of this number. -/
def pickR (n : Nat) : Code → Option Code
  | .region i ops d => if i = n then some (.region i ops d) else none
  | .seq a b => match pickR n a with
    | some c => some c
    | none => pickR n b
  | .cond _ a b => match pickR n a with
    | some c => some c
    | none => pickR n b
  | .block _ b => pickR n b
  | .loop b => pickR n b
  | _ => none
noncomputable def regMax : Code := (Tryz.f20.body.bind (pickR 15)).getD .skip
theorem AppR.var {w W1 : World} {b n b1 : Nat} {c : Array Value} {t : TypeId} {ys : List Value} (R : AppR w W1 b n c t b1 ys) {bv : Nat} {cv : Array Value} {tv : TypeId} (hv : w.heap[bv]? = some (.cells cv tv (0, 0))) (hne : bv ≠ b) : W1.heap[bv]? = some (.cells cv tv (0, 0)) := by
  rw [R.same bv (Array.getElem?_eq_some_iff.mp hv).1 hne, hv]
theorem frz0 {W : World} {b : Nat} {c : Array Value} {t : TypeId} (h : W.heap[b]? = some (.cells c t (0, 0))) (k : Nat) : W.frozen? ⟨b, k, none⟩ = false := by simp [World.frozen?, h]
theorem AppR.ints {w W1 : World} {b n b1 : Nat} {c : Array Value} {t : TypeId} {zs : List Int} (R : AppR w W1 b n c t b1 (zs.map (Value.int .i64))) : ∀ j, j < zs.length → W1.cell? ⟨b1, 0 + j, none⟩ = some (.int .i64 (zs.getD j 0)) := fun j hj =>
  R.new j _ (by simp [List.getD_eq_getElem?_getD, hj])
/-- The region's end. -/
def RegEnd (W : World) (tmps : Array Value) (bv b n : Nat) (c : Array Value) (t : TypeId) (zs : List Int) (v : Int) (Q : Act → World → Prop) : Prop :=
  ∀ (ts : Array Value) (W0 W1 W2 : World) (b1 : Nat) (T : TypeId), W0.heap = (W.alloc (.cells #[.int .i64 (-1)] T)).heap → W0.os = W.os ∧ W0.tape = W.tape ∧ W0.output = W.output → AppR W0 W1 b n c t b1 (zs.map (Value.int .i64)) →
    W2.heap = (W1.setCell ⟨bv, 0, none⟩ (.int .i64 v)).heap → W2.os = W1.os ∧ W2.tape = W1.tape ∧ W2.output = W1.output → ts.size = 83 → (∀ i, i < 66 ∨ 74 < i → ts.getD i undef = tmps.getD i undef) → Q ⟨ts, []⟩ W2
def onlyN (Q : Act → World → Prop) : Exit → Act → World → Prop
  | .normal, a, w => Q a w
  | _, _, _ => False
theorem getD_low {i n : Nat} (a b : Array Value) (h : a.toList.take n = b.toList.take n) (hi : i < n) : a.getD i undef = b.getD i undef := by
  have h1 : (a.toList.take n)[i]? = (b.toList.take n)[i]? := by rw [h]
  rw [List.getElem?_take, List.getElem?_take, if_pos hi, if_pos hi] at h1
  simp only [Array.getD_eq_getD_getElem?, ← Array.getElem?_toList, h1]
theorem getD_high {i n : Nat} (a b : Array Value) (h : a.toList.drop (n + 1) = b.toList.drop (n + 1)) (hi : n < i) : a.getD i undef = b.getD i undef := by
  have h1 : (a.toList.drop (n + 1))[i - (n + 1)]? = (b.toList.drop (n + 1))[i - (n + 1)]? := by rw [h]
  rw [List.getElem?_drop, List.getElem?_drop, show n + 1 + (i - (n + 1)) = i by omega] at h1
  simp only [Array.getD_eq_getD_getElem?, ← Array.getElem?_toList, h1]
set_option maxHeartbeats 8000000 in
set_option maxRecDepth 1000000 in
theorem regMax_lit {Q : Act → World → Prop} (W : World) (x : Nat → Value) (hd : Value) (bv b n cap : Nat) (cv c : Array Value) (tv t : TypeId) (xs : List Int) (m0 mx : Int)
    (hxs : xs.length = n) (hv : W.heap[bv]? = some (.cells cv tv (0, 0))) (h0 : cv[0]? = some (.int .i64 m0)) (hap : App1 W.heap hd b n cap c t (xs.map (Value.int .i64))) (hbv : bv ≠ b)
    (hn : n ≤ 1048576) (hmx : mx = Lib.maxOf ((xs ++ [-1]).take (n + 1))) (hm : -1000 ≤ mx ∧ mx ≤ 1000)
    (hQ : RegEnd W #[x 0, x 1, x 2, x 3, x 4, x 5, x 6, x 7, x 8, x 9, x 10, .pointer (some ⟨bv, 0, none⟩), x 12, x 13, hd, x 15, x 16, x 17, x 18, x 19, x 20, x 21, x 22, x 23, x 24, x 25, x 26, x 27, x 28, x 29, x 30, x 31, x 32, x 33, x 34, x 35, x 36, x 37, x 38, x 39, x 40, x 41, x 42, x 43, x 44, x 45, x 46, x 47, x 48, x 49, x 50, x 51, x 52, x 53, x 54, x 55, x 56, x 57, x 58, x 59, x 60, x 61, x 62, x 63, x 64, x 65, x 66, x 67, x 68, x 69, x 70, x 71, x 72, x 73, x 74, x 75, x 76, x 77, x 78, x 79, x 80, x 81, x 82] bv b n c t (xs ++ [-1]) (max m0 (mx + 1)) Q) :
    regMax.wp Tryz.prog (onlyN Q) ⟨#[x 0, x 1, x 2, x 3, x 4, x 5, x 6, x 7, x 8, x 9, x 10, .pointer (some ⟨bv, 0, none⟩), x 12, x 13, hd, x 15, x 16, x 17, x 18, x 19, x 20, x 21, x 22, x 23, x 24, x 25, x 26, x 27, x 28, x 29, x 30, x 31, x 32, x 33, x 34, x 35, x 36, x 37, x 38, x 39, x 40, x 41, x 42, x 43, x 44, x 45, x 46, x 47, x 48, x 49, x 50, x 51, x 52, x 53, x 54, x 55, x 56, x 57, x 58, x 59, x 60, x 61, x 62, x 63, x 64, x 65, x 66, x 67, x 68, x 69, x 70, x 71, x 72, x 73, x 74, x 75, x 76, x 77, x 78, x 79, x 80, x 81, x 82], []⟩ W := by
  have mixed := mixed
  have hz : (Tryz.prog.info? 3).map (fun i => (i.zero, i.size, i.bytes)) = some (some (.int .i64 0), 1, 8) := by kernel_rfl
  obtain ⟨i0, hi0, hz3⟩ := Option.map_eq_some_iff.mp hz
  clear hz
  have hza : i0.zero = some (.int .i64 0) := congrArg (·.1) hz3
  have hzb : i0.size = 1 := congrArg (·.2.1) hz3
  have hzc : i0.bytes = 8 := congrArg (·.2.2) hz3
  clear hz3
  have hcv : W.cell? ⟨bv, 0, none⟩ = some (.int .i64 m0) := by rw [cell_cells hv, h0]
  have hfv : W.frozen? ⟨bv, 0, none⟩ = false := frz0 hv 0
  have hB : Hid (∀ o : Obj, App1 (W.alloc o).heap hd b n cap c t (xs.map (Value.int .i64))) := fun o => by
    rcases hap with ⟨h1, h2, h3, h4⟩ | h
    · exact .inl ⟨h1, h2, by rw [alloc_get, if_neg (by have := (Array.getElem?_eq_some_iff.mp h3).1; omega)]; exact h3, h4⟩
    · exact .inr h
  have hV : Hid (∀ o : Obj, (W.alloc o).heap[bv]? = some (.cells cv tv (0, 0))) := fun o => by rw [alloc_get, if_neg (by have := (Array.getElem?_eq_some_iff.mp hv).1; omega)]; exact hv
  have hN : Hid (∀ T : TypeId, (W.alloc (.cells #[.int .i64 (-1)] T)).cell? ⟨W.heap.size, 0, none⟩ = some (.int .i64 (-1))) := fun T => cell_cells (show (W.alloc (.cells #[.int .i64 (-1)] T)).heap[W.heap.size]? = some (.cells #[.int .i64 (-1)] T (0, 0)) by rw [alloc_get, if_pos rfl])
  have hM : Hid (∀ (b1 cap1 : Nat) (w : World), (∀ j, j < (xs ++ [-1]).length → w.cell? ⟨b1, 0 + j, none⟩ = some (.int .i64 ((xs ++ [-1]).getD j 0))) → Calls Tryz.prog 58 #[.slice (some ⟨b1, 0, none⟩) (n + 1) cap1] w fun e w' => e = .returned (.int .i64 mx) ∧ w' = w) := fun b1 cap1 w h => by
    have hl : (xs ++ [-1]).length = n + 1 := by rw [List.length_append, hxs]; rfl
    rw [hmx]
    exact max_calls b1 (n + 1) cap1 (xs ++ [-1]) w (by omega) (by omega) (by omega) h
  have hL : Hid ((xs.map (Value.int .i64)).length = n) := by show _ = _; rw [List.length_map, hxs]
  have hA : Hid (xs.map (Value.int .i64) ++ [.int .i64 (-1)] = (xs ++ [-1]).map (Value.int .i64)) := by show _ = _; rw [List.map_append]; rfl
  have hV0 : Hid (cv[0]? = some (.int .i64 m0)) := h0
  have hQ' : Hid (RegEnd W #[x 0, x 1, x 2, x 3, x 4, x 5, x 6, x 7, x 8, x 9, x 10, .pointer (some ⟨bv, 0, none⟩), x 12, x 13, hd, x 15, x 16, x 17, x 18, x 19, x 20, x 21, x 22, x 23, x 24, x 25, x 26, x 27, x 28, x 29, x 30, x 31, x 32, x 33, x 34, x 35, x 36, x 37, x 38, x 39, x 40, x 41, x 42, x 43, x 44, x 45, x 46, x 47, x 48, x 49, x 50, x 51, x 52, x 53, x 54, x 55, x 56, x 57, x 58, x 59, x 60, x 61, x 62, x 63, x 64, x 65, x 66, x 67, x 68, x 69, x 70, x 71, x 72, x 73, x 74, x 75, x 76, x 77, x 78, x 79, x 80, x 81, x 82] bv b n c t (xs ++ [-1]) (max m0 (mx + 1)) Q) := hQ
  have w1 : IntKind.i64.wrap (mx + 1) = mx + 1 := IntWalk.i64_in _ (by omega)
  have hcv2 : ∀ o : Obj, (W.alloc o).cell? ⟨bv, 0, none⟩ = some (.int .i64 m0) := fun o => (cell_cells (hV.out o)).trans hV0.out
  clear hQ h0 hap hv hmx hxs
  conv in regMax => whnf
  go_region_law (first | (refine step_app rfl (.tmp 68) (.tmp 69) 40 rfl 3 i0 (.int .i64 0) 8 Tryz.underlying40 hi0 hza hzb hzc rfl hd b n cap c t (xs.map (Value.int .i64)) (by simp [Act.eval, Act.put]) (hB.out _) hL.out W.heap.size (.int .i64 (-1)) rfl (by simp [Act.eval, Act.put]) (hN.out _) hn (by decide) ?_; rw [hA.out]; intro W1 b1 cap1 R; have k0 := Lib.hid (R.var (hV.out _) hbv); have k1 : W1.cell? ⟨bv, 0, none⟩ = some (.int .i64 m0) := (cell_cells k0.out).trans hV0.out; have k2 : W1.frozen? ⟨bv, 0, none⟩ = false := frz0 k0.out 0) | (refine step_calls rfl 58 (.tmp 70) 40 rfl Tryz.func58 rfl (by kernel_rfl) (.slice (some ⟨b1, 0, none⟩) (n + 1) cap1) (.int .i64 mx) (by simp [Act.eval, Act.put]) (hM.out b1 cap1 _ R.ints) ?_))
  all_goals
    refine hQ'.out _ _ _ _ _ 3 ?_ ?_ R ?_ ?_ ?_ ?_
    · rfl
    · exact ⟨rfl, rfl, rfl⟩
    · rfl
    · exact ⟨rfl, rfl, rfl⟩
    · rfl
    · intro i hi
      rcases Nat.lt_or_ge i 83 with h | h
      · rcases hi with hi | hi
        · exact getD_low _ _ rfl hi
        · exact getD_high _ _ rfl hi
      · simp [Array.getD, Nat.not_lt.mpr h]
end Go.Proofs.YtedciihjgbkjgabGreatDoor.A


/- THE REGION THAT APPENDS TO A SLICE WITH TWO OWNERS, seen from the state. Conditions: none. -/
namespace Go.Proofs.YtedciihjgbkjgabGreatDoor.A
open Go Go.RowKit Go.Lib
set_option linter.unusedSimpArgs false
set_option linter.unusedVariables false

def spillL (W W' : World) (lab : Nat → Lab) : Nat → Lab := fun b => if b < W.heap.size then lab b else if b < W'.heap.size then .far else .dead
section sp
variable {cx : Cx} {st : St} {sh : Sh} {a : Act} {W : World} {Fr : Nat → Prop}
/-- Blocks on which nothing leans change, and new ones appear. -/
theorem InvS.spill (h : InvS cx st sh a W Fr) (hpins : ∀ q ∈ cx.pins, q.1 < 1000) {W' : World} (h2 : W'.os = W.os) (h3 : W'.tape = W.tape) (h4 : W'.output = W.output) (hsz : W.heap.size ≤ W'.heap.size)
    (hag : ∀ b, b < W.heap.size → sh.lab b ≠ .far → W'.heap[b]? = W.heap[b]?) (hfar : ∀ b, b < cx.W0.heap.size → cx.lab0 b = .far → W'.heap[b]? = W.heap[b]?) : InvS cx st ⟨spillL W W' sh.lab, sh.μ, sh.β⟩ a W' Fr := by
  have ag : Agree W sh.lab W' (spillL W W' sh.lab) (fun L => L ≠ .dead ∧ L ≠ .far) := fun b hb => by
    have hlt := h.below hb.1
    exact ⟨by unfold spillL; rw [if_pos hlt], hag b hlt hb.2⟩
  have k : Keeps st W sh ⟨st.slots, st.vars, st.objs, st.next⟩ W' ⟨spillL W W' sh.lab, sh.μ, sh.β⟩ (fun _ => False) := by
    refine ⟨agree_mono ag (by rintro _ rfl; simp), fun id _ hv => ⟨hv, rfl⟩, fun q w rows' _ hs => ⟨rfl, rows', hs, rfl, fun i j s xs' _ _ hc => ⟨xs', hc, rfl, headAt_agree fun b' L n e => ?_⟩⟩⟩
    have hne : rows' ≠ [] := by
      intro e; rw [e] at hc; have := (cell_ne hc).1; simp at this
    refine (ag b' ?_).2
    rw [h.own_block hs e hne]
    simp
  refine h.move k (fun _ h => h.elim) (fun _ h => h) ?_ (fun id fs hf => ?_) (fun id w rows hs => ?_) (fun id hf => ⟨(h.fresh id hf).1, (h.fresh id hf).2.1⟩) h.stamps (fun id _ hs => ⟨hs, rfl⟩) (fun id _ hv => ⟨hv, rfl⟩) hpins
  · obtain ⟨g1, g2, g3, g4, g5, g6⟩ := h.ext
    refine ⟨by rw [h2, g1], by rw [h3, g2], by rw [h4, g3], Nat.le_trans g4 hsz, fun b hb hl => ?_, fun b hb => ?_⟩
    · obtain ⟨k1, k2⟩ := g5 b hb hl
      have hlt := Nat.lt_of_lt_of_le hb g4
      refine ⟨by show spillL W W' sh.lab b = _; unfold spillL; rw [if_pos hlt, k1], ?_⟩
      rcases hl with hl | hl
      · rw [hag b hlt (by rw [k1, hl]; simp), k2]
      · rw [hfar b hb hl, k2]
    · show spillL W W' sh.lab b = _
      unfold spillL; rw [if_neg (by omega), if_neg (by omega)]
  · obtain ⟨g1, c, t, g2, g3⟩ := h.vars id fs hf
    have := ag (sh.β id) (by rw [g1]; simp)
    exact ⟨⟨this.1.trans g1, c, t, by rw [this.2]; exact g2, all2_mono (fun s u m g => svRep_keeps k (fun _ _ h => h) g) g3⟩, fun id' hf' s m => (h.fresh id' hf').2.2.2 id fs hf s m⟩
  · exact ownRep_agree ag (by simp) (by simp) (by simp) (h.objs id w rows hs)
/-- Slots are forgotten. -/
theorem InvS.unslot (h : InvS cx st sh a W Fr) {ts : Array Value} (hts : ts.size = cx.n) {slots' : Nat → AV} (hs : ∀ t, slots' t = .un ∨ slots' t = st.slots t ∧ ts.getD t undef = a.tmps.getD t undef) : InvS cx ⟨slots', st.vars, st.objs, st.next⟩ sh ⟨ts, []⟩ W Fr := by
  have k : Keeps st W sh ⟨slots', st.vars, st.objs, st.next⟩ W sh (fun _ => False) := Keeps.same rfl rfl
  refine ⟨rfl, hts, h.ext, fun t => ?_, fun id fs hf => ?_, h.objs, fun id hf => ?_, h.low, h.stamps, h.pinO, h.pinV⟩
  · rcases hs t with e | ⟨e, e2⟩
    · show AVRep _ W sh (slots' t) _
      rw [e]; trivial
    · show AVRep _ W sh (slots' t) (ts.getD t undef)
      rw [e, e2]
      exact avRep_keeps k (fun _ _ h => h) (h.slots t)
  · obtain ⟨g1, c, t, g2, g3⟩ := h.vars id fs hf
    exact ⟨g1, c, t, g2, all2_mono (fun s u m g => svRep_keeps k (fun _ _ h => h) g) g3⟩
  · obtain ⟨g1, g2, g3, g4⟩ := h.fresh id hf
    refine ⟨g1, g2, fun t => ?_, g4⟩
    rcases hs t with e | ⟨e, -⟩
    · show id ∉ (slots' t).ids
      rw [e]; simp [AV.ids, AV.svs, Pk.svs, SV.ids]
    · show id ∉ (slots' t).ids
      rw [e]; exact g3 t
end sp
theorem setCell_row {W : World} {b : Nat} {c : Array Value} {t : TypeId} {v : Value} (h : W.heap[b]? = some (.cells c t (0, 0))) : (W.setCell ⟨b, 0, none⟩ v).heap = (W.setRow b (c.setIfInBounds 0 v)).heap := by
  unfold World.setCell World.setRow
  apply Array.ext_getElem?
  intro i
  simp only [Array.getElem?_modify]
  by_cases e : b = i
  · subst e
    simp [h]
  · simp [e]
theorem lit83 (ts : Array Value) (h : ts.size = 83) : ∃ x : Nat → Value, (∀ i, x i = ts.getD i undef) ∧ ts = #[x 0, x 1, x 2, x 3, x 4, x 5, x 6, x 7, x 8, x 9, x 10, x 11, x 12, x 13, x 14, x 15, x 16, x 17, x 18, x 19, x 20, x 21, x 22, x 23, x 24, x 25, x 26, x 27, x 28, x 29, x 30, x 31, x 32, x 33, x 34, x 35, x 36, x 37, x 38, x 39, x 40, x 41, x 42, x 43, x 44, x 45, x 46, x 47, x 48, x 49, x 50, x 51, x 52, x 53, x 54, x 55, x 56, x 57, x 58, x 59, x 60, x 61, x 62, x 63, x 64, x 65, x 66, x 67, x 68, x 69, x 70, x 71, x 72, x 73, x 74, x 75, x 76, x 77, x 78, x 79, x 80, x 81, x 82] := by
  refine ⟨fun i => ts.getD i undef, fun _ => rfl, ?_⟩
  have e : ts.toList = (List.range 83).map (fun i => ts.getD i undef) := by
    apply List.ext_getElem?
    intro i
    rcases Nat.lt_or_ge i 83 with hi | hi
    · rw [List.getElem?_map, List.getElem?_range hi]
      simp [h, hi]
    · rw [List.getElem?_eq_none (by simp [h, hi]), List.getElem?_eq_none (by simp [hi])]
  have e2 : ts = ((List.range 83).map (fun i => ts.getD i undef)).toArray := by rw [← e]
  exact e2
def newV (m0 mx : Int) : Int := max m0 (mx + 1)
set_option maxRecDepth 100000 in
theorem regMax_jwp {st : St} {s : Side} {R : Exit → St → Side → Prop} {id : Nat} {m0 mx : Int} {fs : List SV} {hd : Value} {xs : List Int} (h11 : st.slots 11 = .one (.vad id 0)) (hv : st.vars id = some (.sc (.int .i64 m0) :: fs)) (h14 : st.slots 14 = .sc hd)
    (hs : ((∃ A, hd = .slice A 0 0) ∧ xs = []) ∨ (hd, xs.map (Value.int .i64)) ∈ s) (hn : xs.length ≤ 1048576) (hmx : mx = Lib.maxOf (xs ++ [-1])) (hm : -1000 ≤ mx ∧ mx ≤ 1000)
    (hR : R .normal ⟨fun t => if 66 ≤ t ∧ t ≤ 74 then .un else st.slots t, upd st.vars [(id, some (.sc (.int .i64 (newV m0 mx)) :: fs))], st.objs, st.next⟩ s) : Jwp Tryz.prog 83 regMax R st s := by
  rintro cx ⟨ts, ds⟩ W Q hcn hp ⟨sh, hi, hsd⟩ hQ
  have hpins : ∀ q ∈ cx.pins, q.1 < 1000 := fun q hq => by have := hp q hq; omega
  have hds : ds = [] := hi.defers
  subst hds
  have hsz : ts.size = 83 := hi.size.trans hcn
  have e11 : ts.getD 11 undef = .pointer (some ⟨sh.β id, 0, none⟩) := by
    have := hi.slots 11
    rw [h11] at this
    exact this _ hv
  have e14 : ts.getD 14 undef = hd := by
    have := hi.slots 14
    rw [h14] at this
    exact this
  obtain ⟨glab, cv, tv, ghp, gall⟩ := hi.vars id _ hv
  have h0 : cv[0]? = some (.int .i64 m0) := by
    obtain ⟨u, h1, h2⟩ := all2_get gall (k := 0) (a := .sc (.int .i64 m0)) rfl
    have h2 : u = .int .i64 m0 := h2
    rw [h2] at h1; simpa using h1
  have hblk : ∃ (b cap : Nat) (c : Array Value) (t : TypeId), App1 W.heap hd b xs.length cap c t (xs.map (Value.int .i64)) ∧ (b = W.heap.size ∨ (sh.lab b = .far ∧ (b < cx.W0.heap.size → cx.lab0 b ≠ .imm ∧ cx.lab0 b ≠ .far) ∧ W.heap[b]? = some (.cells c t (0, 0)) ∧
      (hd, xs.map (Value.int .i64)) ∈ s ∧ hd = .slice (some ⟨b, 0, none⟩) xs.length cap)) := by
    rcases hs with ⟨h1, h2⟩ | h1
    · exact ⟨W.heap.size, 0, #[], 0, .inr ⟨h1, by rw [h2]; rfl⟩, .inl rfl⟩
    · obtain ⟨b, cap, c, t, g1, g2, g3, g4, g5, g6, g7⟩ := hsd.1 _ h1
      simp only [List.length_map] at g1 g2
      exact ⟨b, cap, c, t, .inl ⟨g1, g2, g5, g6, fun j u hu => (g7 j u hu).2⟩, .inr ⟨g3, g4, g5, h1, g1⟩⟩
  obtain ⟨b, cap, c, t, hap, hbb⟩ := hblk
  have hβ : sh.β id < W.heap.size := (Array.getElem?_eq_some_iff.mp ghp).1
  have hbv : sh.β id ≠ b := by
    rcases hbb with e | ⟨e, -⟩
    · omega
    · rintro e2; rw [e2, e] at glab; cases glab
  obtain ⟨x, hx, hlit⟩ := lit83 ts hsz
  have x11 := (hx 11).trans e11
  have x14 := (hx 14).trans e14
  rw [x11, x14] at hlit
  have hkey := regMax_lit (Q := fun a w => Q .normal a w) W x hd (sh.β id) b xs.length cap cv c tv t xs m0 mx rfl ghp h0 hap hbv hn (by rw [hmx, List.take_of_length_le (by simp)]) hm (by
    rw [← hlit]
    intro ts' W0 W1 W2 b1 T hW0 hW0' hA hW2 hW2' hts' hslots
    refine hQ .normal _ s _ W2 hR ?_
    have hW0s : W0.heap.size = W.heap.size + 1 := by rw [hW0, alloc_size]
    have hW0g : ∀ k, k < W.heap.size → W0.heap[k]? = W.heap[k]? := fun k hk => by rw [hW0, alloc_get, if_neg (by omega)]
    have hsame : ∀ k, k < W.heap.size → k ≠ b → W1.heap[k]? = W.heap[k]? := fun k hk hkb => by rw [hA.same k (by omega) hkb, hW0g k hk]
    have i1 := hi.spill hpins (W' := W1) (by rw [hA.os, hW0'.1]) (by rw [hA.tape, hW0'.2.1]) (by rw [hA.output, hW0'.2.2]) (by have := hA.size; omega) (fun k hk hl => hsame k hk (by
      rcases hbb with e | ⟨e, -⟩
      · omega
      · rintro rfl; exact hl e)) (fun k hk hl => hsame k (Nat.lt_of_lt_of_le hk hi.ext.size) (by
      rcases hbb with e | ⟨e, e2, -⟩
      · have := hi.ext.size; omega
      · rintro rfl; exact (e2 hk).2 hl))
    have ghp1 : W1.heap[sh.β id]? = some (.cells cv tv (0, 0)) := by rw [hsame _ hβ hbv, ghp]
    obtain ⟨-, cv1, tv1, ghp1', gall1⟩ := i1.vars id _ hv
    have : cv1 = cv := by rw [ghp1] at ghp1'; cases ghp1'; rfl
    subst this
    have i2 := i1.setVar hpins hv (c' := cv1.setIfInBounds 0 (.int .i64 (newV m0 mx))) (fs' := .sc (.int .i64 (newV m0 mx)) :: fs) (by
      obtain ⟨l⟩ := cv1
      rcases l with _ | ⟨y, l⟩
      · exact gall1.elim
      · exact ⟨rfl, gall1.2⟩) (fun q hq y hy => by
      rcases List.mem_cons.mp hy with rfl | hy
      · simp [SV.ids]
      · exact (i1.fresh q hq).2.2.2 id _ hv y (List.mem_cons_of_mem _ hy)) (fun _ h => h)
    have i3 := i2.sameHeap hpins (W' := W2) (by rw [hW2]; exact setCell_row ghp1) hW2'.1 hW2'.2.1 hW2'.2.2
    have i4 := i3.unslot (ts := ts') (by rw [hts', hcn]) (slots' := fun t => if 66 ≤ t ∧ t ≤ 74 then .un else st.slots t) (fun t => by
      by_cases e : 66 ≤ t ∧ t ≤ 74
      · exact .inl (if_pos e)
      · exact .inr ⟨if_neg e, hslots t (by omega)⟩)
    refine ⟨_, i4, fun p hp' => ?_, hsd.2⟩
    obtain ⟨b2, cap2, c2, t2, g1, g2, g3, g4, g5, g6, g7⟩ := hsd.1 p hp'
    have hb2 : b2 < W.heap.size := (Array.getElem?_eq_some_iff.mp g5).1
    have hlab2 : spillL W W1 sh.lab b2 = .far := by unfold spillL; rw [if_pos hb2, g3]
    have hne2 : b2 ≠ sh.β id := by rintro rfl; rw [glab] at g3; cases g3
    have hW2g : W2.heap[b2]? = W1.heap[b2]? := by rw [hW2, setCell_row ghp1]; exact setRow_other _ _ _ _ hne2
    by_cases e : b2 = b
    · subst e
      rcases hbb with e | ⟨-, -, f3, f4, f5⟩
      · omega
      have hpq : p = (hd, xs.map (Value.int .i64)) := by
        have hnd := hsd.2
        have heq : blkOf p.1 = blkOf hd := by rw [g1, f5]; rfl
        obtain ⟨i, hi1, hi2⟩ := List.getElem_of_mem hp'
        obtain ⟨j, hj1, hj2⟩ := List.getElem_of_mem f4
        have hpw := List.pairwise_iff_getElem.mp hnd
        have hii : (s.map fun p => blkOf p.1)[i]'(by simpa using hi1) = blkOf p.1 := by rw [List.getElem_map, hi2]
        have hjj : (s.map fun p => blkOf p.1)[j]'(by simpa using hj1) = blkOf hd := by rw [List.getElem_map, hj2]
        rcases Nat.lt_trichotomy i j with hlt | hlt | hlt
        · exact absurd (by rw [hii, hjj]; exact heq) (hpw i j (by simpa using hi1) (by simpa using hj1) hlt)
        · subst hlt; rw [← hi2, hj2]
        · exact absurd (by rw [hii, hjj]; exact heq.symm) (hpw j i (by simpa using hj1) (by simpa using hi1) hlt)
      have hc2 : c2 = c ∧ t2 = t := by rw [g5] at f3; cases f3; exact ⟨rfl, rfl⟩
      obtain ⟨rfl, rfl⟩ := hc2
      obtain ⟨c1, k1, k2, k3⟩ := hA.blk (by rw [hW0g _ hb2, g5])
      refine ⟨b2, cap2, c1, t2, g1, g2, hlab2, g4, by rw [hW2g, k1], by rw [k2, g6], fun k u hk => ?_⟩
      obtain ⟨q1, q2⟩ := g7 k u hk
      have hlt : k < xs.length := by
        have := (List.getElem?_eq_some_iff.mp hk).1
        rw [hpq] at this; simpa using this
      exact ⟨q1, by rw [k3 k hlt, q2]⟩
    · exact ⟨b2, cap2, c2, t2, g1, g2, hlab2, g4, by rw [hW2g, hsame b2 hb2 e, g5], g6, g7⟩)
  rw [← hlit] at hkey
  refine wp_mono hkey ?_
  rintro e a' w' hq
  cases e with
  | normal => exact hq
  | _ => exact hq.elim
end Go.Proofs.YtedciihjgbkjgabGreatDoor.A


/- A QUERY READ: the program's walk. Conditions: none. -/
namespace Go.Proofs.YtedciihjgbkjgabGreatDoor.A
open Go
set_option linter.unusedSimpArgs false
set_option linter.unusedVariables false
set_option maxRecDepth 100000

theorem jgo_normal {N : St → Side → Prop} {R : Exit → St → Side → Prop} {st : St} {s : Side} : jgo N R .normal st s = N st s := rfl
theorem jgo_exit {N : St → Side → Prop} {R : Exit → St → Side → Prop} {id : Nat} {st : St} {s : Side} : jgo N R (.exit id) st s = R (.exit id) st s := rfl
theorem jgo_ret {N : St → Side → Prop} {R : Exit → St → Side → Prop} {st : St} {s : Side} : jgo N R .ret st s = R .ret st s := rfl
theorem jblk_normal {R : Exit → St → Side → Prop} {id : Nat} {st : St} {s : Side} : jblk id R .normal st s = R .normal st s := rfl
theorem jblk_ret {R : Exit → St → Side → Prop} {id : Nat} {st : St} {s : Side} : jblk id R .ret st s = R .ret st s := rfl
theorem jblk_exit {R : Exit → St → Side → Prop} {id id' : Nat} {st : St} {s : Side} : jblk id R (.exit id') st s = if id' = id then R .normal st s else R (.exit id') st s := rfl
attribute [go_sem] jgo_normal jgo_exit jgo_ret jblk_normal jblk_ret jblk_exit
def wok (w : ByteArray) : Bool := !decide (w = ⟨#[]⟩) && okT (w.extract 1 w.size)
def wat (l : List Rel) (w : ByteArray) : RI := ⟨relIx l (w.extract 0 1), trT (w.extract 1 w.size)⟩
def mxT (w : ByteArray) : Int := Lib.maxOf (trT (w.extract 1 w.size) ++ [-1])
def vcI (ws : List ByteArray) : Nat → Int
  | 0 => 0
  | i + 1 => newV (vcI ws i) (mxT (ws.getD i ⟨#[]⟩))
def impQ (l : List Rel) (a : ByteArray) (ws : List ByteArray) : Qu := ⟨vcI ws ws.length, ws.map (wat l), trT a⟩
def okI (l : List Rel) (s a : ByteArray) (ws : List ByteArray) : Bool := okT a && (ws.all wok && decide (quText l (impQ l a ws) = s))
theorem rowsO_snoc (L : List Tri) (p : Tri) : rowsO (L ++ [p]) = rowsO L ++ [rowOO p] := by simp [rowsO]
theorem rowsO_stm (L : List Tri) : stm 999 (rowsO L) = rowsO L := stm_map 999 _ _ (fun p => by unfold rowOO; split <;> rfl) L
theorem rowsO_len (L : List Tri) : (rowsO L).length = L.length := by simp [rowsO]
theorem asN_1 {k : IntKind} : asN (.sc (.int k 1)) = some 1 := rfl
attribute [go_sem] asN_1 rowsO_len rowsO_stm
theorem ts1 (n : Nat) (r : RI) (row : List Cell) : List.take 1 (List.set (ris n (List.replicate 1 r)) 0 row) = [row] := rfl
theorem ts2 (n : Nat) (r : RI) (row : List Cell) : List.set (ris n (List.replicate 1 r)) 0 row = [row] := rfl
theorem flat_sl (v : Value) (n : Nat) (xs : List Value) : flatB [[Cell.sc v, Cell.sl (n + 1) xs]] = false := rfl
theorem flat_sc (v u : Value) : flatB [[Cell.sc v, Cell.sc u]] = true := rfl
theorem solid_sc {v : Value} (h : v.oneCell' = true) (st : St) : SV.solid st (.sc v) = True := eq_true h
def getW (ws : List ByteArray) (i : Nat) : ByteArray := ws.getD i ⟨#[]⟩
/-- What has been read. -/
structure Red (l : List Rel) (ws : List ByteArray) (L : List Tri) : Prop where
  len : L.length ≤ ws.length
  tri : okTri L
  ok : ∀ k, k < L.length → wok (getW ws k) = true
  eq : L.map (fun p => (p.1, p.2.2)) = (ws.take L.length).map fun w => (Value.int .i64 (wat l w).r, iv (wat l w).l)
theorem maxOf_bnd (zs : List Int) (lo hi : Int) (h0 : zs ≠ []) (h : ∀ x ∈ zs, lo ≤ x ∧ x ≤ hi) : lo ≤ Lib.maxOf zs ∧ Lib.maxOf zs ≤ hi := by
  have key : ∀ (l : List Int) (m : Int), lo ≤ m ∧ m ≤ hi → (∀ x ∈ l, lo ≤ x ∧ x ≤ hi) → lo ≤ l.foldl max m ∧ l.foldl max m ≤ hi := by
    intro l
    induction l with
    | nil => intro m hm _; exact hm
    | cons y l ih =>
      intro m hm hx
      have hy := hx y (by simp)
      exact ih (max m y) (by omega) fun x hx' => hx x (by simp [hx'])
  rcases zs with _ | ⟨z, zs⟩
  · exact absurd rfl h0
  · exact key _ _ (h z (by simp)) h
theorem t1_lo (s : ByteArray) (i : Nat) : -10 ≤ t1 s i ∧ t1 s i ≤ 3 := pT_lo _
theorem selT_lo (s : ByteArray) : ∀ (i : Nat), ∀ x ∈ selT s i, -10 ≤ x ∧ x ≤ 3
  | 0, x, h => by cases h
  | i + 1, x, h => by
    rw [selT] at h
    split at h
    · exact selT_lo s i x h
    · rcases List.mem_append.mp h with h | h
      · exact selT_lo s i x h
      · rw [List.mem_singleton.mp h]; exact t1_lo s i
theorem trT_lo (s : ByteArray) : ∀ x ∈ trT s, -10 ≤ x ∧ x ≤ 3 := by
  unfold trT
  split
  · exact selT_lo s _
  · intro x h; cases h
theorem mxT_bnd (w : ByteArray) : -10 ≤ mxT w ∧ mxT w ≤ 3 := by
  unfold mxT
  refine maxOf_bnd _ _ _ (by simp) fun x hx => ?_
  rcases List.mem_append.mp hx with hx | hx
  · exact trT_lo _ x hx
  · rw [List.mem_singleton.mp hx]; decide
theorem vcI_bnd (ws : List ByteArray) : ∀ i, 0 ≤ vcI ws i ∧ vcI ws i ≤ 4
  | 0 => by simp [vcI]
  | i + 1 => by
    have h1 := vcI_bnd ws i
    have h2 := mxT_bnd (ws.getD i ⟨#[]⟩)
    rw [vcI, newV]; omega
theorem mk_noid {slots : List (Nat × AV)} {vars : List (Nat × List SV)} {objs : List (Nat × Obj')} {next : Nat} (i : Nat) (h : (slots.all fun p => !p.2.ids.contains i) = true) : ∀ t, i ∉ ((mkSt slots vars objs next).slots t).ids := by
  intro t
  rw [mk_slots]
  rcases look_mem (d := AV.un) (l := slots) (k := t) with ⟨e, -⟩ | ⟨p, hp, -, e⟩
  · rw [e]; simp [AV.ids, AV.svs, Pk.svs, SV.ids]
  · rw [e]
    have := List.all_eq_true.mp h p hp
    simpa using this
theorem mk_noidV {slots : List (Nat × AV)} {vars : List (Nat × List SV)} {objs : List (Nat × Obj')} {next : Nat} (i : Nat) (h : (vars.all fun p => p.2.all fun x => !x.ids.contains i) = true) : ∀ k fs, (mkSt slots vars objs next).vars k = some fs → ∀ x ∈ fs, i ∉ x.ids := by
  intro k fs hf x hx
  rw [mk_vars] at hf
  rcases look_mem (d := (none : Option (List SV))) (l := vars.map fun p => (p.1, some p.2)) (k := k) with ⟨e, -⟩ | ⟨p, hp, -, e⟩
  · rw [e] at hf; cases hf
  · rw [e] at hf
    obtain ⟨q, hq, rfl⟩ := List.mem_map.mp hp
    cases hf
    have := List.all_eq_true.mp (List.all_eq_true.mp h q hq) x hx
    simpa using this
theorem rowsT_ris {l : List Rel} {ws : List ByteArray} {L : List Tri} (h : L.map (fun p => (p.1, p.2.2)) = ws.map fun w => (Value.int .i64 (wat l w).r, iv (wat l w).l)) (hok : okTri L) : stm 999 (rowsT L) = ris 999 (ws.map (wat l)) := by
  have e1 : stm 999 (rowsT L) = (L.map (fun p => (p.1, p.2.2))).map fun q => [Cell.sc q.1, Cell.sl 999 q.2] := by
    unfold stm rowsT
    rw [List.map_map, List.map_map]
    refine List.map_congr_left fun p hp => ?_
    show (rowTT p).map (Cell.stm 999) = [Cell.sc p.1, Cell.sl 999 p.2.2]
    unfold rowTT
    by_cases e : isNil p.2.1 = true
    · rw [if_pos e]
      have hr : real p.2.1 = false := by
        revert e
        unfold isNil
        split
        · rename_i hh; intro _; rw [hh]; rfl
        · intro e; cases e
      rw [(hok p hp hr).1]; rfl
    · rw [if_neg e]; rfl
  rw [e1, h]
  simp [ris, cRI, Function.comp_def]
set_option maxHeartbeats 8000000 in
theorem implParse_no (l : List Rel) (s : ByteArray) (hl : l.length ≤ 9223372036854775807) (hs : s.size ≤ 1048576) (h : ¬ hasB s 63) : Sat Tryz.prog 20 [lRels l, lStr s] [oQu noQ, lBool false] [g1, g1] := by
  refine sat_of_body mixed Tryz.func20 rfl (by kernel_rfl) (by kernel_rfl) (rs := [.cell 4 50, .tmp 5]) rfl rfl rfl ?_
  simp -implicitDefEqProofs (maxSteps := 2000000) only [go_sem]
  refine call_of (stringsCut_no s 63 h) (by simp -implicitDefEqProofs (maxSteps := 2000000) only [go_sem]) (by kernel_rfl) (by simp -implicitDefEqProofs (maxSteps := 2000000) only [go_sem]) ?_
  simp -implicitDefEqProofs (maxSteps := 2000000) only [go_sem]
  refine call_of (implParseTerms_sat s (by omega)) (by simp -implicitDefEqProofs (maxSteps := 2000000) only [go_sem]) (by kernel_rfl) (by simp -implicitDefEqProofs (maxSteps := 2000000) only [go_sem]) ?_
  simp -implicitDefEqProofs (maxSteps := 2000000) only [go_sem]
  and_intros <;> rfl
set_option maxHeartbeats 8000000 in
theorem implParse_yes (l : List Rel) (a b : ByteArray) (ws : List ByteArray) (hl : l.length ≤ 9223372036854775807) (h : ¬ hasB a 63) (hs : (a ++ oneB 63 ++ b).size ≤ 1048576) (hw : Sat Tryz.prog 56 [lStr b] [.one (.ow 1 (txs ws))] [g1])
    (hwl : ws.length ≤ 1048576) (hwm : ∀ w ∈ ws, w.size ≤ 1048576) :
    Sat Tryz.prog 20 [lRels l, lStr (a ++ oneB 63 ++ b)] [oQu (if okI l (a ++ oneB 63 ++ b) a ws then impQ l a ws else noQ), lBool (okI l (a ++ oneB 63 ++ b) a ws)] [g1, g1] := by
  have hz := cut3_size a b 63
  have s0 := stringsCut_yes a b 63 h (by omega)
  generalize hss : a ++ oneB 63 ++ b = s at hs hz s0
  refine sat_of_bodyJ Tryz.func20 rfl (by kernel_rfl) (rs := [.cell 4 50, .tmp 5]) rfl rfl rfl ?_
  refine jwp_seq mixed (by kernel_rfl) ?_
  simp -implicitDefEqProofs (maxSteps := 2000000) only [go_sem]
  refine jwp_seq mixed (by kernel_rfl) ?_
  simp -implicitDefEqProofs (maxSteps := 2000000) only [go_sem]
  refine call_of (s0) (by simp -implicitDefEqProofs (maxSteps := 2000000) only [go_sem]) (by kernel_rfl) (by simp -implicitDefEqProofs (maxSteps := 2000000) only [go_sem]) ?_
  simp -implicitDefEqProofs (maxSteps := 2000000) only [go_sem]
  refine jwp_seq mixed (by kernel_rfl) ?_
  simp -implicitDefEqProofs (maxSteps := 2000000) only [go_sem]
  refine call_of (implParseTerms_sat a (by omega)) (by simp -implicitDefEqProofs (maxSteps := 2000000) only [go_sem]) (by kernel_rfl) (by simp -implicitDefEqProofs (maxSteps := 2000000) only [go_sem]) ?_
  simp -implicitDefEqProofs (maxSteps := 2000000) only [go_sem]
  rcases d1 : okT a
  · have e1 : okI l s a ws = false := by unfold okI; rw [d1]; rfl
    rw [e1]
    refine jwp_seq mixed (by kernel_rfl) ?_
    simp -implicitDefEqProofs (maxSteps := 2000000) only [go_sem, d1]
    and_intros <;> rfl
  refine jwp_seq mixed (by kernel_rfl) ?_
  simp -implicitDefEqProofs (maxSteps := 2000000) only [go_sem, d1]
  refine jwp_seq mixed (by kernel_rfl) ?_
  simp -implicitDefEqProofs (maxSteps := 2000000) only [go_sem]
  refine jwp_seqJ ?_
  refine jwp_seq mixed (by kernel_rfl) ?_
  simp -implicitDefEqProofs (maxSteps := 2000000) only [go_sem]
  refine call_of (hw) (by simp -implicitDefEqProofs (maxSteps := 2000000) only [go_sem] <;> and_intros <;> rfl) (by kernel_rfl) (by simp -implicitDefEqProofs (maxSteps := 2000000) only [go_sem]) ?_
  simp -implicitDefEqProofs (maxSteps := 2000000) only [go_sem]
  refine jwp_block ?_
  refine jwp_loop (List Tri) (fun L => mkSt [(0, .one (.im 3 (rels l))), (1, .sc (.string s)), (4, .one (.vad 1000 0)), (5, .sc (.bool false)), (11, .one (.vad 2664 0)), (37, .one (.ref 960 1 0 ws.length)), (38, .sc (.int .i64 (ws.length : Nat))), (39, .sc (.int .i64 (L.length : Nat)))] [(1000, zQ3), (2664, [.sc (.int .i64 (vcI ws L.length)), .ref 962 2 0 L.length, .ref 961 1 0 (trT a).length])] [(960, (1, txs ws)), (961, (1, ints (trT a))), (962, (2, rowsO L))] 4000) (fun L => triSide L)
    (fun L => Red l ws L) (fun L => ws.length - L.length) [] ⟨Nat.zero_le _, (fun p hp => by cases hp), (fun k hk => by cases hk), rfl⟩ rfl (le_st' _ _ [⟨960, some _, false, 1, _⟩, ⟨961, some _, false, 1, _⟩, ⟨962, none, false, 2, _⟩] [] _ (by simp -implicitDefEqProofs (maxSteps := 2000000) only [go_sem, vcI, rowsO, List.map_nil, List.length_nil] <;> and_intros <;> rfl) (by simp -implicitDefEqProofs (maxSteps := 2000000) only [go_sem, vcI, rowsO, List.map_nil, List.length_nil] <;> and_intros <;> rfl) (by simp -implicitDefEqProofs (maxSteps := 2000000) only [go_sem, vcI, rowsO, List.map_nil, List.length_nil] <;> and_intros <;> rfl) (by rfl)) ?_
  rintro L hL
  have hL1 := hL.len
  have hVi := vcI_bnd ws L.length
  refine jwp_seq mixed (by kernel_rfl) ?_
  by_cases c1 : L.length < ws.length
  case neg =>
    simp -implicitDefEqProofs (maxSteps := 2000000) only [go_sem, c1]
    refine jwp_seq mixed (by kernel_rfl) ?_
    simp -implicitDefEqProofs (maxSteps := 2000000) only [go_sem, c1]
    have hLw : L.length = ws.length := by omega
    have hE := hL.eq
    have hO := hL.ok
    rw [hLw] at hVi hO
    rw [hLw, List.take_length] at hE
    have hstm := rowsT_ris hE hL.tri
    refine jwp_le (st' := mkSt [(0, .one (.im 3 (rels l))), (1, .sc (.string s)), (4, .one (.vad 1000 0)), (5, .sc (.bool false)), (11, .one (.vad 2664 0))] [(1000, zQ3), (2664, [.sc (.int .i64 (vcI ws ws.length)), .ref 962 2 0 ws.length, .ref 961 1 0 (trT a).length])] [(961, (1, ints (trT a))), (962, (2, rowsO L))] 50000) (le_st' _ _ [⟨961, some _, false, 1, _⟩, ⟨962, some _, false, 2, _⟩] [] _ (by simp -implicitDefEqProofs (maxSteps := 2000000) only [go_sem, hLw] <;> and_intros <;> rfl) (by simp -implicitDefEqProofs (maxSteps := 2000000) only [go_sem, hLw] <;> and_intros <;> rfl) (by simp -implicitDefEqProofs (maxSteps := 2000000) only [go_sem, hLw] <;> and_intros <;> rfl) (by rfl)) ?_
    refine jwp_thaw (id := 962) (L := L) hL.tri rfl (mk_noid 998 rfl) (mk_noidV 998 rfl) ?_
    refine bwp_le (st' := mkSt [(0, .one (.im 3 (rels l))), (1, .sc (.string s)), (4, .one (.vad 1000 0)), (5, .sc (.bool false)), (11, .one (.vad 2664 0))] [(1000, zQ3), (2664, [.sc (.int .i64 (vcI ws ws.length)), .ref 962 2 0 ws.length, .ref 961 1 0 (trT a).length])] [(961, (1, ints (trT a))), (962, (2, ris 999 (ws.map (wat l))))] 60000) (le_st' _ _ [⟨961, some _, false, 1, _⟩, ⟨962, some _, false, 2, _⟩] [] _ (by simp -implicitDefEqProofs (maxSteps := 2000000) only [go_sem, hstm] <;> and_intros <;> rfl) (by simp -implicitDefEqProofs (maxSteps := 2000000) only [go_sem, hstm] <;> and_intros <;> rfl) (by simp -implicitDefEqProofs (maxSteps := 2000000) only [go_sem, hstm] <;> and_intros <;> rfl) (by rfl)) ?_
    refine bwp_awp mixed (by kernel_rfl) ?_
    have hall : ws.all wok = true := by
      rw [List.all_eq_true]
      intro w hw
      obtain ⟨k, hk, rfl⟩ := List.getElem_of_mem hw
      have := hO k hk
      unfold getW at this
      rwa [List.getD_eq_getElem?_getD, List.getElem?_eq_getElem hk] at this
    have hq : (impQ l a ws).ok := by
      refine ⟨⟨?_, fun x hx => ?_⟩, ?_⟩
      · show (ws.map (wat l)).length ≤ _
        rw [List.length_map]; exact hwl
      · obtain ⟨w, hw, rfl⟩ := List.mem_map.mp hx
        have h1 := hwm w hw
        have h2 := trT_len (w.extract 1 w.size)
        have h3 := ext_size w 1 w.size
        show (trT (w.extract 1 w.size)).length ≤ _
        omega
      · have := trT_len a
        show (trT a).length ≤ _
        omega
    have hpv : (impQ l a ws).vc = vcI ws ws.length := rfl
    have hpa : (impQ l a ws).atoms = ws.map (wat l) := rfl
    have hpf : (impQ l a ws).free = trT a := rfl
    have e2 : okI l s a ws = decide (quText l (impQ l a ws) = s) := by unfold okI; rw [d1, hall, Bool.true_and, Bool.true_and]
    rw [e2]
    have rtk : List.take ws.length (ws.map (wat l)) = ws.map (wat l) := List.take_of_length_le (by simp)
    have ftk : List.take (trT a).length (trT a) = trT a := List.take_length
    rcases g : decide (quText l (impQ l a ws) = s)
    · simp -implicitDefEqProofs (maxSteps := 2000000) only [go_sem, rtk, ftk]
      refine call_of (implFormatQuery_sat l (impQ l a ws) hl hq) (by simp -implicitDefEqProofs (maxSteps := 2000000) only [go_sem, g, rtk, ftk, hpv, hpa, hpf]) (callOk_still (by kernel_rfl) (by simp only [List.all_cons, List.all_nil, LV.still, LV.leaves, Leaf.still, ints_still, ris_still, eds_still, rels_still, iss_still, ems_still, Bool.and_self, Bool.and_true])) (by simp -implicitDefEqProofs (maxSteps := 2000000) only [go_sem, g, rtk, ftk, hpv, hpa, hpf]) ?_
      simp -implicitDefEqProofs (maxSteps := 2000000) only [go_sem, g, rtk, ftk, hpv, hpa, hpf]
      and_intros <;> rfl
    · simp -implicitDefEqProofs (maxSteps := 2000000) only [go_sem, rtk, ftk]
      refine call_of (implFormatQuery_sat l (impQ l a ws) hl hq) (by simp -implicitDefEqProofs (maxSteps := 2000000) only [go_sem, g, rtk, ftk, hpv, hpa, hpf]) (callOk_still (by kernel_rfl) (by simp only [List.all_cons, List.all_nil, LV.still, LV.leaves, Leaf.still, ints_still, ris_still, eds_still, rels_still, iss_still, ems_still, Bool.and_self, Bool.and_true])) (by simp -implicitDefEqProofs (maxSteps := 2000000) only [go_sem, g, rtk, ftk, hpv, hpa, hpf]) ?_
      simp -implicitDefEqProofs (maxSteps := 2000000) only [go_sem, g, rtk, ftk, hpv, hpa, hpf]
      and_intros <;> rfl
  have wi : IntKind.i64.wrap ((L.length : Int) + 1) = ((L.length + 1 : Nat) : Int) := i64_succ (by omega)
  have eg := txs_get c1
  have hwz := hwm _ (mem_getD (⟨#[]⟩ : ByteArray) c1)
  have hvs : vcI ws (L.length + 1) = newV (vcI ws L.length) (mxT (ws.getD L.length ⟨#[]⟩)) := rfl
  have hta : (ws.take (L.length + 1)).map (fun w => (Value.int .i64 (wat l w).r, iv (wat l w).l)) = (ws.take L.length).map (fun w => (Value.int .i64 (wat l w).r, iv (wat l w).l)) ++ [(Value.int .i64 (wat l (ws.getD L.length ⟨#[]⟩)).r, iv (wat l (ws.getD L.length ⟨#[]⟩)).l)] := by
    rw [take_snoc (⟨#[]⟩ : ByteArray) c1, List.map_append]; rfl
  have hall : wok (ws.getD L.length ⟨#[]⟩) = false → okI l s a ws = false := by
    intro hno
    have : ws.all wok = false := by
      rw [List.all_eq_false]
      exact ⟨_, mem_getD (⟨#[]⟩ : ByteArray) c1, by rw [hno]; simp⟩
    unfold okI
    rw [this, Bool.false_and, Bool.and_false]
  have hokk : wok (ws.getD L.length ⟨#[]⟩) = true → ∀ k, k < L.length + 1 → wok (getW ws k) = true := by
    intro h k hk
    rcases Nat.lt_or_ge k L.length with h' | h'
    · exact hL.ok k h'
    · obtain rfl : k = L.length := by omega
      exact h
  generalize ws.getD L.length ⟨#[]⟩ = w at eg hwz hvs hta hall hokk
  simp -implicitDefEqProofs (maxSteps := 2000000) only [go_sem, c1]
  refine jwp_seq mixed (by kernel_rfl) ?_
  simp -implicitDefEqProofs (maxSteps := 2000000) only [go_sem, c1]
  refine jwp_seqJ ?_
  refine jwp_block ?_
  refine jwp_seq mixed (by kernel_rfl) ?_
  simp -implicitDefEqProofs (maxSteps := 2000000) only [go_sem, c1, eg]
  refine jwp_seq mixed (by kernel_rfl) ?_
  rcases d2 : decide (w = (⟨#[]⟩ : ByteArray))
  case true =>
    have e1 := hall (by unfold wok; rw [d2]; rfl)
    rw [e1]
    simp -implicitDefEqProofs (maxSteps := 2000000) only [go_sem, d2]
    and_intros <;> rfl
  have hw1 : 1 ≤ w.size := by
    rcases Nat.lt_or_ge 0 w.size with h | h
    · exact h
    · exact absurd (by obtain ⟨⟨x⟩⟩ := w; cases x with
        | nil => rfl
        | cons y x => simp [ByteArray.size] at h) (of_decide_eq_false d2)
  simp -implicitDefEqProofs (maxSteps := 2000000) only [go_sem, d2]
  have s1 := implParseTerms_sat (w.extract 1 w.size) (by have := ext_size w 1 w.size; omega)
  refine jwp_seq mixed (by kernel_rfl) ?_
  simp -implicitDefEqProofs (maxSteps := 2000000) only [go_sem, hw1]
  repeat (refine And.intro (by omega) ?_)
  refine call_of (s1) (by simp -implicitDefEqProofs (maxSteps := 2000000) only [go_sem]) (by kernel_rfl) (by simp -implicitDefEqProofs (maxSteps := 2000000) only [go_sem]) ?_
  simp -implicitDefEqProofs (maxSteps := 2000000) only [go_sem]
  rcases d3 : okT (w.extract 1 w.size)
  case false =>
    have e1 := hall (by unfold wok; rw [d3, Bool.and_false])
    rw [e1]
    refine jwp_seq mixed (by kernel_rfl) ?_
    simp -implicitDefEqProofs (maxSteps := 2000000) only [go_sem, d3]
    and_intros <;> rfl
  refine jwp_seq mixed (by kernel_rfl) ?_
  simp -implicitDefEqProofs (maxSteps := 2000000) only [go_sem, d3]
  have hwk : wok w = true := by unfold wok; rw [d2, d3]; rfl
  have hwatr : (wat l w).r = relIx l (w.extract 0 1) := rfl
  have hwatl : (wat l w).l = trT (w.extract 1 w.size) := rfl
  have hmxb := mxT_bnd w
  have hmxe : mxT w = Lib.maxOf (trT (w.extract 1 w.size) ++ [-1]) := rfl
  have hXl := trT_len (w.extract 1 w.size)
  have hXz := ext_size w 1 w.size
  rw [hwatr, hwatl] at hta
  generalize trT (w.extract 1 w.size) = X at hmxe hXl hta
  generalize mxT w = mx at hmxb hmxe hvs
  have hm0 : vcI ws L.length = vcI ws L.length := rfl
  generalize hmm : vcI ws L.length = m0 at hVi hvs
  refine jwp_le (st' := mkSt [(0, .one (.im 3 (rels l))), (1, .sc (.string s)), (4, .one (.vad 1000 0)), (5, .sc (.bool false)), (11, .one (.vad 2664 0)), (13, .sc (.string w)), (14, .one (.ref 963 1 0 (iv X).length)), (37, .one (.ref 960 1 0 ws.length)), (38, .sc (.int .i64 (ws.length : Nat))), (39, .sc (.int .i64 (L.length : Nat)))] [(1000, zQ3), (2664, [.sc (.int .i64 (m0)), .ref 962 2 0 L.length, .ref 961 1 0 (trT a).length])] [(960, (1, txs ws)), (961, (1, ints (trT a))), (962, (2, rowsO L)), (963, (1, lift (iv X)))] 20000) (le_st' _ _ [⟨960, some _, false, 1, _⟩, ⟨961, some _, false, 1, _⟩, ⟨962, some _, false, 2, _⟩, ⟨963, some _, false, 1, _⟩] [] _ (by simp -implicitDefEqProofs (maxSteps := 2000000) only [go_sem] <;> and_intros <;> rfl) (by simp -implicitDefEqProofs (maxSteps := 2000000) only [go_sem] <;> and_intros <;> rfl) (by simp -implicitDefEqProofs (maxSteps := 2000000) only [go_sem] <;> and_intros <;> rfl) (by rfl)) ?_
  refine jwp_aside (t := 14) (tid := 963) (xs := iv X) rfl rfl ?_
  intro hd hnil hone hreal
  rw [← triSide_snoc L (.int .i64 (relIx l (w.extract 0 1))) hd (iv X)]
  refine jwp_le (st' := mkSt [(0, .one (.im 3 (rels l))), (1, .sc (.string s)), (4, .one (.vad 1000 0)), (5, .sc (.bool false)), (11, .one (.vad 2664 0)), (13, .sc (.string w)), (14, .sc hd), (37, .one (.ref 960 1 0 ws.length)), (38, .sc (.int .i64 (ws.length : Nat))), (39, .sc (.int .i64 (L.length : Nat)))] [(1000, zQ3), (2664, [.sc (.int .i64 (m0)), .ref 962 2 0 L.length, .ref 961 1 0 (trT a).length])] [(960, (1, txs ws)), (961, (1, ints (trT a))), (962, (2, rowsO L))] 20000) (le_st' _ _ [⟨960, some _, false, 1, _⟩, ⟨961, some _, false, 1, _⟩, ⟨962, some _, false, 2, _⟩] [] _ (by simp -implicitDefEqProofs (maxSteps := 2000000) only [go_sem] <;> and_intros <;> rfl) (by simp -implicitDefEqProofs (maxSteps := 2000000) only [go_sem] <;> and_intros <;> rfl) (by simp -implicitDefEqProofs (maxSteps := 2000000) only [go_sem] <;> and_intros <;> rfl) (by rfl)) ?_
  have hro : rowsO (L ++ [(.int .i64 (relIx l (w.extract 0 1)), hd, iv X)]) = rowsO L ++ [rowOO (.int .i64 (relIx l (w.extract 0 1)), hd, iv X)] := rowsO_snoc _ _
  rcases hnil with hnil | hni
  · subst hnil
    have ho : rowOO (.int .i64 (relIx l (w.extract 0 1)), (Value.slice none 0 0), iv X) = [Cell.sc (.int .i64 (relIx l (w.extract 0 1))), Cell.sl 999 []] := rfl
    refine jwp_seq mixed (by kernel_rfl) ?_
    simp -implicitDefEqProofs (maxSteps := 2000000) only [go_sem, hw1]
    repeat (refine And.intro (by omega) ?_)
    refine call_of (implRelationIndex_sat l (w.extract 0 1) hl) (by simp -implicitDefEqProofs (maxSteps := 2000000) only [go_sem, ts1, flat_sl]) (by kernel_rfl) (by simp -implicitDefEqProofs (maxSteps := 2000000) only [go_sem, ts1, flat_sl]) ?_
    simp -implicitDefEqProofs (maxSteps := 2000000) only [go_sem, ts1, flat_sl]
    refine ⟨by omega, ?_⟩
    first | (with_reducible refine tr_and ?_ ?_; focus kernel_rfl) | (with_reducible refine tr_only ?_; kernel_rfl) | skip
    refine jwp_le (st' := mkSt [(0, .one (.im 3 (rels l))), (1, .sc (.string s)), (4, .one (.vad 1000 0)), (5, .sc (.bool false)), (11, .one (.vad 2664 0)), (14, .sc (Value.slice none 0 0)), (37, .one (.ref 960 1 0 ws.length)), (38, .sc (.int .i64 (ws.length : Nat))), (39, .sc (.int .i64 (L.length : Nat)))] [(1000, zQ3), (2664, [.sc (.int .i64 (m0)), .ref 962 2 0 (L.length + 1), .ref 961 1 0 (trT a).length])] [(960, (1, txs ws)), (961, (1, ints (trT a))), (962, (2, rowsO L ++ [[Cell.sc (.int .i64 (relIx l (w.extract 0 1))), Cell.sl 999 []]]))] 30000) (le_st' _ _ [⟨960, some _, false, 1, _⟩, ⟨961, some _, false, 1, _⟩, ⟨962, some _, false, 2, _⟩] [] _ (by simp -implicitDefEqProofs (maxSteps := 2000000) only [go_sem, ts2] <;> and_intros <;> rfl) (by simp -implicitDefEqProofs (maxSteps := 2000000) only [go_sem, ts2] <;> and_intros <;> rfl) (by simp -implicitDefEqProofs (maxSteps := 2000000) only [go_sem, ts2] <;> and_intros <;> rfl) (by rfl)) ?_
    have hsn : rowsO (L ++ [(.int .i64 (relIx l (w.extract 0 1)), Value.slice none 0 0, iv X)]) = rowsO L ++ [[Cell.sc (.int .i64 (relIx l (w.extract 0 1))), Cell.sl 999 []]] := by rw [hro, ho]
    rw [← hsn]
    refine regMax_jwp (id := 2664) (m0 := m0) (mx := mx) (hd := Value.slice none 0 0) (xs := X) (fs := [.ref 962 2 0 (L.length + 1), .ref 961 1 0 (trT a).length]) rfl rfl rfl ?_ (by omega) hmxe (by omega) ?_
    · rcases hre : real (Value.slice none 0 0)
      · obtain ⟨q1, q2⟩ := hreal hre
        exact .inl ⟨q2, List.map_eq_nil_iff.mp q1⟩
      · refine .inr ?_
        rw [triSide_snoc, sideIf, hre]
        exact List.mem_append_right _ (List.mem_singleton_self _)
    rw [jblk_normal, jgo_normal]
    refine jwp_le (st' := mkSt [(0, .one (.im 3 (rels l))), (1, .sc (.string s)), (4, .one (.vad 1000 0)), (5, .sc (.bool false)), (11, .one (.vad 2664 0)), (37, .one (.ref 960 1 0 ws.length)), (38, .sc (.int .i64 (ws.length : Nat))), (39, .sc (.int .i64 (L.length : Nat)))] [(1000, zQ3), (2664, [.sc (.int .i64 (newV m0 mx)), .ref 962 2 0 (L.length + 1), .ref 961 1 0 (trT a).length])] [(960, (1, txs ws)), (961, (1, ints (trT a))), (962, (2, rowsO (L ++ [(.int .i64 (relIx l (w.extract 0 1)), Value.slice none 0 0, iv X)])))] 40000) (le_st' _ _ [⟨960, some _, false, 1, _⟩, ⟨961, some _, false, 1, _⟩, ⟨962, some _, false, 2, _⟩] [] _ (by simp -implicitDefEqProofs (maxSteps := 2000000) only [go_sem, false_and, and_false, if_false, Nat.reduceLeDiff] <;> and_intros <;> rfl) (by simp -implicitDefEqProofs (maxSteps := 2000000) only [go_sem, false_and, and_false, if_false, Nat.reduceLeDiff] <;> and_intros <;> rfl) (by simp -implicitDefEqProofs (maxSteps := 2000000) only [go_sem, false_and, and_false, if_false, Nat.reduceLeDiff] <;> and_intros <;> rfl) (by rfl)) ?_
    refine jwp_awp mixed (by kernel_rfl) ?_
    simp -implicitDefEqProofs (maxSteps := 2000000) only [go_sem, wi]
    refine ⟨L ++ [(.int .i64 (relIx l (w.extract 0 1)), Value.slice none 0 0, iv X)], ⟨by simp; omega, ?_, ?_, ?_⟩, by simp; omega, rfl, (le_st' _ _ [⟨960, some _, false, 1, _⟩, ⟨961, some _, false, 1, _⟩, ⟨962, some _, false, 2, _⟩] [] _ (by simp -implicitDefEqProofs (maxSteps := 2000000) only [go_sem, List.length_append, List.length_singleton, hvs] <;> and_intros <;> rfl) (by simp -implicitDefEqProofs (maxSteps := 2000000) only [go_sem, List.length_append, List.length_singleton, hvs] <;> and_intros <;> rfl) (by simp -implicitDefEqProofs (maxSteps := 2000000) only [go_sem, List.length_append, List.length_singleton, hvs] <;> and_intros <;> rfl) (by rfl))⟩
    · intro p hp
      rcases List.mem_append.mp hp with hp | hp
      · exact hL.tri p hp
      · rw [List.mem_singleton.mp hp]; exact hreal
    · rw [List.length_append, List.length_singleton]
      exact hokk hwk
    · rw [List.length_append, List.length_singleton, List.map_append, hL.eq, hta]; rfl
  · have ho : rowOO (.int .i64 (relIx l (w.extract 0 1)), hd, iv X) = [Cell.sc (.int .i64 (relIx l (w.extract 0 1))), Cell.sc hd] := by unfold rowOO; rw [hni]; rfl
    refine jwp_seq mixed (by kernel_rfl) ?_
    simp -implicitDefEqProofs (maxSteps := 2000000) only [go_sem, hw1, hni, hone, solid_sc hone]
    repeat (refine And.intro (by omega) ?_)
    refine call_of (implRelationIndex_sat l (w.extract 0 1) hl) (by simp -implicitDefEqProofs (maxSteps := 2000000) only [go_sem, hni, hone, solid_sc hone, ts1, flat_sc]) (by kernel_rfl) (by simp -implicitDefEqProofs (maxSteps := 2000000) only [go_sem, hni, hone, solid_sc hone, ts1, flat_sc]) ?_
    simp -implicitDefEqProofs (maxSteps := 2000000) only [go_sem, hni, hone, solid_sc hone, ts1, flat_sc]
    refine ⟨by omega, ?_⟩
    first | (with_reducible refine tr_and ?_ ?_; focus kernel_rfl) | (with_reducible refine tr_only ?_; kernel_rfl) | skip
    refine jwp_le (st' := mkSt [(0, .one (.im 3 (rels l))), (1, .sc (.string s)), (4, .one (.vad 1000 0)), (5, .sc (.bool false)), (11, .one (.vad 2664 0)), (14, .sc hd), (37, .one (.ref 960 1 0 ws.length)), (38, .sc (.int .i64 (ws.length : Nat))), (39, .sc (.int .i64 (L.length : Nat)))] [(1000, zQ3), (2664, [.sc (.int .i64 (m0)), .ref 962 2 0 (L.length + 1), .ref 961 1 0 (trT a).length])] [(960, (1, txs ws)), (961, (1, ints (trT a))), (962, (2, rowsO L ++ [[Cell.sc (.int .i64 (relIx l (w.extract 0 1))), Cell.sc hd]]))] 30000) (le_st' _ _ [⟨960, some _, false, 1, _⟩, ⟨961, some _, false, 1, _⟩, ⟨962, some _, false, 2, _⟩] [] _ (by simp -implicitDefEqProofs (maxSteps := 2000000) only [go_sem, ts2] <;> and_intros <;> rfl) (by simp -implicitDefEqProofs (maxSteps := 2000000) only [go_sem, ts2] <;> and_intros <;> rfl) (by simp -implicitDefEqProofs (maxSteps := 2000000) only [go_sem, ts2] <;> and_intros <;> rfl) (by rfl)) ?_
    have hsn : rowsO (L ++ [(.int .i64 (relIx l (w.extract 0 1)), hd, iv X)]) = rowsO L ++ [[Cell.sc (.int .i64 (relIx l (w.extract 0 1))), Cell.sc hd]] := by rw [hro, ho]
    rw [← hsn]
    refine regMax_jwp (id := 2664) (m0 := m0) (mx := mx) (hd := hd) (xs := X) (fs := [.ref 962 2 0 (L.length + 1), .ref 961 1 0 (trT a).length]) rfl rfl rfl ?_ (by omega) hmxe (by omega) ?_
    · rcases hre : real (hd)
      · obtain ⟨q1, q2⟩ := hreal hre
        exact .inl ⟨q2, List.map_eq_nil_iff.mp q1⟩
      · refine .inr ?_
        rw [triSide_snoc, sideIf, hre]
        exact List.mem_append_right _ (List.mem_singleton_self _)
    rw [jblk_normal, jgo_normal]
    refine jwp_le (st' := mkSt [(0, .one (.im 3 (rels l))), (1, .sc (.string s)), (4, .one (.vad 1000 0)), (5, .sc (.bool false)), (11, .one (.vad 2664 0)), (37, .one (.ref 960 1 0 ws.length)), (38, .sc (.int .i64 (ws.length : Nat))), (39, .sc (.int .i64 (L.length : Nat)))] [(1000, zQ3), (2664, [.sc (.int .i64 (newV m0 mx)), .ref 962 2 0 (L.length + 1), .ref 961 1 0 (trT a).length])] [(960, (1, txs ws)), (961, (1, ints (trT a))), (962, (2, rowsO (L ++ [(.int .i64 (relIx l (w.extract 0 1)), hd, iv X)])))] 40000) (le_st' _ _ [⟨960, some _, false, 1, _⟩, ⟨961, some _, false, 1, _⟩, ⟨962, some _, false, 2, _⟩] [] _ (by simp -implicitDefEqProofs (maxSteps := 2000000) only [go_sem, false_and, and_false, if_false, Nat.reduceLeDiff] <;> and_intros <;> rfl) (by simp -implicitDefEqProofs (maxSteps := 2000000) only [go_sem, false_and, and_false, if_false, Nat.reduceLeDiff] <;> and_intros <;> rfl) (by simp -implicitDefEqProofs (maxSteps := 2000000) only [go_sem, false_and, and_false, if_false, Nat.reduceLeDiff] <;> and_intros <;> rfl) (by rfl)) ?_
    refine jwp_awp mixed (by kernel_rfl) ?_
    simp -implicitDefEqProofs (maxSteps := 2000000) only [go_sem, wi]
    refine ⟨L ++ [(.int .i64 (relIx l (w.extract 0 1)), hd, iv X)], ⟨by simp; omega, ?_, ?_, ?_⟩, by simp; omega, rfl, (le_st' _ _ [⟨960, some _, false, 1, _⟩, ⟨961, some _, false, 1, _⟩, ⟨962, some _, false, 2, _⟩] [] _ (by simp -implicitDefEqProofs (maxSteps := 2000000) only [go_sem, List.length_append, List.length_singleton, hvs] <;> and_intros <;> rfl) (by simp -implicitDefEqProofs (maxSteps := 2000000) only [go_sem, List.length_append, List.length_singleton, hvs] <;> and_intros <;> rfl) (by simp -implicitDefEqProofs (maxSteps := 2000000) only [go_sem, List.length_append, List.length_singleton, hvs] <;> and_intros <;> rfl) (by rfl))⟩
    · intro p hp
      rcases List.mem_append.mp hp with hp | hp
      · exact hL.tri p hp
      · rw [List.mem_singleton.mp hp]; exact hreal
    · rw [List.length_append, List.length_singleton]
      exact hokk hwk
    · rw [List.length_append, List.length_singleton, List.map_append, hL.eq, hta]; rfl
end Go.Proofs.YtedciihjgbkjgabGreatDoor.A


/- A QUERY READ: the two readings agree. Conditions: none. -/
namespace Go.Proofs.YtedciihjgbkjgabGreatDoor.A
open Go
set_option linter.unusedSimpArgs false
set_option linter.unusedVariables false
set_option maxRecDepth 100000

/-! #### a text cut at a sign -/
theorem byA_at {s : ByteArray} {i : Nat} (h : i < s.size) : s.data.toList.getD i 0 ∈ s.data.toList := mem_getD (0 : UInt8) (by rw [← size_data]; exact h)
theorem byA_ne {s : ByteArray} {c : UInt8} (h : ¬ hasB s c) {i : Nat} (hi : i < s.size) : byA s i ≠ c.toNat := by
  intro e
  have h1 := byA_at hi
  rw [UInt8.toNat_inj.mp (show (s.data.toList.getD i 0).toNat = c.toNat from e)] at h1
  exact h h1
theorem spl_no {s : ByteArray} {c : UInt8} : ∀ {n : Nat}, (∀ i, i < n → byA s i ≠ c.toNat) → splO s c.toNat n = [] ∧ splA s c.toNat n = 0
  | 0, _ => ⟨rfl, rfl⟩
  | n + 1, h => by
    have h1 := spl_no (n := n) fun i hi => h i (by omega)
    have h2 := h n (by omega)
    rw [splO, splA, if_neg h2, if_neg h2]
    exact h1
theorem ext_data (s : ByteArray) (i j : Nat) : (s.extract i j).data.toList = (s.data.toList.drop i).take (j - i) := by
  rw [ByteArray.data_extract, Array.toList_extract]
theorem ext_all (s : ByteArray) : s.extract 0 s.size = s := by
  apply byt_eq
  rw [ext_data, List.drop_zero, Nat.sub_zero, size_data, List.take_length]
theorem splS_no {s : ByteArray} {c : UInt8} (h : ¬ hasB s c) : splS s c.toNat = [s] := by
  obtain ⟨h1, h2⟩ := spl_no (c := c) (n := s.size) fun i hi => byA_ne h hi
  unfold splS
  rw [h1, h2, ext_all]; rfl
theorem cut_drop (a b : ByteArray) (c : UInt8) (x : Nat) : (a ++ oneB c ++ b).data.toList.drop (a.size + 1 + x) = b.data.toList.drop x := by
  rw [byt_app, byt_app, List.append_assoc, show (oneB c).data.toList ++ b.data.toList = c :: b.data.toList from rfl, size_data, List.drop_append, List.drop_of_length_le (by omega), List.nil_append,
    show a.data.toList.length + 1 + x - a.data.toList.length = x + 1 by omega, List.drop_succ_cons]
theorem cut_by (a b : ByteArray) (c : UInt8) (j : Nat) : byA (a ++ oneB c ++ b) (a.size + 1 + j) = byA b j := by
  have h := cut_drop a b c j
  have e1 : ((a ++ oneB c ++ b).data.toList.drop (a.size + 1 + j))[0]? = (a ++ oneB c ++ b).data.toList[a.size + 1 + j]? := by rw [List.getElem?_drop, Nat.add_zero]
  unfold byA
  rw [List.getD_eq_getElem?_getD, ← e1, h, List.getElem?_drop, Nat.add_zero, ← List.getD_eq_getElem?_getD]
theorem cut_ext (a b : ByteArray) (c : UInt8) (x y : Nat) : (a ++ oneB c ++ b).extract (a.size + 1 + x) (a.size + 1 + y) = b.extract x y := by
  apply byt_eq
  rw [ext_data, ext_data, cut_drop, show a.size + 1 + y - (a.size + 1 + x) = y - x by omega]
theorem cut_at (a b : ByteArray) (c : UInt8) : byA (a ++ oneB c ++ b) a.size = c.toNat := by
  unfold byA
  rw [byt_app, byt_app, List.append_assoc, show (oneB c).data.toList ++ b.data.toList = c :: b.data.toList from rfl, size_data]
  simp [List.getD_eq_getElem?_getD]
theorem cut_lo (a b : ByteArray) (c : UInt8) {i : Nat} (h : i < a.size) : byA (a ++ oneB c ++ b) i = byA a i := by
  unfold byA
  rw [byt_app, byt_app, List.append_assoc, List.getD_eq_getElem?_getD, List.getElem?_append_left (by rw [← size_data]; exact h), List.getD_eq_getElem?_getD]
theorem spl_cut {a b : ByteArray} {c : UInt8} (h : ¬ hasB a c) : ∀ j, splO (a ++ oneB c ++ b) c.toNat (a.size + 1 + j) = a :: splO b c.toNat j ∧ splA (a ++ oneB c ++ b) c.toNat (a.size + 1 + j) = a.size + 1 + splA b c.toNat j
  | 0 => by
    obtain ⟨h1, h2⟩ := spl_no (s := a ++ oneB c ++ b) (c := c) (n := a.size) fun i hi => by rw [cut_lo a b c hi]; exact byA_ne h hi
    show (if byA (a ++ oneB c ++ b) a.size = c.toNat then splO (a ++ oneB c ++ b) c.toNat a.size ++ [(a ++ oneB c ++ b).extract (splA (a ++ oneB c ++ b) c.toNat a.size) a.size] else _) = [a] ∧ (if byA (a ++ oneB c ++ b) a.size = c.toNat then a.size + 1 else _) = a.size + 1
    rw [if_pos (cut_at a b c), if_pos (cut_at a b c), h1, h2, ext_left]
    exact ⟨rfl, rfl⟩
  | j + 1 => by
    obtain ⟨h1, h2⟩ := spl_cut (b := b) h j
    rw [show a.size + 1 + (j + 1) = (a.size + 1 + j) + 1 by omega, splO, splA, cut_by, splO, splA, h1, h2]
    by_cases e : byA b j = c.toNat
    · rw [if_pos e, if_pos e, if_pos e, if_pos e, cut_ext]
      exact ⟨rfl, by omega⟩
    · rw [if_neg e, if_neg e, if_neg e, if_neg e]
      exact ⟨rfl, rfl⟩
theorem splS_cut {a b : ByteArray} {c : UInt8} (h : ¬ hasB a c) : splS (a ++ oneB c ++ b) c.toNat = a :: splS b c.toNat := by
  obtain ⟨h1, h2⟩ := spl_cut (b := b) h b.size
  unfold splS
  rw [cut3_size, h1, h2, cut_ext]; rfl
theorem splS_join {c : UInt8} : ∀ (ws : List ByteArray), ws ≠ [] → (∀ w ∈ ws, ¬ hasB w c) → splS (joinB ws (oneB c)) c.toNat = ws
  | [], h, _ => absurd rfl h
  | [w], _, h => by rw [joinB_one]; exact splS_no (h w (by simp))
  | w :: x :: r, _, h => by
    rw [joinB_cc, splS_cut (h w (by simp)), splS_join (x :: r) (by simp) fun y hy => h y (List.mem_cons_of_mem _ hy)]
theorem cut_uniq {a b a2 b2 : ByteArray} {c : UInt8} (h : ¬ hasB a c) (h2 : ¬ hasB a2 c) (e : a ++ oneB c ++ b = a2 ++ oneB c ++ b2) : a = a2 ∧ b = b2 := by
  have e1 := splS_cut (b := b) h
  rw [e, splS_cut h2] at e1
  obtain ⟨e2, -⟩ := List.cons.inj e1
  subst e2
  refine ⟨rfl, byt_eq ?_⟩
  have e3 := congrArg (fun x : ByteArray => x.data.toList) e
  simp only [byt_app] at e3
  exact List.append_cancel_left e3
/-! #### terms -/
theorem one_ext {s : ByteArray} {i : Nat} (h : i < s.size) : s.extract i (i + 1) = oneB (s.data.toList.getD i 0) := by
  apply byt_eq
  have hl : i < s.data.toList.length := by rw [← size_data]; exact h
  rw [ext_data, show i + 1 - i = 1 by omega, List.drop_eq_getElem_cons hl, List.take_succ_cons, List.take_zero, List.getD_eq_getElem?_getD, List.getElem?_eq_getElem hl]; rfl
theorem pT_one (c : UInt8) : pT (oneB c) = p1 c.toNat := rfl
theorem t1_eq {s : ByteArray} {i : Nat} (h : i < s.size) : t1 s i = (p1 (byA s i)).1 := by
  unfold t1; rw [one_ext h, pT_one]
theorem okU_eq {s : ByteArray} {i : Nat} (h : i < s.size) : okU s i = (barA s i || (p1 (byA s i)).2) := by
  unfold okU; rw [one_ext h, pT_one]
theorem upTo_tr {p : Nat → Bool} : ∀ {n : Nat}, (∀ k, k < n → p k = true) → upTo p n = true
  | 0, _ => rfl
  | n + 1, h => upTo_step (upTo_tr fun k hk => h k (by omega)) (h n (by omega))
theorem okT_of {s : ByteArray} (h : ∀ c ∈ s.data.toList, (p1 c.toNat).2 = true ∨ c = 124) : okT s = true := by
  refine upTo_tr fun k hk => ?_
  rw [okU_eq hk]
  rcases h _ (byA_at hk) with h | h
  · rw [show (p1 (byA s k)).2 = true from h, Bool.or_true]
  · have : barA s k = true := by
      unfold barA byA
      rw [h]; rfl
    rw [this, Bool.true_or]
abbrev tail (w : ByteArray) : ByteArray := w.extract 1 w.size
theorem tail_size (w : ByteArray) : (tail w).size = w.size - 1 := by rw [ByteArray.size_extract]; omega
theorem tail_by {w : ByteArray} {i : Nat} (h : i + 1 < w.size) : byA (tail w) i = byA w (i + 1) := by
  unfold byA
  rw [ext_data, List.getD_eq_getElem?_getD, List.getElem?_take, if_pos (by omega), List.getElem?_drop, List.getD_eq_getElem?_getD, Nat.add_comm 1 i]
theorem selT_word {w : ByteArray} : ∀ i, i + 1 ≤ w.size → selT (tail w) i = wordT w (i + 1)
  | 0, _ => by
    rw [wordT, if_pos (show skipT w 0 = true from rfl)]; rfl
  | i + 1, h => by
    have h1 := selT_word (w := w) i (by omega)
    have h2 := tail_by (w := w) (i := i) (by omega)
    have h3 := tail_size w
    have h4 : barA (tail w) i = skipT w (i + 1) := by
      unfold barA skipT
      rw [h2, decide_eq_false (show ¬ i + 1 = 0 by omega), Bool.false_or]
    rw [selT, wordT, h4, h1, t1_eq (by omega), t1_eq (s := w) (by omega), h2]
theorem wordR_eq (l : List Rel) (p : ByteArray) : ∀ k, wordR l p (k + 1) = relIx l (p.extract 0 1)
  | 0 => by rw [wordR, if_pos rfl]
  | k + 1 => by rw [wordR, if_neg (by omega), wordR_eq l p k]
theorem wok_of {w : ByteArray} (h : wok w = true) : 1 ≤ w.size ∧ okT (tail w) = true := by
  unfold wok at h
  rw [Bool.and_eq_true, Bool.not_eq_true', decide_eq_false_iff_not] at h
  refine ⟨?_, h.2⟩
  rcases Nat.lt_or_ge 0 w.size with h1 | h1
  · exact h1
  · refine absurd (bytes_eq ?_) h.1
    have : w.data.toList.length = 0 := by rw [← size_data]; omega
    exact List.length_eq_zero_iff.mp this
theorem trT_word {w : ByteArray} (h : wok w = true) : trT (tail w) = wordT w w.size := by
  obtain ⟨h1, h2⟩ := wok_of h
  unfold trT
  rw [if_pos h2, selT_word _ (by rw [tail_size]; omega), tail_size, show w.size - 1 + 1 = w.size by omega]
theorem wordA_eq {l : List Rel} {w : ByteArray} (h : wok w = true) : wordA l w = wat l w := by
  have h1 := (wok_of h).1
  unfold wordA wat
  rw [trT_word h, show w.size = (w.size - 1) + 1 by omega, wordR_eq]
theorem free_eq {a : ByteArray} (hb : ¬ hasB a 124) : ∀ i, i ≤ a.size → selT a i = freeT a i
  | 0, _ => rfl
  | i + 1, h => by
    have h1 : barA a i = false := decide_eq_false (byA_ne (c := 124) hb (by omega))
    rw [selT, freeT, h1, free_eq hb i (by omega)]; rfl
/-! #### the number of variables -/
def gT (m t : Int) : Int := if t + 1 > m then t + 1 else m
theorem gT_max (m t : Int) : gT m t = max m (t + 1) := by unfold gT; split <;> omega
theorem wordV_fold (p : ByteArray) (m : Int) : ∀ k, wordV p m k = (wordT p k).foldl gT m
  | 0 => rfl
  | k + 1 => by
    have h := wordV_fold p m k
    rw [wordV, wordT]
    split
    · exact h
    · rw [List.foldl_append, ← h]; rfl
theorem max_fold (m : Int) : ∀ (r : List Int) (x : Int), r.foldl gT (max m (x + 1)) = max m (r.foldl max x + 1)
  | [], x => rfl
  | t :: r, x => by
    rw [List.foldl_cons, List.foldl_cons, gT_max, ← max_fold m r (max x t)]
    congr 1
    omega
theorem newV_fold {m : Int} (hm : 0 ≤ m) : ∀ (ts : List Int), newV m (Lib.maxOf (ts ++ [-1])) = ts.foldl gT m
  | [] => by
    show max m ((-1 : Int) + 1) = m
    omega
  | t :: r => by
    have e : Lib.maxOf (t :: r ++ [-1]) = max (r.foldl max t) (-1) := by
      show List.foldl max t (t :: (r ++ [-1])) = _
      rw [List.foldl_cons, List.foldl_append, show max t t = t from Int.max_self t]; rfl
    rw [e, List.foldl_cons, gT_max, max_fold]
    unfold newV
    omega
theorem allV_eq {ws : List ByteArray} (h : ∀ w ∈ ws, wok w = true) : ∀ i, i ≤ ws.length → allV ws i = vcI ws i
  | 0, _ => rfl
  | i + 1, hi => by
    have h1 := allV_eq h i (by omega)
    have h2 := h _ (mem_getD (⟨#[]⟩ : ByteArray) (show i < ws.length from hi))
    rw [allV, vcI, h1, wordV_fold]
    unfold mxT
    rw [newV_fold (vcI_bnd ws i).1, trT_word h2]
/-- What the two readings have alike. -/
theorem read_eq {l : List Rel} {a b : ByteArray} {ws : List ByteArray} (ha : ¬ hasB a 63) (ha2 : ¬ hasB a 124) (ho : okT a = true) (hb : ¬ hasB b 63) (hne : ws ≠ []) (hj : b = joinB ws (oneB 32)) (hw : ∀ w ∈ ws, ¬ hasB w 32) (hk : ∀ w ∈ ws, wok w = true) :
    (splS (a ++ oneB 63 ++ b) 63).length = 2 ∧ readQ l (a ++ oneB 63 ++ b) = impQ l a ws := by
  have h1 : splS (a ++ oneB 63 ++ b) 63 = [a, b] := by
    have := splS_cut (b := b) ha
    rw [splS_no hb] at this
    exact this
  have h2 : splS b 32 = ws := by rw [hj]; exact splS_join ws hne hw
  refine ⟨by rw [h1]; rfl, ?_⟩
  unfold readQ impQ
  rw [h1]
  show (⟨allV (splS b 32) (splS b 32).length, allA l (splS b 32) (splS b 32).length, freeT a a.size⟩ : Qu) = _
  rw [h2, allV_eq hk _ (Nat.le_refl _), ← free_eq ha2 _ (Nat.le_refl _)]
  unfold allA trT
  rw [List.take_length, if_pos ho]
  congr 1
  exact List.map_congr_left fun w hw => wordA_eq (hk w hw)
end Go.Proofs.YtedciihjgbkjgabGreatDoor.A


/- A QUERY READ: the program's contract. Conditions: none. -/
namespace Go.Proofs.YtedciihjgbkjgabGreatDoor.A
open Go
set_option linter.unusedSimpArgs false
set_option linter.unusedVariables false
set_option maxRecDepth 100000

/-! #### the signs in a query's text -/
def okC (c : UInt8) : Prop := (p1 c.toNat).2 = true ∧ c ≠ 63 ∧ c ≠ 32 ∧ c ≠ 124
theorem letT_ok : ∀ k : Fin 14, isT ((k.val : Int) - 10) = true ∧ (p1 (letT ((k.val : Int) - 10)).toNat).2 = true ∧ letT ((k.val : Int) - 10) ≠ 63 ∧ letT ((k.val : Int) - 10) ≠ 32 ∧ letT ((k.val : Int) - 10) ≠ 124 := by decide +kernel
theorem fmt_ok {t : Int} (h : -10 ≤ t ∧ t ≤ 3) : fmtT t = oneB (letT t) ∧ okC (letT t) := by
  have := letT_ok ⟨(t + 10).toNat, by omega⟩
  rw [show ((⟨(t + 10).toNat, by omega⟩ : Fin 14).val : Int) - 10 = t by show (((t + 10).toNat : Nat) : Int) - 10 = t; omega] at this
  refine ⟨?_, this.2⟩
  unfold fmtT
  rw [if_pos this.1]
theorem catT_cons (t : Int) : ∀ ts : List Int, catT (t :: ts) = fmtT t ++ catT ts
  | [] => by
    show joinB [fmtT t] noB = fmtT t ++ catT []
    rw [joinB_one, catT_nil, app_noB]
  | x :: r => by
    show joinB (fmtT t :: fmtT x :: r.map fmtT) noB = _
    rw [joinB_cc, app_noB]; rfl
theorem catT_ok : ∀ {ts : List Int}, (∀ t ∈ ts, -10 ≤ t ∧ t ≤ 3) → ∀ c ∈ (catT ts).data.toList, okC c
  | [], _, c, hc => by rw [catT_nil] at hc; cases hc
  | t :: ts, h, c, hc => by
    obtain ⟨h1, h2⟩ := fmt_ok (h t (by simp))
    rw [catT_cons, byt_app, h1] at hc
    rcases List.mem_append.mp hc with hc | hc
    · rw [List.mem_singleton.mp (show c ∈ [letT t] from hc)]; exact h2
    · exact catT_ok (fun x hx => h x (List.mem_cons_of_mem _ hx)) c hc
theorem barT_ok {ts : List Int} {n : Nat} (h : ∀ t ∈ ts, -10 ≤ t ∧ t ≤ 3) : ∀ c ∈ (barT ts n).data.toList, okC c ∨ c = 124 := by
  intro c hc
  unfold barT at hc
  split at hc
  · rw [byt_app, byt_app] at hc
    rcases List.mem_append.mp hc with hc | hc
    · exact .inl (catT_ok (fun t ht => h t (List.mem_of_mem_take ht)) c hc)
    · rcases List.mem_append.mp hc with hc | hc
      · exact .inr (List.mem_singleton.mp (show c ∈ [(124 : UInt8)] from hc))
      · exact .inl (catT_ok (fun t ht => h t (List.mem_of_mem_drop ht)) c hc)
  · exact .inl (catT_ok (fun t ht => h t (List.mem_of_mem_take ht)) c hc)
theorem tail_app {a b : ByteArray} (h : a.size = 1) : tail (a ++ b) = b := by
  apply byt_eq
  rw [ext_data, byt_app, size_data, byt_app]
  rw [size_data] at h
  rcases e : a.data.toList with _ | ⟨x, _ | ⟨_, _⟩⟩
  · rw [e] at h; simp at h
  · simp
    rw [size_data, List.take_length]
  · rw [e] at h; simp at h
/-- What a good query's texts are. -/
theorem text_ok {l : List Rel} {q : Qu} (g : goodQu l q = true) : ∀ w ∈ qTexts l q, wok w = true ∧ ¬ hasB w 63 ∧ ¬ hasB w 32 := by
  intro w hw
  obtain ⟨a, ha, rfl⟩ := List.mem_map.mp hw
  obtain ⟨i, hi, e⟩ := List.mem_iff_getElem.mp ha
  obtain ⟨n, k, G⟩ := goodAt_of g hi
  have e2 : q.atoms.getD i default = a := by simp [List.getD_eq_getElem?_getD, hi, e]
  rw [e2] at G
  have hname : ∃ c : UInt8, (l.getD n default).name = oneB c ∧ c ≠ 63 ∧ c ≠ 32 := by
    have g2 := g
    unfold goodQu goodRels at g2
    simp only [Bool.and_eq_true] at g2
    have h3 := upTo_at g2.1.1 G.hn
    unfold relOk goodRel at h3
    simp only [Bool.and_eq_true, decide_eq_true_eq] at h3
    have h4 := h3.1.2.1
    have hb := byt_one G.sn
    refine ⟨_, hb, ?_, ?_⟩
    · rintro e
      have : n0 (l.getD n default) = 63 := by
        unfold n0
        show ((chr0 (l.getD n default).name).toNat : Int) = 63
        rw [e]; rfl
      omega
    · rintro e
      have : n0 (l.getD n default) = 32 := by
        unfold n0
        show ((chr0 (l.getD n default).name).toNat : Int) = 32
        rw [e]; rfl
      omega
  obtain ⟨c, hc, hc1, hc2⟩ := hname
  have hB := barT_ok (n := k) G.ht
  have hT : atomText l a = oneB c ++ barT a.l k := by
    unfold atomText
    rw [G.r, Int.toNat_natCast, G.kl, Int.toNat_natCast, hc]
  rw [hT]
  have hmem : ∀ x ∈ (oneB c ++ barT a.l k).data.toList, x ≠ 63 ∧ x ≠ 32 := by
    intro x hx
    rw [byt_app] at hx
    rcases List.mem_append.mp hx with hx | hx
    · rw [List.mem_singleton.mp (show x ∈ [c] from hx)]; exact ⟨hc1, hc2⟩
    · rcases hB x hx with h | h
      · exact ⟨h.2.1, h.2.2.1⟩
      · rw [h]; decide
  refine ⟨?_, fun h => (hmem _ h).1 rfl, fun h => (hmem _ h).2 rfl⟩
  unfold wok
  rw [Bool.and_eq_true, Bool.not_eq_true', decide_eq_false_iff_not]
  refine ⟨fun e => ?_, ?_⟩
  · have := congrArg ByteArray.size e
    rw [app_size] at this
    have h1 : (oneB c).size = 1 := rfl
    have h2 : (⟨#[]⟩ : ByteArray).size = 0 := rfl
    omega
  · show okT (tail (oneB c ++ barT a.l k)) = true
    rw [tail_app rfl]
    refine okT_of fun x hx => ?_
    rcases hB x hx with h | h
    · exact .inl h.1
    · exact .inr h
theorem join_no {c : UInt8} {x : UInt8} (hx : x ≠ c) : ∀ (ws : List ByteArray), (∀ w ∈ ws, ¬ hasB w c) → ¬ hasB (joinB ws (oneB x)) c
  | [], _ => by rw [joinB_nil]; intro h; cases h
  | [w], h => by rw [joinB_one]; exact h w (by simp)
  | w :: y :: r, h => by
    rw [joinB_cc]
    unfold hasB
    rw [byt_app, byt_app]
    intro hm
    rcases List.mem_append.mp hm with hm | hm
    · rcases List.mem_append.mp hm with hm | hm
      · exact h w (by simp) hm
      · exact hx (List.mem_singleton.mp (show c ∈ [x] from hm)).symm
    · exact join_no hx (y :: r) (fun z hz => h z (List.mem_cons_of_mem _ hz)) hm
/-- A good query's text, cut. -/
theorem quText_cut {l : List Rel} {q : Qu} {a b : ByteArray} (ha : ¬ hasB a 63) (h : quText l q = a ++ oneB 63 ++ b) :
    goodQu l q = true ∧ b = joinB (qTexts l q) (oneB 32) ∧ ¬ hasB a 124 ∧ okT a = true ∧ ¬ hasB b 63 ∧ q.atoms ≠ [] := by
  rcases g : goodQu l q
  · unfold quText at h
    rw [g] at h
    have := congrArg ByteArray.size h
    rw [cut3_size] at this
    have h2 : noB.size = 0 := rfl
    simp only [Bool.false_eq_true, if_false] at this
    omega
  unfold quText at h
  rw [g, if_pos rfl] at h
  have hf := catT_ok (goodFree g)
  have hno : ¬ hasB (catT q.free) 63 := fun hm => (hf _ hm).2.1 rfl
  obtain ⟨h1, h2⟩ := cut_uniq hno ha h
  subst h1
  refine ⟨rfl, h2.symm, fun hm => (hf _ hm).2.2.2 rfl, okT_of fun c hc => .inl (hf c hc).1, ?_, ?_⟩
  · rw [← h2]
    exact join_no (by decide) _ fun w hw => (text_ok g w hw).2.1
  · have := (goodQu_parts g).2.1
    intro e
    rw [e] at this
    simp at this
theorem texts_ne {l : List Rel} {q : Qu} (h : q.atoms ≠ []) : qTexts l q ≠ [] := by
  unfold qTexts atTs
  simpa using h
/-- THE TWO READINGS AGREE. -/
theorem readings {l : List Rel} {a b : ByteArray} {ws : List ByteArray} (ha : ¬ hasB a 63) (hw : (b = noB ∧ ws = []) ∨ (ws ≠ [] ∧ b = joinB ws (oneB 32) ∧ ∀ w ∈ ws, ¬ hasB w 32)) :
    okI l (a ++ oneB 63 ++ b) a ws = okQ l (a ++ oneB 63 ++ b) ∧ (okI l (a ++ oneB 63 ++ b) a ws = true → readQ l (a ++ oneB 63 ++ b) = impQ l a ws) := by
  have k1 : okI l (a ++ oneB 63 ++ b) a ws = true → okQ l (a ++ oneB 63 ++ b) = true ∧ readQ l (a ++ oneB 63 ++ b) = impQ l a ws := by
    intro h
    unfold okI at h
    simp only [Bool.and_eq_true, decide_eq_true_eq, List.all_eq_true] at h
    obtain ⟨h1, h2, h3⟩ := h
    obtain ⟨g1, g2, g3, g4, g5, g6⟩ := quText_cut ha h3
    have hne : ws ≠ [] := by
      intro e
      refine g6 ?_
      show ws.map (wat l) = []
      rw [e]; rfl
    obtain ⟨-, e⟩ | ⟨-, hj, hn⟩ := hw
    · exact absurd e hne
    obtain ⟨r1, r2⟩ := read_eq (l := l) ha g3 h1 g5 hne hj hn h2
    refine ⟨?_, r2⟩
    unfold okQ
    rw [r2, decide_eq_true r1, decide_eq_true h3]; rfl
  have k2 : okQ l (a ++ oneB 63 ++ b) = true → okI l (a ++ oneB 63 ++ b) a ws = true := by
    intro h
    unfold okQ at h
    simp only [Bool.and_eq_true, decide_eq_true_eq] at h
    obtain ⟨h1, h3⟩ := h
    obtain ⟨g1, g2, g3, g4, g5, g6⟩ := quText_cut ha h3
    have ht := text_ok g1
    have hne : ws ≠ [] := by
      intro e
      obtain ⟨e1, -⟩ | ⟨e1, -⟩ := hw
      · have h5 := splS_join (c := 32) (qTexts l (readQ l (a ++ oneB 63 ++ b))) (texts_ne g6) (fun w hw => (ht w hw).2.2)
        rw [← g2] at h5
        have h9 : splS b (32 : UInt8).toNat = [b] := splS_no (by rw [e1]; intro hm; cases hm)
        have h10 := h9.symm.trans h5
        have h6 := (ht b (by rw [← h10]; simp)).1
        have := (wok_of h6).1
        have h7 : b.size = 0 := by rw [e1]; rfl
        omega
      · exact e1 e
    obtain ⟨-, e⟩ | ⟨-, hj, hn⟩ := hw
    · exact absurd e hne
    have hws : ws = qTexts l (readQ l (a ++ oneB 63 ++ b)) := by
      have e1 := splS_join (c := 32) ws hne hn
      have e2 := splS_join (c := 32) (qTexts l (readQ l (a ++ oneB 63 ++ b))) (texts_ne g6) (fun w hw => (ht w hw).2.2)
      rw [← hj, g2, e2] at e1
      exact e1.symm
    have hk : ∀ w ∈ ws, wok w = true := fun w hw => (ht w (by rw [← hws]; exact hw)).1
    obtain ⟨r1, r2⟩ := read_eq (l := l) ha g3 g4 g5 hne hj hn hk
    unfold okI
    rw [← r2, decide_eq_true h3, g4, List.all_eq_true.mpr hk]; rfl
  refine ⟨?_, fun h => (k1 h).2⟩
  rcases e1 : okI l (a ++ oneB 63 ++ b) a ws <;> rcases e2 : okQ l (a ++ oneB 63 ++ b)
  · rfl
  · rw [k2 e2] at e1; cases e1
  · rw [(k1 e1).1] at e2; cases e2
  · rfl
theorem implParseQuery_sat (l : List Rel) (s : ByteArray) (hl : l.length ≤ 9223372036854775807) (h : s.size ≤ 1048576) : Sat Tryz.prog 20 [lRels l, lStr s] [oQu (parQ l s), lBool (okQ l s)] [g1, g1] := by
  by_cases hb : hasB s 63
  case neg =>
    have e : okQ l s = false := by
      unfold okQ
      rw [show splS s 63 = [s] from splS_no hb]; rfl
    unfold parQ
    rw [e]
    exact implParse_no l s hl h hb
  obtain ⟨a, b, rfl, ha⟩ := first_B hb
  have hz := cut3_size a b 63
  have key : ∀ ws : List ByteArray, ((b = noB ∧ ws = []) ∨ (ws ≠ [] ∧ b = joinB ws (oneB 32) ∧ ∀ w ∈ ws, ¬ hasB w 32)) → Sat Tryz.prog 56 [lStr b] [.one (.ow 1 (txs ws))] [g1] → ws.length ≤ 1048576 → (∀ w ∈ ws, w.size ≤ 1048576) →
      Sat Tryz.prog 20 [lRels l, lStr (a ++ oneB 63 ++ b)] [oQu (parQ l (a ++ oneB 63 ++ b)), lBool (okQ l (a ++ oneB 63 ++ b))] [g1, g1] := by
    intro ws hw hs hwl hwm
    have h1 := implParse_yes l a b ws hl ha h hs hwl hwm
    obtain ⟨r1, r2⟩ := readings (l := l) ha hw
    have e : (if okI l (a ++ oneB 63 ++ b) a ws then impQ l a ws else noQ) = parQ l (a ++ oneB 63 ++ b) := by
      unfold parQ
      rw [← r1]
      split
      · rename_i hh; rw [r2 hh]
      · rfl
    rw [e, r1] at h1
    exact h1
  by_cases h0 : b = noB
  · subst h0
    exact key [] (.inl ⟨rfl, rfl⟩) implWords_none (by simp) (by intro w hw; cases hw)
  · obtain ⟨ws, h1, h2, h3⟩ := words_of 32 b.size b (Nat.le_refl _)
    have hbz : 0 < b.size := by
      rcases Nat.lt_or_ge 0 b.size with h | h
      · exact h
      · refine absurd (bytes_eq ?_) h0
        have : b.data.toList.length = 0 := by rw [← size_data]; omega
        exact List.length_eq_zero_iff.mp this
    have h4 := words_size 32 ws
    have hs := implWords_sat ws h3 (by rw [← h2]; exact hbz) (by rw [← h2]; omega)
    rw [← h2] at hs h4
    refine key ws (.inr ⟨h1, h2, h3⟩) hs (by omega) fun w hw => ?_
    have e := splS_join (c := 32) ws h1 h3
    rw [← h2] at e
    have := splS_mem b 32 w (by rw [show splS b 32 = ws from e]; exact hw)
    omega
end Go.Proofs.YtedciihjgbkjgabGreatDoor.A


/- CONFLICT EDGES: size, copy, comparison, marks; marks of databases. Conditions: none. -/
namespace Go.Proofs.YtedciihjgbkjgabGreatDoor.A
open Go
set_option linter.unusedSimpArgs false
set_option linter.unusedVariables false
set_option maxRecDepth 100000

def szEds (a : List Edge) (n : Int) : Int := if n - a.length < 0 then -1 else n - a.length
theorem szEds_ok : SzOk szEds (fun a => a.length ≤ 1048576) := by
  intro a n h
  unfold szEds
  split
  · exact ⟨by omega, fun h => absurd (by omega) h⟩
  · exact ⟨by omega, fun h => by omega⟩
def cntE : Int → Nat → List Edge
  | _, 0 => []
  | k, n + 1 => ⟨k, k + 1⟩ :: cntE (k + 2) n
theorem cntE_length : ∀ (k : Int) (n : Nat), (cntE k n).length = n
  | _, 0 => rfl
  | k, n + 1 => by rw [cntE, List.length_cons, cntE_length]
theorem cntE_get : ∀ {k : Int} {n i : Nat}, i < n → (cntE k n).getD i default = ⟨k + ((2 * i : Nat) : Int), k + ((2 * i : Nat) : Int) + 1⟩
  | k, n + 1, 0, _ => by simp [cntE]
  | k, n + 1, i + 1, h => by
    rw [cntE, List.getD_cons_succ, cntE_get (by omega), show k + 2 + ((2 * i : Nat) : Int) = k + ((2 * (i + 1) : Nat) : Int) by omega]
theorem cntE_full (k : Int) (n : Nat) : List.take n (cntE k n) = cntE k n := List.take_of_length_le (by rw [cntE_length]; omega)
attribute [go_sem] cntE_full
def numDb (d : Db) : Nat := 3 * d.rels.length + numRI d.facts
theorem numDb_ok {d : Db} (h : d.ok) : numDb d ≤ 1048577 * 1048577 + 3 * 1048576 := by
  have h1 := numRI_ok h.2.2
  have h2 := h.1.1
  have h3 := h.2.1
  unfold numDb
  have : d.facts.length * 1048577 ≤ 1048576 * 1048577 := Nat.mul_le_mul_right _ h3
  omega
end Go.Proofs.YtedciihjgbkjgabGreatDoor.A


/- THE WALK OF THE LAW OF ParseQuery. Conditions: none. -/
namespace Go.Proofs.YtedciihjgbkjgabGreatDoor.A
open Go
set_option linter.unusedSimpArgs false
set_option linter.unusedVariables false
set_option maxRecDepth 100000
theorem markQuR_vc (q : Qu) (k : Int) : (markQu q k).vc = q.vc := rfl
theorem markQuR_at (q : Qu) (k : Int) : (markQu q k).atoms = markRI q.atoms k := rfl
theorem markQuR_fr (q : Qu) (k : Int) : (markQu q k).free = cnt (k + numRI q.atoms) q.free.length := rfl
theorem markRIR_full (a : List RI) (k : Int) : List.take a.length (markRI a k) = markRI a k := List.take_of_length_le (by rw [markRI_length]; omega)
attribute [go_sem] markQuR_vc markQuR_at markQuR_fr markRIR_full
theorem parQ_ok {l : List Rel} {s : ByteArray} (h : s.size ≤ 1048576) : (parQ l s).ok := by
  unfold parQ
  split
  · exact readQ_ok h
  · exact ⟨⟨by decide, fun x hx => by cases hx⟩, by decide⟩
theorem qu_fit {q : Qu} (h : q.ok) : q.fit := by
  obtain ⟨⟨h1, h2⟩, h3⟩ := h
  refine ⟨⟨by omega, fun x hx => ?_⟩, by omega⟩
  have := h2 x hx
  unfold RI.ok at this
  unfold RI.fit
  omega
set_option maxHeartbeats 8000000 in
/-- THE LAW OF ParseQuery. -/
theorem lawParseQuery_sat (a0 : List Rel) (a1 : ByteArray) (h0 : a0.length ≤ 9223372036854775807 ∧ ∀ x ∈ a0, x.fit) (h1 : a1.size ≤ 9223372036854775807) : Sat Tryz.prog 4 [lRels a0, lStr a1] [lBool true] [g1, g1] := by
  refine sat_of_body mixed Tryz.func4 rfl (by kernel_rfl) (by kernel_rfl) (rs := [.tmp 4]) rfl rfl rfl ?_
  simp -implicitDefEqProofs (maxSteps := 2000000) only [go_sem]
  refine cond_split (fun e1 => ?_) fun e1 => ?_
  · simp -implicitDefEqProofs (maxSteps := 2000000) only [go_sem]
  have o1 : a1.size ≤ 1048576 := by have := of_decide_eq_false e1; omega
  simp -implicitDefEqProofs (maxSteps := 2000000) only [go_sem]
  have z0 := szAll_ok szRel_ok a0 1048576 (by omega)
  refine call_of (szRelationS_sat a0 1048576 (by omega) h0.1 h0.2) (by simp -implicitDefEqProofs (maxSteps := 2000000) only [go_sem]) (by kernel_rfl) (by simp -implicitDefEqProofs (maxSteps := 2000000) only [go_sem]) ?_
  simp -implicitDefEqProofs (maxSteps := 2000000) only [go_sem]
  first | (with_reducible refine tr_and ?_ ?_; focus kernel_rfl) | (with_reducible refine tr_only ?_; kernel_rfl) | skip
  refine cond_split (fun c0 => ?_) fun c0 => ?_
  · simp -implicitDefEqProofs (maxSteps := 2000000) only [go_sem]
  have o0 := z0.2 (of_decide_eq_false c0)
  simp -implicitDefEqProofs (maxSteps := 2000000) only [go_sem]
  refine call_of (toRelationS_sat a0 o0.1) (by simp -implicitDefEqProofs (maxSteps := 2000000) only [go_sem]) (by kernel_rfl) (by simp -implicitDefEqProofs (maxSteps := 2000000) only [go_sem]) ?_
  simp -implicitDefEqProofs (maxSteps := 2000000) only [go_sem]
  first | (with_reducible refine tr_and ?_ ?_; focus kernel_rfl) | (with_reducible refine tr_only ?_; kernel_rfl) | skip
  refine call_of (specParseQuery_sat a0 a1 h0.1 o1) (by simp -implicitDefEqProofs (maxSteps := 2000000) only [go_sem]) (callOk_still (by kernel_rfl) (by simp only [List.all_cons, List.all_nil, LV.still, LV.leaves, Leaf.still, ints_still, ris_still, eds_still, rels_still, iss_still, ems_still, Bool.and_self, Bool.and_true])) (by simp -implicitDefEqProofs (maxSteps := 2000000) only [go_sem]) ?_
  simp -implicitDefEqProofs (maxSteps := 2000000) only [go_sem]
  first | (with_reducible refine tr_and ?_ ?_; focus kernel_rfl) | (with_reducible refine tr_only ?_; kernel_rfl) | skip
  refine call_of (toRelationS_sat a0 o0.1) (by simp -implicitDefEqProofs (maxSteps := 2000000) only [go_sem]) (by kernel_rfl) (by simp -implicitDefEqProofs (maxSteps := 2000000) only [go_sem]) ?_
  simp -implicitDefEqProofs (maxSteps := 2000000) only [go_sem]
  first | (with_reducible refine tr_and ?_ ?_; focus kernel_rfl) | (with_reducible refine tr_only ?_; kernel_rfl) | skip
  refine call_of (implParseQuery_sat a0 a1 h0.1 o1) (by simp -implicitDefEqProofs (maxSteps := 2000000) only [go_sem]) (callOk_still (by kernel_rfl) (by simp only [List.all_cons, List.all_nil, LV.still, LV.leaves, Leaf.still, ints_still, ris_still, eds_still, rels_still, iss_still, ems_still, Bool.and_self, Bool.and_true])) (by simp -implicitDefEqProofs (maxSteps := 2000000) only [go_sem]) ?_
  simp -implicitDefEqProofs (maxSteps := 2000000) only [go_sem]
  first | (with_reducible refine tr_and ?_ ?_; focus kernel_rfl) | (with_reducible refine tr_only ?_; kernel_rfl) | skip
  have hv := qu_fit (parQ_ok (l := a0) o1)
  have nv := numQu_ok (parQ_ok (l := a0) o1)
  have n0 := o0.1
  refine call_of (eqQuery_sat (parQ a0 a1) (parQ a0 a1) hv) (by simp -implicitDefEqProofs (maxSteps := 2000000) only [go_sem]) (by kernel_rfl) (by simp -implicitDefEqProofs (maxSteps := 2000000) only [go_sem]) ?_
  simp -implicitDefEqProofs (maxSteps := 2000000) only [go_sem]
  first | (with_reducible refine tr_and ?_ ?_; focus kernel_rfl) | (with_reducible refine tr_only ?_; kernel_rfl) | skip
  refine call_of (toRelationS_sat a0 o0.1) (by simp -implicitDefEqProofs (maxSteps := 2000000) only [go_sem]) (by kernel_rfl) (by simp -implicitDefEqProofs (maxSteps := 2000000) only [go_sem]) ?_
  simp -implicitDefEqProofs (maxSteps := 2000000) only [go_sem]
  first | (with_reducible refine tr_and ?_ ?_; focus kernel_rfl) | (with_reducible refine tr_only ?_; kernel_rfl) | skip
  refine call_of (eqRelationS_sat a0 a0 h0.1) (by simp -implicitDefEqProofs (maxSteps := 2000000) only [go_sem]) (by kernel_rfl) (by simp -implicitDefEqProofs (maxSteps := 2000000) only [go_sem]) ?_
  simp -implicitDefEqProofs (maxSteps := 2000000) only [go_sem]
  first | (with_reducible refine tr_and ?_ ?_; focus kernel_rfl) | (with_reducible refine tr_only ?_; kernel_rfl) | skip
  refine call_of (markRelationS_sat a0 1 (by omega) h0.1) (by simp -implicitDefEqProofs (maxSteps := 2000000) only [go_sem]) (by kernel_rfl) (by simp -implicitDefEqProofs (maxSteps := 2000000) only [go_sem]) ?_
  simp -implicitDefEqProofs (maxSteps := 2000000) only [go_sem]
  first | (with_reducible refine tr_and ?_ ?_; focus kernel_rfl) | (with_reducible refine tr_only ?_; kernel_rfl) | skip
  rw [decide_eq_false (show ¬ (1 + ((3 * a0.length : Nat) : Int) < 0) by omega)]
  simp -implicitDefEqProofs (maxSteps := 2000000) only [go_sem]
  refine call_of (eqQuery_sat (parQ a0 a1) (parQ a0 a1) hv) (by simp -implicitDefEqProofs (maxSteps := 2000000) only [go_sem]) (by kernel_rfl) (by simp -implicitDefEqProofs (maxSteps := 2000000) only [go_sem]) ?_
  simp -implicitDefEqProofs (maxSteps := 2000000) only [go_sem]
  first | (with_reducible refine tr_and ?_ ?_; focus kernel_rfl) | (with_reducible refine tr_only ?_; kernel_rfl) | skip
  refine call_of (markQuery_sat (parQ a0 a1) 1 (by omega) hv) (by simp -implicitDefEqProofs (maxSteps := 2000000) only [go_sem]) (by kernel_rfl) (by simp -implicitDefEqProofs (maxSteps := 2000000) only [go_sem]) ?_
  simp -implicitDefEqProofs (maxSteps := 2000000) only [go_sem]
  first | (with_reducible refine tr_and ?_ ?_; focus kernel_rfl) | (with_reducible refine tr_only ?_; kernel_rfl) | skip
  refine call_of (heldQuery_sat (parQ a0 a1) 1 (by omega) hv) (by simp -implicitDefEqProofs (maxSteps := 2000000) only [go_sem]) (by kernel_rfl) (by simp -implicitDefEqProofs (maxSteps := 2000000) only [go_sem]) ?_
  simp -implicitDefEqProofs (maxSteps := 2000000) only [go_sem]
  first | (with_reducible refine tr_and ?_ ?_; focus kernel_rfl) | (with_reducible refine tr_only ?_; kernel_rfl) | skip
  rw [decide_eq_false (show ¬ (1 + ((numQu (parQ a0 a1) : Nat) : Int) < 0) by omega)]
  simp -implicitDefEqProofs (maxSteps := 2000000) only [go_sem]
  refine call_of (toRelationS_sat a0 o0.1) (by simp -implicitDefEqProofs (maxSteps := 2000000) only [go_sem]) (by kernel_rfl) (by simp -implicitDefEqProofs (maxSteps := 2000000) only [go_sem]) ?_
  simp -implicitDefEqProofs (maxSteps := 2000000) only [go_sem]
  first | (with_reducible refine tr_and ?_ ?_; focus kernel_rfl) | (with_reducible refine tr_only ?_; kernel_rfl) | skip
  refine call_of (implParseQuery_sat a0 a1 h0.1 o1) (by simp -implicitDefEqProofs (maxSteps := 2000000) only [go_sem]) (callOk_still (by kernel_rfl) (by simp only [List.all_cons, List.all_nil, LV.still, LV.leaves, Leaf.still, ints_still, ris_still, eds_still, rels_still, iss_still, ems_still, Bool.and_self, Bool.and_true])) (by simp -implicitDefEqProofs (maxSteps := 2000000) only [go_sem]) ?_
  simp -implicitDefEqProofs (maxSteps := 2000000) only [go_sem]
  first | (with_reducible refine tr_and ?_ ?_; focus kernel_rfl) | (with_reducible refine tr_only ?_; kernel_rfl) | skip
  refine call_of (eqQuery_sat (parQ a0 a1) (parQ a0 a1) hv) (by simp -implicitDefEqProofs (maxSteps := 2000000) only [go_sem]) (by kernel_rfl) (by simp -implicitDefEqProofs (maxSteps := 2000000) only [go_sem]) ?_
  simp -implicitDefEqProofs (maxSteps := 2000000) only [go_sem]
  first | (with_reducible refine tr_and ?_ ?_; focus kernel_rfl) | (with_reducible refine tr_only ?_; kernel_rfl) | skip
  refine call_of (heldQuery_sat (parQ a0 a1) 1 (by omega) hv) (by simp -implicitDefEqProofs (maxSteps := 2000000) only [go_sem]) (by kernel_rfl) (by simp -implicitDefEqProofs (maxSteps := 2000000) only [go_sem]) ?_
  simp -implicitDefEqProofs (maxSteps := 2000000) only [go_sem]
  first | (with_reducible refine tr_and ?_ ?_; focus kernel_rfl) | (with_reducible refine tr_only ?_; kernel_rfl) | skip
  rw [decide_eq_false (show ¬ (1 + ((numQu (parQ a0 a1) : Nat) : Int) < 0) by omega)]
  simp -implicitDefEqProofs (maxSteps := 2000000) only [go_sem]
end Go.Proofs.YtedciihjgbkjgabGreatDoor.A


/- THE LAW FnExactParseQuery: for every input it returns true, and the input reads as it did. Conditions: none. -/
namespace Go.Proofs.YtedciihjgbkjgabGreatDoor.lawParseQuery
open Go.ChangeShapes Go.WideShapes Go.ChangeAt Go.RowKit
open Go.Proofs.YtedciihjgbkjgabGreatDoor.A
set_option linter.unusedVariables false
theorem own : ownKnob Tryz.prog.godebug = none := by kernel_rfl
theorem laid : laidOutB Tryz.prog = true := by kernel_rfl
theorem rowed : mapsRowed Tryz.prog = true := by kernel_rfl
theorem full : ((List.range Tryz.prog.types.size).all fun t => match Tryz.prog.underlying t with | some (.slice e) => decide (0 < Tryz.prog.cellsOf e) | _ => true) = true := by kernel_rfl
set_option maxRecDepth 100000 in
theorem lifted (os : Os) (started : os.Started) (H : Type) (enc : TypeId × Value → H) :
    ReturnsInHanded {} Tryz.checked os 4 .any (fun w args => (Rows.fnExactParseQuerySpec.pre enc Tryz.prog Tryz.f4 Rows.fnExactParseQueryRow.domain false w args ∧ laidMetH Tryz.prog Rows.fnExactParseQueryRow.laid w) ∧ sizedMet enc Tryz.prog Tryz.f4 (OpenSpec.ofChange Rows.fnExactParseQuerySpec) false w args)
      (Rows.fnExactParseQuerySpec.post enc Tryz.prog Tryz.f4 false true false false) := by
  refine returnsInHanded_of_change_and (C := Tryz.checked) (X := fun w _ => laidMetH Tryz.prog Rows.fnExactParseQueryRow.laid w) (fun _ _ _ hh h => h.of_heap hh) own started (by kernel_rfl) Tryz.func4
    (ChangeSpec.witness_shaped (enc := enc) (C := Tryz.checked) (os := os) (X := fun w _ => laidMetH Tryz.prog Rows.fnExactParseQueryRow.laid w) false (World.laidAll Tryz.prog os Rows.fnExactParseQueryRow.laid) #[.slice none 0 0, .string ⟨#[]⟩] 8 (World.laidAll_os _ _ _)
      (World.shaped_of_ZipB (by kernel_rfl) (by kernel_rfl)) (by kernel_rfl) (by kernel_rfl) (by kernel_rfl)
      (by rw [MakeChecks.laidMetH_plain _ _ _ (by kernel_rfl)]; exact laidMet_laidAll _ (by kernel_rfl) (by kernel_rfl))) ?_
  intro W base args ds gs before hval hW _ _ _ _
  obtain ⟨p, q, hA, hV, hpq, _⟩ := id hW
  rw [Tryz.params4] at hA hval
  obtain ⟨v0, vs0, d0, ds0, p0, q0, e0, rfl, rfl, h0, r0⟩ := trodAll_cons hA
  obtain ⟨v1, vs1, d1, ds1, p1, q1, e1, rfl, rfl, h1, r1⟩ := trodAll_cons r0
  subst e1
  obtain ⟨rfl, rfl, rfl⟩ := trodAll_nil r1
  obtain ⟨rfl, _⟩ := trodVars_none hV
  obtain rfl : args = #[v0, v1] := by cases args; simp_all
  have rI := readsC_int (enc := enc) (W := W) und3
  have rS := readsC_str (enc := enc) (W := W) und9
  have rR : ReadsC enc Tryz.prog W 83 cRel Rel.fit := readsC_map (readsC_three Tryz.underlying83 (by kernel_rfl) (by kernel_rfl) rS rI rI) (fun x => ⟨x.1, x.2.1, x.2.2⟩) (fun _ => rfl) (fun _ h => h.1)
  have lRs := readsL_rows (w := 3) rR und46 (by kernel_rfl) (by omega) (fun _ => rfl) rels (fun _ => rfl)
  obtain ⟨a0, g0, l0⟩ := arg_one lRs (okWide_slice_ne und46 (hval 0 _ v0 rfl rfl)) h0
  obtain ⟨a1, rfl, g1⟩ := Go.ChangeMaps.open_string und9 (hval 1 _ v1 rfl rfl) h1
  exact law_calls laid rowed full Tryz.func4 rfl (by kernel_rfl) rfl rfl (by kernel_rfl) rfl und4 hW (lawParseQuery_sat a0 a1 g0 (Nat.le_trans g1.2.2 (by decide))) ⟨l0 _, rfl, trivial⟩ rfl rfl rfl
theorem over : Rows.fnExactParseQueryRow.holds Tryz.pinned (OpenSpec.ofChange Rows.fnExactParseQuerySpec) :=
  OpenClaim.holds_of_wide 4 Tryz.f4 rfl rfl rfl rfl rfl rfl rfl ⟨rfl, rfl, rfl, rfl, rfl⟩ rfl rfl rfl rfl rfl (by kernel_rfl) Tryz.func4 (by kernel_rfl)
    (of_decide_eq_true (by kernel_rfl)) (by unfold Func.isWrapper; first | (rw [if_pos (by decide +kernel)]; kernel_rfl) | (rw [if_neg (by decide +kernel)]; exact ⟨rfl, rfl⟩))
    (fun os started H enc _ => lifted os started H enc)
end Go.Proofs.YtedciihjgbkjgabGreatDoor.lawParseQuery
namespace Go.Proofs.YtedciihjgbkjgabGreatDoor
/-- The card. -/
theorem fnExactParseQuery_holds : Rows.FnExactParseQueryCardSaid :=
  Claim7.holds_tied_plain_at .later [] [.data, .data, .data, .data, .pinned] true (true, "5ff05c5738d009ee7e2eae950b9bf82769956d847d041028b8d83f87bb5b57bf") false lawParseQuery.over (fun _ h => by cases h) (by kernel_rfl) (fun _ h => by cases h) fnExactParseQuery_row_tie rfl ⟨rfl, rfl⟩ (by kernel_rfl) rfl
    (fun f fn hf hfn => by
      obtain rfl : f = 4 := Option.some.inj ((show Tryz.prog.funcNamed "loop.example/g01918/laws.FnExactParseQuery" = some 4 by kernel_rfl).symm.trans hf) |>.symm
      obtain rfl : fn = Tryz.f4 := (Option.some.inj (Tryz.func4.symm.trans hfn)).symm
      refine ⟨by kernel_rfl, fun j t ht => ?_⟩
      have hall : (Tryz.f4.params.all fun u => !Tryz.prog.wantsStandIn u) = true := by kernel_rfl
      have hm := Array.mem_of_getElem? ht
      exact (show Tryz.prog.wantsStandIn t = false by simpa using (Array.all_eq_true_iff_forall_mem.mp hall) t hm))
    (by kernel_rfl)
#print axioms fnExactParseQuery_holds
end Go.Proofs.YtedciihjgbkjgabGreatDoor
