/- THE LIBRARY'S SORT, COMPACT, CLONE AND GROW at numbers, as contracts of the abstract semantics. Conditions: none (the shelf's contracts are proved; this text carries them over). -/
import Derived.Test.YtedciihjgbkjgacGreatDoorA38
import Derived.Shelf.Sort.Plain
import Derived.Shelf.Slices.In.SortNone
import Derived.Shelf.Slices.CompactI
import Derived.Shelf.Slices.Clone
import Derived.Shelf.Spec.SlicesGrow
namespace Go.Proofs.YtedciihjgbkjgacGreatDoor.A
open Go Go.Sort
set_option linter.unusedSimpArgs false
set_option linter.unusedVariables false

abbrev nums (zs : List Int) : Rows := lift (zs.map (Value.int .i64))
theorem nums_length (zs : List Int) : (nums zs).length = zs.length := by simp [lift]
theorem nums_get {zs : List Int} {i : Nat} (h : i < zs.length) : (nums zs)[i]? = some [Cell.sc (.int .i64 (zs.getD i 0))] := by
  simp [lift, List.getD_eq_getElem?_getD, h]
theorem nums_rst (zs : List Int) : rst (nums zs) = nums zs := by simp [lift, rst, Cell.rst, Function.comp_def]
theorem putCells_get {zs : List Int} {c : Array Value} {k : Nat} (hk : k < zs.length) (hc : zs.length ≤ c.size) : (putCells (Value.int .i64) 0 zs.toArray c)[k]? = some (.int .i64 (zs.getD k 0)) := by
  have h : k < c.size := by omega
  simp [putCells, h, hk, List.getD_eq_getElem?_getD]

/-- What an own slice of numbers is. -/
theorem own_nums {W : World} {lab : Nat → Lab} {k : Nat} {zs : List Int} {v : Value} (h : OwnRep W lab k 1 (nums zs) v) :
    (zs = [] ∧ ∃ A, v = .slice A 0 0) ∨ ∃ (b cap : Nat) (c : Array Value) (t : TypeId), v = .slice (some ⟨b, 0, none⟩) zs.length cap ∧ zs.length ≤ cap ∧ lab b = .own k ∧ W.heap[b]? = some (.cells c t (0, 0)) ∧ c.size = cap ∧ b < W.heap.size ∧ Holds (Value.int .i64) W b 0 zs.toArray := by
  obtain ⟨hw, hrow, ⟨A, rfl, he⟩ | ⟨b, cap, c, t, rfl, hcap, hlab, hheap, hsize, hcell⟩⟩ := h
  · have := congrArg List.length he
    rw [nums_length] at this
    exact .inl ⟨List.length_eq_zero_iff.mp this, A, rfl⟩
  · rw [nums_length] at hcap ⊢
    refine .inr ⟨b, cap, c, t, rfl, hcap, hlab, hheap, by rw [hsize, Nat.mul_one], ?_, ?_⟩
    · rcases Nat.lt_or_ge b W.heap.size with h | h
      · exact h
      · rw [Array.getElem?_eq_none h] at hheap; cases hheap
    · intro j hj
      have hj' : j < zs.length := by simpa using hj
      constructor
      · obtain ⟨u, hu, hu', -⟩ := hcell j 0 _ (Cell.sc (.int .i64 (zs.getD j 0))) (nums_get hj') rfl
        subst hu'
        simp only [World.cell?, hheap, Nat.zero_add, Option.isSome_none, Bool.false_eq_true, if_false]
        rw [show j * 1 + 0 = j by omega] at hu
        rw [hu]
        simp [List.getD_eq_getElem?_getD, hj']
      · simp [World.frozen?, hheap]
theorem nums_own {W : World} {lab : Nat → Lab} {k b cap : Nat} {zs : List Int} {c : Array Value} {t : TypeId} (hcap : zs.length ≤ cap) (hlab : lab b = .own k) (hheap : W.heap[b]? = some (.cells c t (0, 0))) (hsize : c.size = cap)
    (hc : ∀ i, i < zs.length → c[i]? = some (.int .i64 (zs.getD i 0))) : LeafRep W lab k (.ow 1 (nums zs)) (.slice (some ⟨b, 0, none⟩) zs.length cap) := by
  refine ⟨⟨by omega, by simp [lift], .inr ⟨b, cap, c, t, by rw [nums_length], by rw [nums_length]; exact hcap, hlab, hheap, by rw [hsize, Nat.mul_one], ?_⟩⟩, nums_rst _⟩
  intro i j r x hr hx
  have hi : i < zs.length := by
    have := (List.getElem?_eq_some_iff.mp hr).1
    simpa [lift] using this
  rw [nums_get hi] at hr
  cases hr
  obtain rfl : j = 0 := by
    have := (List.getElem?_eq_some_iff.mp hx).1
    simpa using this
  cases hx
  exact ⟨_, by rw [Nat.mul_one, Nat.add_zero]; exact hc i hi, rfl, rfl⟩
theorem nums_own0 {W : World} {lab : Nat → Lab} {k : Nat} {A : Option Addr} : LeafRep W lab k (.ow 1 (nums [])) (.slice A 0 0) :=
  ⟨⟨by omega, by simp [lift], .inl ⟨A, rfl, by simp [lift]⟩⟩, nums_rst _⟩
theorem enters_plain {P : Program} {f : FuncId} {fn : Func} {c : Code} (hf : P.funcs[f]? = some fn) (hb : fn.body = some c) (hn : (fn.name == "runtime.NumGoroutine") = false) (vs : Array Value) (W : World) : (callFunc f vs).run P W = .ok (.enter f vs) W := by
  have h1 : fn.name ≠ "runtime.NumGoroutine" := by simpa using hn
  simp [callFunc, hf, h1, hb, Sem.run, program]
theorem one_of {W : World} {lab : Nat → Lab} {l : LV} {vs : List Value} (h : LVsRep W lab 0 [l] vs) : ∃ v, vs = [v] ∧ LVRep W lab 0 l v := by
  rcases vs with _ | ⟨v, _ | ⟨_, _⟩⟩
  · exact h.elim
  · exact ⟨v, rfl, h.1⟩
  · exact h.2.elim
/-- Labels behind a call: what is new is far. -/
def farLab (W W' : World) (lab : Nat → Lab) : Nat → Lab := fun k => if k < W.heap.size then lab k else if k < W'.heap.size then .far else .dead
theorem far_ext {W W' : World} {lab : Nat → Lab} {b : Nat} {L : Lab} {k : Nat} (ho : W'.os = W.os) (ht : W'.tape = W.tape) (hu : W'.output = W.output) (hs : W.heap.size ≤ W'.heap.size) (hb : b < W'.heap.size) (hl : b < W.heap.size → lab b = .own k) (h : ∀ k, k < W.heap.size → k ≠ b → W'.heap[k]? = W.heap[k]?) :
    Ext W lab W' (fun k => if k = b then L else farLab W W' lab k) := by
  refine ⟨ho, ht, hu, hs, fun i hi hli => ?_, fun i hi => ?_⟩
  · have hib : i ≠ b := by
      rintro rfl
      rw [hl hi] at hli
      rcases hli with h | h <;> cases h
    exact ⟨by simp [hib, farLab, hi], h i hi hib⟩
  · have hib : i ≠ b := by omega
    simp only [hib, if_false, farLab]
    rw [if_neg (by omega), if_neg (by omega)]

/-- A sort. -/
theorem sort_sat {P : Program} {f : FuncId} {fn : Func} {c : Code} (hf : P.funcs[f]? = some fn) (hb : fn.body = some c) (hn : (fn.name == "runtime.NumGoroutine") = false)
    (h1 : ∀ (blk off cap : Nat) (zs : List Int) (w : World), Holds (Value.int .i64) w blk off zs.toArray → blk < w.heap.size → zs.length < 4611686018427387904 →
      Calls P f #[.slice (some ⟨blk, off, none⟩) zs.length cap] w fun e w' => e = .returned (.tuple #[]) ∧ ∃ n os, w' = grow (putRow (Value.int .i64) (Sort.ahead w n) blk off (zs.mergeSort fun x y => decide (x ≤ y)).toArray) os)
    (h0 : ∀ (p : Option Addr) (cap : Nat) (w : World), Calls P f #[.slice p 0 cap] w fun e w' => e = .returned (.tuple #[]) ∧ w' = w)
    (zs : List Int) (hz : zs.length < 4611686018427387904) :
    Sat P f [.one (.ow 1 (nums zs))] [] [.one (.ow 1 (nums (zs.mergeSort fun x y => decide (x ≤ y))))] := by
  refine ⟨rfl, rfl, fun W lab vs hdead hrep => ?_⟩
  unfold CallF
  rw [enters_plain hf hb hn]
  simp only
  obtain ⟨v, rfl, hv, -⟩ := one_of hrep
  have hsl : (zs.mergeSort fun x y => decide (x ≤ y)).length = zs.length := List.length_mergeSort ..
  rcases own_nums hv with ⟨rfl, A, rfl⟩ | ⟨b, cap, c', t, rfl, hcap, hlab, hheap, hsize, hb', hH⟩
  · refine (h0 A 0 W).mono ?_
    rintro e w' ⟨rfl, rfl⟩
    exact ⟨_, rfl, lab, ⟨#[], rfl, trivial⟩, ⟨by rw [List.mergeSort_nil]; exact nums_own0, trivial⟩, ⟨rfl, rfl, rfl, Nat.le_refl _, fun _ _ _ => ⟨rfl, rfl⟩, hdead⟩⟩
  · refine (h1 b 0 cap zs W hH hb' hz).mono ?_
    rintro e w' ⟨rfl, n, os, hw'⟩
    have hheap' : ∀ k, k < W.heap.size → k ≠ b → w'.heap[k]? = W.heap[k]? := by
      intro k hk hkb
      rw [hw']
      simp only [grow, putRow, mapBlock, Sort.ahead]
      rw [Array.getElem?_append_left (by simpa using hk), Array.getElem?_modify, if_neg (fun h => hkb h.symm)]
    have hheapb : w'.heap[b]? = some (.cells (putCells (Value.int .i64) 0 (zs.mergeSort fun x y => decide (x ≤ y)).toArray c') t (0, 0)) := by
      rw [hw']
      simp only [grow, putRow, mapBlock, Sort.ahead]
      rw [Array.getElem?_append_left (by simpa using hb'), Array.getElem?_modify, if_pos rfl, hheap]
      rfl
    have hsz' : w'.heap.size = W.heap.size + os.size := by rw [hw']; simp [grow, putRow, mapBlock, Sort.ahead]
    refine ⟨_, rfl, fun k => if k = b then .own 0 else farLab W w' lab k, ⟨#[], rfl, trivial⟩, ⟨?_, trivial⟩, far_ext (k := 0) (by rw [hw']; rfl) (by rw [hw']; rfl) (by rw [hw']; rfl) (by omega) (by omega) (fun _ => hlab) hheap'⟩
    have h2 := nums_own (W := w') (lab := fun k => if k = b then .own 0 else farLab W w' lab k) (k := 0) (b := b) (cap := cap) (zs := zs.mergeSort fun x y => decide (x ≤ y)) (by rw [hsl]; exact hcap) (by simp) hheapb (by simpa [putCells] using hsize) (fun i hi => putCells_get hi (by rw [hsl, hsize]; exact hcap))
    rw [hsl] at h2
    exact h2

theorem compact_len (zs : List Int) : (Lib.compact zs).length ≤ zs.length := by
  unfold Lib.compact Lib.compactUpTo
  rw [List.length_map]
  exact Nat.le_trans (List.length_filter_le _ _) (by rw [List.length_range]; exact Nat.le_refl _)
/-- What is left of runs of the same number. -/
theorem compact_sat {P : Program} {f : FuncId} {fn : Func} {c : Code} (hf : P.funcs[f]? = some fn) (hb : fn.body = some c) (hn : (fn.name == "runtime.NumGoroutine") = false)
    (h1 : ∀ (blk off cap : Nat) (zs : List Int) (w : World), Holds (Value.int .i64) w blk off zs.toArray → zs.length ≤ 9223372036854775807 → zs.length ≤ cap →
      Calls P f #[.slice (some ⟨blk, off, none⟩) zs.length cap] w fun e w' => e = .returned (.slice (some ⟨blk, off, none⟩) (Lib.compact zs).length cap) ∧ ∃ q, w' = putRow (Value.int .i64) (Sort.ahead w q) blk off (Lib.compact zs ++ List.replicate (zs.length - (Lib.compact zs).length) 0).toArray)
    (h0 : ∀ (p : Option Addr) (cap : Nat) (w : World), Calls P f #[.slice p 0 cap] w fun e w' => e = .returned (.slice p 0 cap) ∧ w' = w)
    (zs : List Int) (hz : zs.length ≤ 9223372036854775807) :
    Sat P f [.one (.ow 1 (nums zs))] [.one (.ow 1 (nums (Lib.compact zs)))] [.one .gone] := by
  refine ⟨rfl, rfl, fun W lab vs hdead hrep => ?_⟩
  unfold CallF
  rw [enters_plain hf hb hn]
  simp only
  obtain ⟨v, rfl, hv, -⟩ := one_of hrep
  rcases own_nums hv with ⟨rfl, A, rfl⟩ | ⟨b, cap, c', t, rfl, hcap, hlab, hheap, hsize, hb', hH⟩
  · refine (h0 A 0 W).mono ?_
    rintro e w' ⟨rfl, rfl⟩
    exact ⟨_, rfl, lab, nums_own0, ⟨trivial, trivial⟩, ⟨rfl, rfl, rfl, Nat.le_refl _, fun _ _ _ => ⟨rfl, rfl⟩, hdead⟩⟩
  · have hsl := compact_len zs
    refine (h1 b 0 cap zs W hH hz hcap).mono ?_
    rintro e w' ⟨rfl, q, hw'⟩
    have hheap' : ∀ k, k < W.heap.size → k ≠ b → w'.heap[k]? = W.heap[k]? := by
      intro k hk hkb
      rw [hw']
      simp only [putRow, mapBlock, Sort.ahead]
      rw [Array.getElem?_modify, if_neg (fun h => hkb h.symm)]
    have hheapb : w'.heap[b]? = some (.cells (putCells (Value.int .i64) 0 (Lib.compact zs ++ List.replicate (zs.length - (Lib.compact zs).length) 0).toArray c') t (0, 0)) := by
      rw [hw']
      simp only [putRow, mapBlock, Sort.ahead]
      rw [Array.getElem?_modify, if_pos rfl, hheap]
      rfl
    have hsz' : w'.heap.size = W.heap.size := by rw [hw']; simp [putRow, mapBlock, Sort.ahead]
    refine ⟨_, rfl, fun k => if k = b then .own 4096 else farLab W w' lab k, ?_, ⟨trivial, trivial⟩, far_ext (k := 0) (by rw [hw']; rfl) (by rw [hw']; rfl) (by rw [hw']; rfl) (by omega) (by omega) (fun _ => hlab) hheap'⟩
    refine nums_own (W := w') (lab := fun k => if k = b then .own 4096 else farLab W w' lab k) (k := 4096) (b := b) (cap := cap) (zs := Lib.compact zs) (by omega) (by simp) hheapb (by simpa [putCells] using hsize) (fun i hi => ?_)
    rw [putCells_get (by simp; omega) (by simp; omega)]
    simp [List.getD_eq_getElem?_getD, List.getElem?_append_left hi]

/-- Room for numbers. -/
theorem grow_sat {P : Program} {f : FuncId} {fn : Func} {c : Code} {e : TypeId} (hf : P.funcs[f]? = some fn) (hb : fn.body = some c) (hn : (fn.name == "runtime.NumGoroutine") = false) (he : (P.info? e).map (fun i => (i.zero, i.size, i.bytes)) = some (some (Value.int .i64 0), 1, 8))
    (h0 : ∀ (base : Option Addr) (l c n : Nat) (w : World), l ≤ c → c ≤ 9223372036854775807 → n ≤ 9223372036854775807 → l + n ≤ c → Calls P f #[.slice base l c, .int .i64 n] w fun e w' => e = .returned (.slice base l c) ∧ w' = w)
    (h1 : ∀ (i0 : TypeInfo) (z : Value), P.info? e = some i0 → i0.zero = some z → 0 < i0.size → ∀ (base : Option Addr) (l c n : Nat) (cs : List Value) (w : World), l ≤ c → c < l + n → (l + n) * i0.bytes ≤ 140737488355328 → l + n ≤ 4611686018427387904 →
      cs.length = c * i0.size → (base = none → c = 0) → (∀ a, base = some a → ∀ j v, cs[j]? = some v → w.cell? (a.add j) = some v) →
      Calls P f #[.slice base l c, .int .i64 n] w fun e' w' => e' = .returned (.slice (some ⟨w.heap.size, 0, none⟩) l (grownCap w (l + n) c e)) ∧
        w' = w.drew.alloc (.cells (cs.toArray ++ Builtin.zeroCells z.cells (l + n - c) ++ Builtin.zeroCells z.cells (grownCap w (l + n) c e - (l + n))) e))
    (n : Nat) (hz : n * 8 ≤ 140737488355328) :
    Sat P f [.one (.sc (.slice none 0 0)), .one (.sc (.int .i64 n))] [.one (.ow 1 (nums []))] [.one .gone, .one .gone] := by
  refine ⟨rfl, rfl, fun W lab vs hdead hrep => ?_⟩
  unfold CallF
  rw [enters_plain hf hb hn]
  simp only
  obtain ⟨v, vs, rfl⟩ : ∃ v vs', vs = v :: vs' := by
    cases vs
    · exact hrep.elim
    · exact ⟨_, _, rfl⟩
  obtain ⟨hv, hrep⟩ := hrep
  obtain ⟨u, vs, rfl⟩ : ∃ v vs', vs = v :: vs' := by
    cases vs
    · exact hrep.elim
    · exact ⟨_, _, rfl⟩
  obtain ⟨hu, hrep⟩ := hrep
  obtain rfl : vs = [] := by
    cases vs
    · rfl
    · exact hrep.elim
  obtain rfl : v = .slice none 0 0 := hv
  obtain rfl : u = .int .i64 n := hu
  by_cases h0n : n = 0
  · subst h0n
    refine (h0 none 0 0 0 W (by omega) (by omega) (by omega) (by omega)).mono ?_
    rintro e w' ⟨rfl, rfl⟩
    exact ⟨_, rfl, lab, nums_own0, ⟨trivial, trivial, trivial⟩, ⟨rfl, rfl, rfl, Nat.le_refl _, fun _ _ _ => ⟨rfl, rfl⟩, hdead⟩⟩
  · obtain ⟨i0, hi0, hz0, hs0, hb0⟩ := info_parts he
    refine (h1 i0 _ hi0 hz0 (by omega) none 0 0 n [] W (by omega) (by omega) (by rw [hb0]; omega) (by omega) (by simp) (fun _ => rfl) (by intro a ha; cases ha)).mono ?_
    rintro e' w' ⟨rfl, hw'⟩
    have hsz' : w'.heap.size = W.heap.size + 1 := by rw [hw']; simp only [World.alloc, World.drew, Array.size_push]
    have hge := grownCap_ge W (0 + n) 0 e
    refine ⟨_, rfl, fun k => if k = W.heap.size then .own 4096 else farLab W w' lab k, ?_, ⟨trivial, trivial, trivial⟩, far_ext (k := 0) (by rw [hw']; rfl) (by rw [hw']; rfl) (by rw [hw']; rfl) (by omega) (by omega) (fun h => absurd h (by omega)) ?_⟩
    · refine nums_own (W := w') (lab := fun k => if k = W.heap.size then .own 4096 else farLab W w' lab k) (k := 4096) (b := W.heap.size) (cap := grownCap W (0 + n) 0 e) (zs := []) (by simp) (by simp) (by rw [hw']; simp only [World.alloc, World.drew]; exact Array.getElem?_push_size) ?_ (fun i hi => absurd hi (by simp))
      have h1 : (Value.int IntKind.i64 0).cells.size = 1 := rfl
      rw [Nat.zero_add] at hge ⊢
      simp [Builtin.zeroCells, h1]
      omega
    · intro k hk _
      rw [hw']
      simp only [World.alloc, World.drew]
      rw [Array.getElem?_push_lt hk, Array.getElem?_eq_getElem hk]

/-- A copy. -/
theorem clone_sat {P : Program} {f : FuncId} {fn : Func} {c : Code} {e : TypeId} (hf : P.funcs[f]? = some fn) (hb : fn.body = some c) (hn : (fn.name == "runtime.NumGoroutine") = false)
    (h1 : ∀ (b off n c : Nat) (zs : List Int) (w : World), n ≤ zs.length → n * 8 ≤ 140737488355328 → (∀ j, j < zs.length → w.cell? ⟨b, off + j, none⟩ = some (.int .i64 (zs.getD j 0))) →
      Calls P f #[.slice (some ⟨b, off, none⟩) n c] w fun e' w' => ∃ v', e' = .returned v' ∧ w'.ownsRow w.heap.size e 1 v' n ((zs.take n).map (Value.int .i64)) ∧ v' ≠ .slice none 0 0 ∧ RowKit.Below w.heap.size w w')
    (h0 : ∀ (n c : Nat) (w : World), Calls P f #[.slice none n c] w fun e w' => e = .returned (.slice none 0 0) ∧ w' = w)
    (hz0 : ∀ (a : Addr) (c : Nat) (w : World), Calls P f #[.slice (some a) 0 c] w fun e' w' => ∃ v', e' = .returned v' ∧ w'.ownsRow w.heap.size e 1 v' 0 [] ∧ v' ≠ .slice none 0 0 ∧ RowKit.Below w.heap.size w w')
    (zs : List Int) (hz : zs.length * 8 ≤ 140737488355328) :
    Sat P f [.one (.im 1 (nums zs))] [.one (.ow 1 (nums zs))] [.one .gone] := by
  refine ⟨rfl, rfl, fun W lab vs hdead hrep => ?_⟩
  unfold CallF
  rw [enters_plain hf hb hn]
  simp only
  obtain ⟨v, rfl, A, cap, rfl, hcap, hrow, hne⟩ := one_of hrep
  rw [nums_length]
  have key : ∀ (v' : Value) (w' : World), w'.ownsRow W.heap.size e 1 v' zs.length (zs.map (Value.int .i64)) → v' ≠ .slice none 0 0 → RowKit.Below W.heap.size W w' →
      ∃ v, Ending.returned v' = .returned v ∧ ∃ lab', ResRep w' lab' [.one (.ow 1 (nums zs))] v ∧ LVsRep w' lab' 0 [.one .gone] [.slice A zs.length cap] ∧ Ext W lab w' lab' := by
    intro v' w' hown hnn hbel
    obtain ⟨hl, ⟨h, -⟩ | ⟨g, cap', cur, rfl, hg, hheap, hn, hmax, hsz, htake⟩⟩ := hown
    · exact absurd h hnn
    have hg' : g < w'.heap.size := by
      rcases Nat.lt_or_ge g w'.heap.size with h | h
      · exact h
      · rw [Array.getElem?_eq_none h] at hheap; cases hheap
    refine ⟨_, rfl, fun k => if k = g then .own 4096 else farLab W w' lab k, ?_, ⟨trivial, trivial⟩, far_ext (k := 0) hbel.os hbel.tape hbel.output hbel.size hg' (fun h => absurd h (by omega)) (fun k hk _ => hbel.block k hk)⟩
    refine nums_own (W := w') (lab := fun k => if k = g then .own 4096 else farLab W w' lab k) (k := 4096) (b := g) (cap := cap') (zs := zs) hn (by simp) hheap (by rw [hsz, Nat.mul_one]) (fun i hi => ?_)
    have h2 : (cur.toList.take (zs.length * 1))[i]? = some (.int .i64 (zs.getD i 0)) := by
      rw [htake]; simp [List.getD_eq_getElem?_getD, hi]
    rw [List.getElem?_take_of_lt (by omega)] at h2
    simpa using h2
  rcases A with _ | a
  · obtain rfl : zs = [] := by
      rcases zs with _ | ⟨z, zs⟩
      · rfl
      · obtain ⟨_, b, o, h, _⟩ := hne (by simp [lift])
        cases h
    refine (h0 0 cap W).mono ?_
    rintro e w' ⟨rfl, rfl⟩
    exact ⟨_, rfl, lab, nums_own0, ⟨trivial, trivial⟩, ⟨rfl, rfl, rfl, Nat.le_refl _, fun _ _ _ => ⟨rfl, rfl⟩, hdead⟩⟩
  · by_cases hzn : zs = []
    · subst hzn
      refine (hz0 a cap W).mono ?_
      rintro e' w' ⟨v', rfl, hown, hnn, hbel⟩
      exact key v' w' hown hnn hbel
    · obtain ⟨hw0, b, o, ha, hlab, hrows⟩ := hne (by
        intro h
        apply hzn
        have := congrArg List.length h
        rw [nums_length] at this
        exact List.length_eq_zero_iff.mp this)
      cases ha
      refine (h1 b o zs.length cap zs W (Nat.le_refl _) hz ?_).mono ?_
      · intro j hj
        obtain ⟨u, hu, hu', -⟩ := hrows j _ (nums_get hj) 0 _ rfl
        rw [show o + j * 1 + 0 = o + j by omega] at hu
        rw [hu, hu']
      · rintro e' w' ⟨v', rfl, hown, hnn, hbel⟩
        rw [List.take_of_length_le (Nat.le_refl _)] at hown
        exact key v' w' hown hnn hbel
end Go.Proofs.YtedciihjgbkjgacGreatDoor.A
