
/- FACTS ARE SELECTED. Conditions: none. -/
import Derived.Test.YtbalifgacjmbpabGreatAFEm1
namespace Go.Proofs.YtbalifgacjmbpabGreat.A
open Go
set_option linter.unusedSimpArgs false
set_option linter.unusedVariables false
set_option maxRecDepth 100000

theorem l4Set_sat (d : Db) (l : List Int) (h : l.length ≤ 9223372036854775807) (hd : d.facts.length ≤ 14) : Sat Tryz.prog 87 [lDb d, lInts l] [lBool (idxs l d.facts.length)] [g2, g1] := by
  refine sat_of_body mixed Tryz.func87 rfl (by kernel_rfl) (by kernel_rfl) (rs := [.tmp 4]) rfl rfl rfl ?_
  unfold idxs
  have w0 : IntKind.i64.wrap ((d.facts.length : Int) - 1) = (d.facts.length : Int) - 1 := IntWalk.i64_in _ (by omega)
  obtain ⟨n, hn⟩ : ∃ n : Int, n = (d.facts.length : Int) := ⟨_, rfl⟩
  rw [← hn] at w0 ⊢
  simp -implicitDefEqProofs (maxSteps := 2000000) only [go_sem]
  refine awp_loop Nat (fun k => mkSt [(1, .one (.im 1 (ints l))), (2, .one (.vad 1000 0)), (5, .sc (.int .i64 k))] [(1000, sDb d)] [] 4000)
    (fun k => k ≤ l.length ∧ upTo (idxAt l n) k = true) (fun k => l.length - k) 0 ⟨by omega, rfl⟩ (le_st _ _ [] [] _ rfl (by simp -implicitDefEqProofs (maxSteps := 2000000) only [go_sem] <;> rfl) (by simp -implicitDefEqProofs (maxSteps := 2000000) only [go_sem] <;> rfl) (by simp -implicitDefEqProofs (maxSteps := 2000000) only [go_sem] <;> rfl)) ?_
  rintro k ⟨h1, h2⟩
  by_cases c1 : k < l.length
  · rcases d1 : inB (l.getD k 0) 0 (n - 1)
    · rw [upTo_false c1 (by rw [idxAt, d1]; rfl)]
      simp -implicitDefEqProofs (maxSteps := 2000000) only [go_sem, c1, ← hn, w0]
      refine call_of (inB_sat (l.getD k 0) 0 (n - 1)) (by simp -implicitDefEqProofs (maxSteps := 2000000) only [go_sem, d1, c1]) (by kernel_rfl) (by simp -implicitDefEqProofs (maxSteps := 2000000) only [go_sem, d1, c1]) ?_
      simp -implicitDefEqProofs (maxSteps := 2000000) only [go_sem, d1, c1]
      first | (with_reducible refine tr_and ?_ ?_; focus kernel_rfl) | (with_reducible refine tr_only ?_; kernel_rfl) | skip
      first | done | rfl | exact ⟨rfl, rfl⟩ | exact ⟨rfl, rfl, rfl⟩ | (refine tr_and ?_ ?_ <;> first | rfl | exact ⟨rfl, rfl⟩ | kernel_rfl)
    rcases k with _ | j
    · have e : idxAt l n 0 = true := by rw [idxAt, d1]; rfl
      have c0 : (0 : Int) < l.length := by omega
      simp -implicitDefEqProofs (maxSteps := 2000000) only [go_sem, c1, c0, ← hn, w0]
      refine call_of (inB_sat (l.getD 0 0) 0 (n - 1)) (by simp -implicitDefEqProofs (maxSteps := 2000000) only [go_sem, d1, c1, c0]) (by kernel_rfl) (by simp -implicitDefEqProofs (maxSteps := 2000000) only [go_sem, d1, c1, c0]) ?_
      simp -implicitDefEqProofs (maxSteps := 2000000) only [go_sem, d1, c1, c0]
      first | (with_reducible refine tr_and ?_ ?_; focus kernel_rfl) | (with_reducible refine tr_only ?_; kernel_rfl) | skip
      exact ⟨1, ⟨c1, upTo_step h2 e⟩, by omega, (le_st _ _ [] [] _ rfl (by simp -implicitDefEqProofs (maxSteps := 2000000) only [go_sem] <;> rfl) (by simp -implicitDefEqProofs (maxSteps := 2000000) only [go_sem] <;> rfl) (by simp -implicitDefEqProofs (maxSteps := 2000000) only [go_sem] <;> rfl))⟩
    · have c2 : j < l.length := by omega
      have c3 : 0 < ((j + 1 : Nat) : Int) := by omega
      have w1 := i64_pred (j := j) (by omega)
      rcases d2 : decide (l.getD (j + 1) 0 ≤ l.getD j 0)
      · have e : idxAt l n (j + 1) = true := by rw [idxAt, d1, Nat.add_sub_cancel, d2]; rfl
        simp -implicitDefEqProofs (maxSteps := 2000000) only [go_sem, c1, ← hn, w0]
        refine call_of (inB_sat (l.getD (j + 1) 0) 0 (n - 1)) (by simp -implicitDefEqProofs (maxSteps := 2000000) only [go_sem, d1, d2, c1, c2, c3, w1]) (by kernel_rfl) (by simp -implicitDefEqProofs (maxSteps := 2000000) only [go_sem, d1, d2, c1, c2, c3, w1]) ?_
        simp -implicitDefEqProofs (maxSteps := 2000000) only [go_sem, d1, d2, c1, c2, c3, w1]
        first | (with_reducible refine tr_and ?_ ?_; focus kernel_rfl) | (with_reducible refine tr_only ?_; kernel_rfl) | skip
        rw [i64_succ (by omega)]
        exact ⟨j + 1 + 1, ⟨c1, upTo_step h2 e⟩, by omega, (le_st _ _ [] [] _ rfl (by simp -implicitDefEqProofs (maxSteps := 2000000) only [go_sem] <;> rfl) (by simp -implicitDefEqProofs (maxSteps := 2000000) only [go_sem] <;> rfl) (by simp -implicitDefEqProofs (maxSteps := 2000000) only [go_sem] <;> rfl))⟩
      · rw [upTo_false c1 (show idxAt l n (j + 1) = false by rw [idxAt, d1, Nat.add_sub_cancel, d2]; rfl)]
        simp -implicitDefEqProofs (maxSteps := 2000000) only [go_sem, c1, ← hn, w0]
        refine call_of (inB_sat (l.getD (j + 1) 0) 0 (n - 1)) (by simp -implicitDefEqProofs (maxSteps := 2000000) only [go_sem, d1, d2, c1, c2, c3, w1]) (by kernel_rfl) (by simp -implicitDefEqProofs (maxSteps := 2000000) only [go_sem, d1, d2, c1, c2, c3, w1]) ?_
        simp -implicitDefEqProofs (maxSteps := 2000000) only [go_sem, d1, d2, c1, c2, c3, w1]
        first | (with_reducible refine tr_and ?_ ?_; focus kernel_rfl) | (with_reducible refine tr_only ?_; kernel_rfl) | skip
        first | done | rfl | exact ⟨rfl, rfl⟩ | exact ⟨rfl, rfl, rfl⟩ | (refine tr_and ?_ ?_ <;> first | rfl | exact ⟨rfl, rfl⟩ | kernel_rfl)
  · obtain rfl : k = l.length := by omega
    simp -implicitDefEqProofs (maxSteps := 2000000) only [go_sem, c1]
    rw [h2]
theorem goodDb_rels {d : Db} (h : goodDb d = true) : d.rels.length ≤ 4 := by
  unfold goodDb goodRels at h
  simp only [Bool.and_eq_true, decide_eq_true_eq] at h
  omega
theorem repS {α : Type} (a : α) : List.replicate 1 a = [a] := rfl
abbrev zDb : List SV := [.sc (.slice none 0 0), .sc (.slice none 0 0)]
theorem copyDatabase_sat (d : Db) (h : d.ok) : Sat Tryz.prog 89 [lDb d] [oDb d] [g2] := by
  refine sat_of_body mixed Tryz.func89 rfl (by kernel_rfl) (by kernel_rfl) (rs := [.cell 2 37]) rfl rfl rfl ?_
  have h1 := h.1.1
  have h2 := h.2.1
  simp -implicitDefEqProofs (maxSteps := 2000000) only [go_sem]
  repeat (refine ⟨by omega, ?_⟩)
  refine awp_loop Nat (fun k => mkSt [(2, .one (.vad 1064 0)), (3, .one (.vad 1512 0)), (13, .one (.im 2 (ris 0 d.facts))), (14, .sc (.int .i64 d.facts.length)), (15, .sc (.int .i64 k))] [(1064, zDb), (1512, [.ref 960 3 0 d.rels.length, .ref 961 2 0 k])] [(960, (3, rels d.rels)), (961, (2, ris 999 (d.facts.take k)))] 4000)
    (fun k => k ≤ d.facts.length) (fun k => d.facts.length - k) 0 (by omega) (le_st' _ _ [⟨960, some _, false, 3, _⟩, ⟨961, some _, false, 2, _⟩] [] _ (by simp -implicitDefEqProofs (maxSteps := 2000000) only [go_sem, List.take_zero, ris_nil] <;> and_intros <;> rfl) (by simp -implicitDefEqProofs (maxSteps := 2000000) only [go_sem, List.take_zero, ris_nil] <;> and_intros <;> rfl) (by simp -implicitDefEqProofs (maxSteps := 2000000) only [go_sem, List.take_zero, ris_nil] <;> and_intros <;> rfl) (by rfl)) ?_
  rintro k h4
  by_cases c1 : k < d.facts.length
  · have wk : IntKind.i64.wrap ((k : Int) + 1) = ((k + 1 : Nat) : Int) := i64_succ (by omega)
    have hx : (d.facts.getD k default).l.length ≤ 1048576 := h.2.2 _ (mem_getD default c1)
    have ht : (d.facts.take k).length = k := by rw [List.length_take]; omega
    simp -implicitDefEqProofs (maxSteps := 2000000) only [go_sem, c1]
    repeat (refine ⟨by omega, ?_⟩)
    refine tr_and (by kernel_rfl) ?_
    rw [wk]
    refine ⟨k + 1, c1, by omega, ?_⟩
    rw [take_snoc default c1]
    exact (le_st' _ _ [⟨960, some _, false, 3, _⟩, ⟨961, some _, false, 2, _⟩] [] _ (by simp -implicitDefEqProofs (maxSteps := 2000000) only [go_sem, ht, repS, List.set_cons_zero] <;> and_intros <;> rfl) (by simp -implicitDefEqProofs (maxSteps := 2000000) only [go_sem, ht, repS, List.set_cons_zero] <;> and_intros <;> rfl) (by simp -implicitDefEqProofs (maxSteps := 2000000) only [go_sem, ht, repS, List.set_cons_zero] <;> and_intros <;> rfl) (by rfl))
  · obtain rfl : k = d.facts.length := by omega
    rw [List.take_length]
    simp -implicitDefEqProofs (maxSteps := 2000000) only [go_sem, c1]
    kernel_rfl
/-- The chosen facts. -/
def selF (fs : List RI) (l : List Int) : List RI := l.map fun i => fs.getD i.toNat default
def selOk (d : Db) (l : List Int) : Bool := goodDb d && idxs l d.facts.length
def selD (d : Db) (l : List Int) : Db := if selOk d l then ⟨d.rels, selF d.facts l⟩ else ⟨[], []⟩
theorem selF_length (fs : List RI) (l : List Int) : (selF fs l).length = l.length := by simp [selF]
theorem selF_take (fs : List RI) (l : List Int) {k : Nat} (h : k < l.length) : selF fs (l.take (k + 1)) = selF fs (l.take k) ++ [fs.getD (l.getD k 0).toNat default] := by
  rw [take_snoc 0 h]; simp [selF]
theorem idxs_at {l : List Int} {n : Int} (h : idxs l n = true) {k : Nat} (hk : k < l.length) : 0 ≤ l.getD k 0 ∧ l.getD k 0 < n := by
  have := upTo_at h hk
  unfold idxAt at this
  rw [Bool.and_eq_true] at this
  have := inB_of this.1
  omega
theorem idxs_lt {l : List Int} {n : Int} (h : idxs l n = true) : ∀ (k j : Nat), k < l.length → j < k → l.getD j 0 < l.getD k 0
  | 0, j, _, hj => by omega
  | k + 1, j, hk, hj => by
    have h1 := upTo_at h hk
    unfold idxAt at h1
    rw [Bool.and_eq_true, Nat.add_sub_cancel, decide_eq_false (by omega : ¬ k + 1 = 0), Bool.false_or, Bool.not_eq_true', decide_eq_false_iff_not] at h1
    have h2 := h1.2
    rcases Nat.lt_or_ge j k with hjk | hjk
    · have := idxs_lt h k j (by omega) hjk
      omega
    · obtain rfl : j = k := by omega
      omega
theorem specSelectFacts_sat (d : Db) (l : List Int) (h : d.ok) (hl : l.length ≤ 1048576) : Sat Tryz.prog 58 [lDb d, lInts l] [oDb (selD d l), lBool (selOk d l)] [g2, g1] := by
  refine sat_of_body mixed Tryz.func58 rfl (by kernel_rfl) (by kernel_rfl) (rs := [.cell 4 37, .tmp 5]) rfl rfl rfl ?_
  simp -implicitDefEqProofs (maxSteps := 2000000) only [go_sem]
  rcases g : goodDb d
  · rw [show selD d l = ⟨[], []⟩ by rw [selD, selOk, g]; rfl, show selOk d l = false by rw [selOk, g]; rfl]
    refine call_of (specIsValidDatabase_sat d h.fit) (by simp -implicitDefEqProofs (maxSteps := 2000000) only [go_sem, g]) (by kernel_rfl) (by simp -implicitDefEqProofs (maxSteps := 2000000) only [go_sem, g]) ?_
    simp -implicitDefEqProofs (maxSteps := 2000000) only [go_sem, g]
    first | done | rfl | exact ⟨rfl, rfl⟩ | exact ⟨rfl, rfl, rfl⟩ | (refine tr_and ?_ ?_ <;> first | rfl | exact ⟨rfl, rfl⟩ | kernel_rfl)
  have hn := goodDb_len g
  have hr := goodDb_rels g
  rcases g2 : idxs l d.facts.length
  · rw [show selD d l = ⟨[], []⟩ by rw [selD, selOk, g, g2]; rfl, show selOk d l = false by rw [selOk, g, g2]; rfl]
    refine call_of (specIsValidDatabase_sat d h.fit) (by simp -implicitDefEqProofs (maxSteps := 2000000) only [go_sem, g]) (by kernel_rfl) (by simp -implicitDefEqProofs (maxSteps := 2000000) only [go_sem, g]) ?_
    simp -implicitDefEqProofs (maxSteps := 2000000) only [go_sem, g]
    refine call_of (l4Set_sat d l (by omega) hn) (by simp -implicitDefEqProofs (maxSteps := 2000000) only [go_sem, g2]) (by kernel_rfl) (by simp -implicitDefEqProofs (maxSteps := 2000000) only [go_sem, g2]) ?_
    simp -implicitDefEqProofs (maxSteps := 2000000) only [go_sem, g2]
    first | done | rfl | exact ⟨rfl, rfl⟩ | exact ⟨rfl, rfl, rfl⟩ | (refine tr_and ?_ ?_ <;> first | rfl | exact ⟨rfl, rfl⟩ | kernel_rfl)
  rw [show selD d l = ⟨d.rels, selF d.facts l⟩ by rw [selD, selOk, g, g2]; rfl, show selOk d l = true by rw [selOk, g, g2]; rfl]
  refine call_of (specIsValidDatabase_sat d h.fit) (by simp -implicitDefEqProofs (maxSteps := 2000000) only [go_sem, g]) (by kernel_rfl) (by simp -implicitDefEqProofs (maxSteps := 2000000) only [go_sem, g]) ?_
  simp -implicitDefEqProofs (maxSteps := 2000000) only [go_sem, g]
  refine call_of (l4Set_sat d l (by omega) hn) (by simp -implicitDefEqProofs (maxSteps := 2000000) only [go_sem, g2]) (by kernel_rfl) (by simp -implicitDefEqProofs (maxSteps := 2000000) only [go_sem, g2]) ?_
  simp -implicitDefEqProofs (maxSteps := 2000000) only [go_sem, g2]
  repeat (refine ⟨by omega, ?_⟩)
  refine awp_loop Nat (fun k => mkSt [(1, .one (.im 1 (ints l))), (2, .one (.vad 1000 0)), (4, .one (.vad 1064 0)), (6, .one (.vad 2088 0)), (7, .sc (.int .i64 k))] [(1000, sDb d), (1064, zDb), (2088, [.ref 960 3 0 d.rels.length, .ref 961 2 0 k])] [(960, (3, rels d.rels)), (961, (2, ris 999 (selF d.facts (l.take k))))] 4000)
    (fun k => k ≤ l.length) (fun k => l.length - k) 0 (by omega) (le_st' _ _ [⟨960, some _, false, 3, _⟩, ⟨961, none, false, 2, _⟩] [] _ (by simp -implicitDefEqProofs (maxSteps := 2000000) only [go_sem, List.take_zero, ris_nil] <;> and_intros <;> rfl) (by simp -implicitDefEqProofs (maxSteps := 2000000) only [go_sem, List.take_zero, ris_nil] <;> and_intros <;> rfl) (by simp -implicitDefEqProofs (maxSteps := 2000000) only [go_sem, List.take_zero, ris_nil] <;> and_intros <;> rfl) (by rfl)) ?_
  rintro k h4
  by_cases c1 : k < l.length
  · have wk : IntKind.i64.wrap ((k : Int) + 1) = ((k + 1 : Nat) : Int) := i64_succ (by omega)
    obtain ⟨b1, b2⟩ := idxs_at g2 c1
    have hst := selF_take d.facts l c1
    obtain ⟨m, hm⟩ : ∃ m : Nat, l.getD k 0 = m := ⟨(l.getD k 0).toNat, by omega⟩
    have c2 : m < d.facts.length := by omega
    have hx : (d.facts.getD m default).l.length ≤ 1048576 := h.2.2 _ (mem_getD default c2)
    have ht : (selF d.facts (l.take k)).length = k := by rw [selF_length, List.length_take]; omega
    rw [hm, Int.toNat_natCast] at hst
    simp -implicitDefEqProofs (maxSteps := 2000000) only [go_sem, c1, hm, c2]
    refine tr_and (by kernel_rfl) ?_
    repeat (refine ⟨by omega, ?_⟩)
    refine tr_and (by kernel_rfl) ?_
    rw [wk]
    refine ⟨k + 1, c1, by omega, ?_⟩
    rw [hst]
    exact (le_st' _ _ [⟨960, some _, false, 3, _⟩, ⟨961, some _, false, 2, _⟩] [] _ (by simp -implicitDefEqProofs (maxSteps := 2000000) only [go_sem, ht, repS, List.set_cons_zero] <;> and_intros <;> rfl) (by simp -implicitDefEqProofs (maxSteps := 2000000) only [go_sem, ht, repS, List.set_cons_zero] <;> and_intros <;> rfl) (by simp -implicitDefEqProofs (maxSteps := 2000000) only [go_sem, ht, repS, List.set_cons_zero] <;> and_intros <;> rfl) (by rfl))
  · obtain rfl : k = l.length := by omega
    rw [List.take_length]
    simp -implicitDefEqProofs (maxSteps := 2000000) only [go_sem, c1, selF_length]
    kernel_rfl
/-! #### a slice that lies in another one is moved -/
def cellQ (s id w i j s' off len : Nat) (rows : Rows) (c : Cell) (K : Cell → List (Nat × Option Obj') → Prop) : Prop := match c with
  | .sl s'' xs => s'' = s' ∧ off = 0 ∧ len = xs.length ∧ K (.sl s xs) [(id, some (w, Rows.setCell rows i j .gone))]
  | _ => False
theorem cellQ_sl {s id w i j s' s'' off len : Nat} {rows : Rows} {xs : List Value} {K : Cell → List (Nat × Option Obj') → Prop} : cellQ s id w i j s' off len rows (.sl s'' xs) K = (s'' = s' ∧ off = 0 ∧ len = xs.length ∧ K (.sl s xs) [(id, some (w, Rows.setCell rows i j .gone))]) := rfl
def cellI (s id i j s' off len : Nat) (o : Option Obj') (K : Cell → List (Nat × Option Obj') → Prop) : Prop := match o with
  | some (w, rows) => cellQ s id w i j s' off len rows ((rows.getD i []).getD j .gone) K
  | none => False
theorem cellI_some {s id w i j s' off len : Nat} {rows : Rows} {K : Cell → List (Nat × Option Obj') → Prop} : cellI s id i j s' off len (some (w, rows)) K = cellQ s id w i j s' off len rows ((rows.getD i []).getD j .gone) K := rfl
theorem cell_rin {st : St} {s id i j s' off len : Nat} {K : Cell → List (Nat × Option Obj') → Prop} : cellK st s (.rin id i j s' off len) K = cellI s id i j s' off len (st.objs id) K := by
  simp only [cellK, cellI, cellQ, Rows.cell]
  rcases st.objs id with _ | ⟨w, rows⟩
  · rfl
  · simp only
    rcases (List.getD rows i []).getD j .gone with _ | ⟨s'', xs⟩ | _ <;> rfl
attribute [go_sem] cell_rin cellI_some cellQ_sl
/-! #### rows of which some were moved away -/
def cRH (s : Nat) (x : RI × Bool) : List Cell := [.sc (.int .i64 x.1.r), if x.2 then .gone else .sl s (iv x.1.l)]
def rhs (s : Nat) (l : List (RI × Bool)) : Rows := l.map (cRH s)
theorem rhs_length (s : Nat) (l : List (RI × Bool)) : (rhs s l).length = l.length := by simp [rhs]
theorem rhs_get {s : Nat} {l : List (RI × Bool)} {i : Nat} {r : Int} {xs : List Int} (h : l[i]? = some (⟨r, xs⟩, false)) : (rhs s l).getD i [] = [.sc (.int .i64 r), .sl s (iv xs)] := by
  simp [rhs, cRH, List.getD_eq_getElem?_getD, h]
theorem rhs_stm (n s : Nat) (l : List (RI × Bool)) : stm n (rhs (s + 1) l) = rhs n l := stm_map n _ _ (fun x => by rcases x with ⟨x, b⟩; cases b <;> rfl) l
theorem rhs_gone {s : Nat} {l : List (RI × Bool)} {i : Nat} {r : Int} {xs : List Int} (h : l[i]? = some (⟨r, xs⟩, false)) : Rows.setCell (rhs s l) i 1 .gone = rhs s (l.set i (⟨r, xs⟩, true)) := by
  unfold Rows.setCell
  rw [rhs_get h]
  simp [rhs, List.map_set, cRH]
theorem mapF_get {fs : List RI} {i : Nat} (h : i < fs.length) : (fs.map fun a => (a, false))[i]? = some (fs.getD i default, false) := by
  simp [List.getD_eq_getElem?_getD, h]
theorem rhs_of (s : Nat) (l : List RI) : rhs s (l.map fun a => (a, false)) = ris s l := by simp [rhs, ris, cRH, cRI]
attribute [go_sem] rhs_length rhs_stm
theorem implSelectFacts_sat (d : Db) (l : List Int) (h : d.ok) (hl : l.length ≤ 1048576) : Sat Tryz.prog 59 [lDb d, lInts l] [oDb (selD d l), lBool (selOk d l)] [g2, g1] := by
  refine sat_of_body mixed Tryz.func59 rfl (by kernel_rfl) (by kernel_rfl) (rs := [.cell 4 37, .tmp 5]) rfl rfl rfl ?_
  simp -implicitDefEqProofs (maxSteps := 2000000) only [go_sem]
  rcases g : goodDb d
  · rw [show selD d l = ⟨[], []⟩ by rw [selD, selOk, g]; rfl, show selOk d l = false by rw [selOk, g]; rfl]
    refine call_of (implIsValidDatabase_sat d h.fit) (by simp -implicitDefEqProofs (maxSteps := 2000000) only [go_sem, g]) (by kernel_rfl) (by simp -implicitDefEqProofs (maxSteps := 2000000) only [go_sem, g]) ?_
    simp -implicitDefEqProofs (maxSteps := 2000000) only [go_sem, g]
    first | done | rfl | exact ⟨rfl, rfl⟩ | exact ⟨rfl, rfl, rfl⟩ | (refine tr_and ?_ ?_ <;> first | rfl | exact ⟨rfl, rfl⟩ | kernel_rfl)
  have hn := goodDb_len g
  have hr := goodDb_rels g
  rcases g2 : idxs l d.facts.length
  · rw [show selD d l = ⟨[], []⟩ by rw [selD, selOk, g, g2]; rfl, show selOk d l = false by rw [selOk, g, g2]; rfl]
    refine call_of (implIsValidDatabase_sat d h.fit) (by simp -implicitDefEqProofs (maxSteps := 2000000) only [go_sem, g]) (by kernel_rfl) (by simp -implicitDefEqProofs (maxSteps := 2000000) only [go_sem, g]) ?_
    simp -implicitDefEqProofs (maxSteps := 2000000) only [go_sem, g]
    refine call_of (areIndices_sat l d.facts.length (by omega) (by omega)) (by simp -implicitDefEqProofs (maxSteps := 2000000) only [go_sem, g2]) (by kernel_rfl) (by simp -implicitDefEqProofs (maxSteps := 2000000) only [go_sem, g2]) ?_
    simp -implicitDefEqProofs (maxSteps := 2000000) only [go_sem, g2]
    first | done | rfl | exact ⟨rfl, rfl⟩ | exact ⟨rfl, rfl, rfl⟩ | (refine tr_and ?_ ?_ <;> first | rfl | exact ⟨rfl, rfl⟩ | kernel_rfl)
  rw [show selD d l = ⟨d.rels, selF d.facts l⟩ by rw [selD, selOk, g, g2]; rfl, show selOk d l = true by rw [selOk, g, g2]; rfl]
  refine call_of (implIsValidDatabase_sat d h.fit) (by simp -implicitDefEqProofs (maxSteps := 2000000) only [go_sem, g]) (by kernel_rfl) (by simp -implicitDefEqProofs (maxSteps := 2000000) only [go_sem, g]) ?_
  simp -implicitDefEqProofs (maxSteps := 2000000) only [go_sem, g]
  refine call_of (areIndices_sat l d.facts.length (by omega) (by omega)) (by simp -implicitDefEqProofs (maxSteps := 2000000) only [go_sem, g2]) (by kernel_rfl) (by simp -implicitDefEqProofs (maxSteps := 2000000) only [go_sem, g2]) ?_
  simp -implicitDefEqProofs (maxSteps := 2000000) only [go_sem, g2]
  refine call_of (copyDatabase_sat d h) (by simp -implicitDefEqProofs (maxSteps := 2000000) only [go_sem]) (callOk_still (by kernel_rfl) (by simp only [List.all_cons, List.all_nil, LV.still, LV.leaves, Leaf.still, ints_still, ris_still, eds_still, rels_still, iss_still, ems_still, Bool.and_self, Bool.and_true])) (by simp -implicitDefEqProofs (maxSteps := 2000000) only [go_sem]) ?_
  simp -implicitDefEqProofs (maxSteps := 2000000) only [go_sem]
  obtain ⟨H0, e0, e1⟩ : ∃ H0, ris 999 d.facts = rhs 999 H0 ∧ H0 = d.facts.map fun a => (a, false) := ⟨_, (rhs_of 999 d.facts).symm, rfl⟩
  refine awp_loop (Nat × List (RI × Bool)) (fun x => mkSt [(4, .one (.vad 1064 0)), (6, .one (.vad 2024 0)), (7, .one (.vad 2344 0)), (27, .one (.im 1 (ints l))), (28, .sc (.int .i64 l.length)), (29, .sc (.int .i64 x.1))] [(1064, zDb), (2024, [.ref 960 3 0 d.rels.length, .ref 962 2 0 d.facts.length]), (2344, [.ref 960 3 0 d.rels.length, .ref 961 2 0 x.1])] [(960, (3, rels d.rels)), (961, (2, ris 999 (selF d.facts (l.take x.1)))), (962, (2, rhs 999 x.2))] 4000)
    (fun x => x.1 ≤ l.length ∧ x.2.length = d.facts.length ∧ ∀ j, x.1 ≤ j → j < l.length → x.2[(l.getD j 0).toNat]? = some (d.facts.getD (l.getD j 0).toNat default, false)) (fun x => l.length - x.1) (0, H0)
    ⟨by simp, by rw [e1]; simp, fun j _ hj => by
      obtain ⟨b1, b2⟩ := idxs_at g2 hj
      rw [e1]; exact mapF_get (by omega)⟩ (le_st' _ _ [⟨960, some _, false, 3, _⟩, ⟨961, none, false, 2, _⟩, ⟨962, some _, false, 2, _⟩] [] _ (by simp -implicitDefEqProofs (maxSteps := 2000000) only [go_sem, List.take_zero, ris_nil, e0] <;> and_intros <;> rfl) (by simp -implicitDefEqProofs (maxSteps := 2000000) only [go_sem, List.take_zero, ris_nil, e0] <;> and_intros <;> rfl) (by simp -implicitDefEqProofs (maxSteps := 2000000) only [go_sem, List.take_zero, ris_nil, e0] <;> and_intros <;> rfl) (by rfl)) ?_
  rintro ⟨k, H⟩ ⟨h4, h5, h6⟩
  simp only at h4 h5 h6
  by_cases c1 : k < l.length
  · have wk : IntKind.i64.wrap ((k : Int) + 1) = ((k + 1 : Nat) : Int) := i64_succ (by omega)
    obtain ⟨b1, b2⟩ := idxs_at g2 c1
    have hst := selF_take d.facts l c1
    have hH := h6 k (Nat.le_refl _) c1
    obtain ⟨m, hm⟩ : ∃ m : Nat, l.getD k 0 = m := ⟨(l.getD k 0).toNat, by omega⟩
    have c2 : m < d.facts.length := by omega
    have hx : (d.facts.getD m default).l.length ≤ 1048576 := h.2.2 _ (mem_getD default c2)
    have ht : (selF d.facts (l.take k)).length = k := by rw [selF_length, List.length_take]; omega
    rw [hm, Int.toNat_natCast] at hst hH
    rcases ea : d.facts.getD m default with ⟨r, xs⟩
    rw [ea] at hst hH hx
    have hg := rhs_get (s := 999) hH
    have hgo := rhs_gone (s := 999) hH
    have hl4 : List.take d.facts.length (rhs 999 H) = rhs 999 H := List.take_of_length_le (by rw [rhs_length]; omega)
    simp -implicitDefEqProofs (maxSteps := 2000000) only [go_sem, c1, hm, c2, h5, hg]
    refine ⟨by rw [solidRin_sl (by rw [hg]; rfl)], ?_⟩
    simp -implicitDefEqProofs (maxSteps := 2000000) only [go_sem, hg, hgo]
    rw [if_neg (by simp [flatB, ris, cRI, Cell.flatB])]
    repeat (refine ⟨by first | rfl | omega, ?_⟩)
    refine ⟨(k + 1, H.set m (⟨r, xs⟩, true)), ⟨c1, by simpa using h5, fun j h7 h8 => ?_⟩, by simp; omega, ?_⟩
    · have := idxs_lt g2 j k h8 (by omega)
      rw [List.getElem?_set_ne (by omega)]
      exact h6 j (by omega) h8
    · simp only
      rw [hst, wk]
      exact (le_st' _ _ [⟨960, some _, false, 3, _⟩, ⟨961, some _, false, 2, _⟩, ⟨962, some _, false, 2, _⟩] [] _ (by simp -implicitDefEqProofs (maxSteps := 2000000) only [go_sem, ht] <;> and_intros <;> rfl) (by simp -implicitDefEqProofs (maxSteps := 2000000) only [go_sem, ht] <;> and_intros <;> rfl) (by simp -implicitDefEqProofs (maxSteps := 2000000) only [go_sem, ht] <;> and_intros <;> rfl) (by rfl))
  · obtain rfl : k = l.length := by omega
    rw [List.take_length]
    simp -implicitDefEqProofs (maxSteps := 2000000) only [go_sem, c1, selF_length]
    kernel_rfl
end Go.Proofs.YtbalifgacjmbpabGreat.A
