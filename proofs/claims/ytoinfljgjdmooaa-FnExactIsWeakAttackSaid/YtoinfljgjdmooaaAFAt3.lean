
/- WHAT AN ATOM ATTACKS: the reference; attacks between atoms. Conditions: none. -/
import Derived.Test.YtoinfljgjdmooaaAFAt2
namespace Go.Proofs.Ytoinfljgjdmooaa.A
open Go
set_option linter.unusedSimpArgs false
set_option linter.unusedVariables false
set_option maxRecDepth 100000

theorem any_stepA {α : Type} {d : α} {l : List α} {k : Nat} {p : α → Bool} (h : k < l.length) : (l.take (k + 1)).any p = ((l.take k).any p || p (l.getD k d)) := by
  rw [take_snoc d h, List.any_append]; simp
theorem passG_all {cond : Nat → List Int → Bool} {v : Nat → List Int} {c : List Int} {p : Int → Prop} (hv : ∀ i, ∀ x ∈ v i, p x) (hc : ∀ x ∈ c, p x) : ∀ (k : Nat), ∀ x ∈ passG cond v c k, p x
  | 0, x, hx => hc x hx
  | k + 1, x, hx => by
    have ih : ∀ x ∈ passG cond v c k, p x := passG_all hv hc k
    rw [passG] at hx
    unfold fireG at hx
    split at hx
    · rcases (uni_mem _ _ _).mp hx with h | h
      · exact ih x h
      · exact hv k x h
    · exact ih x hx
theorem iterG_all {cond : Nat → List Int → Bool} {v : Nat → List Int} {c : List Int} {p : Int → Prop} {n : Nat} (hv : ∀ i, ∀ x ∈ v i, p x) (hc : ∀ x ∈ c, p x) : ∀ (m : Nat), ∀ x ∈ iterG cond v n c m, p x
  | 0, x, hx => hc x hx
  | m + 1, x, hx => passG_all hv (iterG_all hv hc m) n x hx
theorem without_mem {a b : List Int} {x : Int} : x ∈ without a b ↔ x ∈ a ∧ x ∉ b := by
  unfold without
  rw [List.mem_filter]
  simp
theorem meet_without {a b c : List Int} (h : ∀ x ∈ c, x ∉ b) : meetB a c = meetB (without a b) c := by
  rw [Bool.eq_iff_iff]
  unfold meetB
  rw [List.any_eq_true, List.any_eq_true]
  constructor
  · rintro ⟨x, hx, hc⟩
    exact ⟨x, without_mem.mpr ⟨hx, h x (of_decide_eq_true hc)⟩, hc⟩
  · rintro ⟨x, hx, hc⟩
    exact ⟨x, (without_mem.mp hx).1, hc⟩
/-- A set with the first j of some numbers, those outside another set. -/
def addJ (c v P : List Int) (j : Nat) : List Int := selN (fun x => decide (x ∈ c) || decide (x ∈ without (v.take j) P)) 4
theorem addJ_zero {c v P : List Int} (h : Small c) : addJ c v P 0 = c := by
  unfold addJ
  rw [h.eq_selN]
  congr 1
  funext x
  rw [List.take_zero]
  simp only [without, List.filter_nil, List.not_mem_nil, decide_false, Bool.or_false]
  rw [← h.eq_selN]
theorem addJ_skip {c v P : List Int} {j : Nat} (hj : j < v.length) (hp : decide (v.getD j 0 ∈ P) = true) : addJ c v P (j + 1) = addJ c v P j := by
  unfold addJ without
  rw [take_snoc 0 hj, List.filter_append, List.filter_cons_of_neg (by rw [hp]; simp), List.filter_nil, List.append_nil]
theorem addJ_take {c v P : List Int} {j : Nat} (hj : j < v.length) (hp : decide (v.getD j 0 ∈ P) = false) : selN (fun x => decide (x ∈ addJ c v P j) || decide (x ∈ [v.getD j 0])) 4 = addJ c v P (j + 1) := by
  refine strict_eq (selN_strict _ _) (selN_strict _ _) fun x => ?_
  rw [selN_mem, show addJ c v P (j + 1) = selN (fun x => decide (x ∈ c) || decide (x ∈ without (v.take (j + 1)) P)) 4 from rfl, selN_mem]
  have e : without (v.take (j + 1)) P = without (v.take j) P ++ [v.getD j 0] := by
    unfold without
    rw [take_snoc 0 hj, List.filter_append, List.filter_cons_of_pos (by rw [hp]; rfl), List.filter_nil]
  rw [e]
  simp only [Bool.or_eq_true, decide_eq_true_eq, List.mem_append, List.mem_singleton]
  unfold addJ
  rw [selN_mem]
  simp only [Bool.or_eq_true, decide_eq_true_eq]
  constructor
  · rintro ⟨h1, h2, ⟨h3, h4, h5⟩ | h3⟩
    · exact ⟨h1, h2, h5.elim .inl fun h => .inr (.inl h)⟩
    · exact ⟨h1, h2, .inr (.inr h3)⟩
  · rintro ⟨h1, h2, h3 | h3 | h3⟩
    · exact ⟨h1, h2, .inl ⟨h1, h2, .inl h3⟩⟩
    · exact ⟨h1, h2, .inl ⟨h1, h2, .inr h3⟩⟩
    · exact ⟨h1, h2, .inr h3⟩
theorem addJ_full {c P : List Int} {ats : List RI} {i : Nat} (h : Small c) : addJ c (varsOf (ats.getD i default).l) P (varsOf (ats.getD i default).l).length = uni c (outs ats P i) := by
  unfold addJ
  rw [List.take_length]
  refine strict_eq (selN_strict _ _) (uni_strict _ _) fun x => ?_
  rw [selN_mem, uni_mem]
  simp only [Bool.or_eq_true, decide_eq_true_eq]
  refine ⟨fun h => h.2.2, fun k => ⟨?_, ?_, k⟩⟩
  · exact k.elim (fun k => (h.small x k).1) (fun k => (outs_small ats P i x k).1)
  · exact k.elim (fun k => (h.small x k).2) (fun k => (outs_small ats P i x k).2)
theorem addJ_len (c v P : List Int) (j : Nat) : (addJ c v P j).length ≤ 4 := selN_len _ 4
theorem specAttackedVariables_sat (l : List Rel) (q : Qu) (k : Int) (hl : l.length ≤ 9223372036854775807) (hq : q.fit) : Sat Try.prog 28 [lRels l, lQu q, lInt k] [oInts (attV l q k)] [g1, g3, g1] := by
  refine sat_of_body mixed Try.func28 rfl (by kernel_rfl) (by kernel_rfl) (rs := [.tmp 6]) rfl rfl rfl ?_
  have hb := hq.1.1
  have w0 : IntKind.i64.wrap ((q.atoms.length : Int) - 1) = (q.atoms.length : Int) - 1 := IntWalk.i64_in _ (by omega)
  simp -implicitDefEqProofs (maxSteps := 2000000) only [go_sem]
  rcases g : goodQu l q
  · rw [show attV l q k = [] by rw [attV, g]; rfl]
    refine call_of (specIsValidQuery_sat l q hl hq) (by simp -implicitDefEqProofs (maxSteps := 2000000) only [go_sem, g]) (by kernel_rfl) (by simp -implicitDefEqProofs (maxSteps := 2000000) only [go_sem, g]) ?_
    simp -implicitDefEqProofs (maxSteps := 2000000) only [go_sem, g]
    first | done | rfl | exact ⟨rfl, rfl⟩ | exact ⟨rfl, rfl, rfl⟩ | (refine tr_and ?_ ?_ <;> first | rfl | exact ⟨rfl, rfl⟩ | kernel_rfl)
  rcases i1 : inB k 0 ((q.atoms.length : Int) - 1)
  · rw [show attV l q k = [] by rw [attV, i1, Bool.and_false]; rfl]
    refine call_of (specIsValidQuery_sat l q hl hq) (by simp -implicitDefEqProofs (maxSteps := 2000000) only [go_sem, g, w0]) (by kernel_rfl) (by simp -implicitDefEqProofs (maxSteps := 2000000) only [go_sem, g, w0]) ?_
    simp -implicitDefEqProofs (maxSteps := 2000000) only [go_sem, g, w0]
    refine call_of (inB_sat k 0 ((q.atoms.length : Int) - 1)) (by simp -implicitDefEqProofs (maxSteps := 2000000) only [go_sem, i1]) (by kernel_rfl) (by simp -implicitDefEqProofs (maxSteps := 2000000) only [go_sem, i1]) ?_
    simp -implicitDefEqProofs (maxSteps := 2000000) only [go_sem, i1]
    first | done | rfl | exact ⟨rfl, rfl⟩ | exact ⟨rfl, rfl, rfl⟩ | (refine tr_and ?_ ?_ <;> first | rfl | exact ⟨rfl, rfl⟩ | kernel_rfl)
  obtain ⟨r1, r2⟩ := inB_of i1
  obtain ⟨m, rfl⟩ : ∃ m : Nat, k = m := ⟨k.toNat, by omega⟩
  have c1 : m < q.atoms.length := by omega
  have h3 := atoms3 g
  have hPl := kcl_len l q m
  rw [show attV l q m = att q.atoms (kcl l q m) m by rw [attV, g, i1]; rfl]
  refine call_of (specIsValidQuery_sat l q hl hq) (by simp -implicitDefEqProofs (maxSteps := 2000000) only [go_sem, g, w0]) (by kernel_rfl) (by simp -implicitDefEqProofs (maxSteps := 2000000) only [go_sem, g, w0]) ?_
  simp -implicitDefEqProofs (maxSteps := 2000000) only [go_sem, g, w0]
  refine call_of (inB_sat m 0 ((q.atoms.length : Int) - 1)) (by simp -implicitDefEqProofs (maxSteps := 2000000) only [go_sem, i1, c1]) (by kernel_rfl) (by simp -implicitDefEqProofs (maxSteps := 2000000) only [go_sem, i1, c1]) ?_
  simp -implicitDefEqProofs (maxSteps := 2000000) only [go_sem, i1, c1]
  refine call_of (specKeyClosure_sat l q m hl hq) (by simp -implicitDefEqProofs (maxSteps := 2000000) only [go_sem]) (callOk_still (by kernel_rfl) (by simp only [List.all_cons, List.all_nil, LV.still, LV.leaves, Leaf.still, ints_still, ris_still, eds_still, rels_still, iss_still, Bool.and_self, Bool.and_true])) (by simp -implicitDefEqProofs (maxSteps := 2000000) only [go_sem]) ?_
  simp -implicitDefEqProofs (maxSteps := 2000000) only [go_sem]
  generalize kcl l q m = P at hPl ⊢
  rw [← att_spec c1]
  have hv := outs_small q.atoms P
  have hp : ∀ i, ∀ x ∈ outs q.atoms P i, x ∉ P := fun i x hx => (without_mem.mp hx).2
  refine awp_loop Nat (fun n => mkSt [(0, .one (.im 3 (rels l))), (2, .sc (.int .i64 m)), (4, .one (.vad 1000 0)), (7, .one (.ref 960 1 0 (iterG (condS q.atoms P m) (outs q.atoms P) q.atoms.length [] n).length)), (8, .one (.ref 962 1 0 P.length)), (9, .sc (.int .i64 n))] [(1000, sQu q)] [(960, (1, ints (iterG (condS q.atoms P m) (outs q.atoms P) q.atoms.length [] n))), (962, (1, ints P))] 4000)
    (fun n => n ≤ q.atoms.length + 1) (fun n => q.atoms.length + 1 - n) 0 (by omega) (le_st' _ _ [⟨960, some _, false, 1, _⟩, ⟨962, some _, false, 1, _⟩] [] _ (by simp -implicitDefEqProofs (maxSteps := 2000000) only [go_sem] <;> and_intros <;> rfl) (by simp -implicitDefEqProofs (maxSteps := 2000000) only [go_sem] <;> and_intros <;> rfl) (by simp -implicitDefEqProofs (maxSteps := 2000000) only [go_sem] <;> and_intros <;> rfl) (by rfl)) ?_
  rintro n h1
  have sm := iterG_small (cond := condS q.atoms P m) (n := q.atoms.length) hv Small.nil (m := n)
  have al := iterG_all (cond := condS q.atoms P m) (n := q.atoms.length) (c := []) hp (fun x hx => by cases hx) n
  by_cases k1 : n ≤ q.atoms.length
  · generalize hc : iterG (condS q.atoms P m) (outs q.atoms P) q.atoms.length [] n = c at sm al ⊢
    have wn : IntKind.i64.wrap ((n : Int) + 1) = ((n + 1 : Nat) : Int) := i64_succ (by omega)
    simp -implicitDefEqProofs (maxSteps := 2000000) only [go_sem, k1]
    refine awp_loop Nat (fun i => mkSt [(0, .one (.im 3 (rels l))), (2, .sc (.int .i64 m)), (4, .one (.vad 1000 0)), (7, .one (.ref 960 1 0 (passG (condS q.atoms P m) (outs q.atoms P) c i).length)), (8, .one (.ref 962 1 0 P.length)), (9, .sc (.int .i64 n)), (10, .sc (.int .i64 i))] [(1000, sQu q)] [(960, (1, ints (passG (condS q.atoms P m) (outs q.atoms P) c i))), (962, (1, ints P))] 6000)
      (fun i => i ≤ q.atoms.length) (fun i => q.atoms.length - i) 0 (by omega) (le_st' _ _ [⟨960, some _, false, 1, _⟩, ⟨962, some _, false, 1, _⟩] [] _ (by simp -implicitDefEqProofs (maxSteps := 2000000) only [go_sem] <;> and_intros <;> rfl) (by simp -implicitDefEqProofs (maxSteps := 2000000) only [go_sem] <;> and_intros <;> rfl) (by simp -implicitDefEqProofs (maxSteps := 2000000) only [go_sem] <;> and_intros <;> rfl) (by rfl)) ?_
    rintro i h2
    have smL : Small (passG (condS q.atoms P m) (outs q.atoms P) c i) := passG_small hv sm
    have alL := passG_all (cond := condS q.atoms P m) hp al i
    by_cases k2 : i < q.atoms.length
    · have hfa := hq.1.2 _ (mem_getD default k2)
      have hvl := varsOf_len (q.atoms.getD i default).l
      have hfull := addJ_full (P := P) (ats := q.atoms) (i := i) smL
      have hzero := addJ_zero (v := varsOf (q.atoms.getD i default).l) (P := P) smL
      have hme := meet_without (a := varsOf (q.atoms.getD i default).l) alL
      have hfire : passG (condS q.atoms P m) (outs q.atoms P) c (i + 1) = fireG (condS q.atoms P m) (outs q.atoms P) (passG (condS q.atoms P m) (outs q.atoms P) c i) i := rfl
      generalize passG (condS q.atoms P m) (outs q.atoms P) c i = L at smL alL hfull hzero hme hfire ⊢
      have hLl := smL.len
      have wi : IntKind.i64.wrap ((i : Int) + 1) = ((i + 1 : Nat) : Int) := i64_succ (by omega)
      simp -implicitDefEqProofs (maxSteps := 2000000) only [go_sem, k2]
      refine call_of (specAtomVariables_sat (q.atoms.getD i default) hfa) (by simp -implicitDefEqProofs (maxSteps := 2000000) only [go_sem, k2]) (callOk_still (by kernel_rfl) (by simp only [List.all_cons, List.all_nil, LV.still, LV.leaves, Leaf.still, ints_still, ris_still, eds_still, rels_still, iss_still, Bool.and_self, Bool.and_true])) (by simp -implicitDefEqProofs (maxSteps := 2000000) only [go_sem, k2]) ?_
      simp -implicitDefEqProofs (maxSteps := 2000000) only [go_sem, k2]
      have hO : without (varsOf (q.atoms.getD i default).l) P = outs q.atoms P i := rfl
      rw [hO] at hme
      generalize hV : varsOf (q.atoms.getD i default).l = V at hvl hfull hzero hme ⊢
      rw [show ((i : Int) == (m : Int)) = decide (i = m) by rw [Bool.eq_iff_iff]; simp; omega]
      refine awp_loop Nat (fun j => mkSt [(0, .one (.im 3 (rels l))), (2, .sc (.int .i64 m)), (4, .one (.vad 1000 0)), (7, .one (.ref 960 1 0 L.length)), (8, .one (.ref 962 1 0 P.length)), (9, .sc (.int .i64 n)), (10, .sc (.int .i64 i)), (11, .one (.ref 961 1 0 V.length)), (12, .sc (.bool (decide (i = m) || (V.take j).any fun x => decide (x ∈ L)))), (13, .sc (.int .i64 j))] [(1000, sQu q)] [(960, (1, ints L)), (961, (1, ints V)), (962, (1, ints P))] 8000)
        (fun j => j ≤ V.length) (fun j => V.length - j) 0 (by omega) (by rw [List.take_zero, List.any_nil, Bool.or_false]; exact (le_st' _ _ [⟨960, some _, false, 1, _⟩, ⟨961, some _, false, 1, _⟩, ⟨962, some _, false, 1, _⟩] [] _ (by simp -implicitDefEqProofs (maxSteps := 2000000) only [go_sem] <;> and_intros <;> rfl) (by simp -implicitDefEqProofs (maxSteps := 2000000) only [go_sem] <;> and_intros <;> rfl) (by simp -implicitDefEqProofs (maxSteps := 2000000) only [go_sem] <;> and_intros <;> rfl) (by rfl))) ?_
      rintro j h4
      by_cases k3 : j < V.length
      · have st := any_stepA (d := 0) (p := fun x => decide (x ∈ L)) k3
        have wj : IntKind.i64.wrap ((j : Int) + 1) = ((j + 1 : Nat) : Int) := i64_succ (by omega)
        rcases d0 : (decide (i = m) || (V.take j).any fun x => decide (x ∈ L))
        · simp -implicitDefEqProofs (maxSteps := 2000000) only [go_sem, k3]
          refine call_of (l7Has_sat L (V.getD j 0) (by omega)) (by simp -implicitDefEqProofs (maxSteps := 2000000) only [go_sem, k3]) (by kernel_rfl) (by simp -implicitDefEqProofs (maxSteps := 2000000) only [go_sem, k3]) ?_
          simp -implicitDefEqProofs (maxSteps := 2000000) only [go_sem, k3]
          rw [wj]
          refine ⟨j + 1, k3, by omega, ?_⟩
          rw [st, ← Bool.or_assoc, d0, Bool.false_or]
          exact (le_st' _ _ [⟨960, some _, false, 1, _⟩, ⟨961, some _, false, 1, _⟩, ⟨962, some _, false, 1, _⟩] [] _ (by simp -implicitDefEqProofs (maxSteps := 2000000) only [go_sem] <;> and_intros <;> rfl) (by simp -implicitDefEqProofs (maxSteps := 2000000) only [go_sem] <;> and_intros <;> rfl) (by simp -implicitDefEqProofs (maxSteps := 2000000) only [go_sem] <;> and_intros <;> rfl) (by rfl))
        · simp -implicitDefEqProofs (maxSteps := 2000000) only [go_sem, k3, wj]
          refine ⟨j + 1, k3, by omega, ?_⟩
          rw [st, ← Bool.or_assoc, d0, Bool.true_or]
          exact (le_st' _ _ [⟨960, some _, false, 1, _⟩, ⟨961, some _, false, 1, _⟩, ⟨962, some _, false, 1, _⟩] [] _ (by simp -implicitDefEqProofs (maxSteps := 2000000) only [go_sem] <;> and_intros <;> rfl) (by simp -implicitDefEqProofs (maxSteps := 2000000) only [go_sem] <;> and_intros <;> rfl) (by simp -implicitDefEqProofs (maxSteps := 2000000) only [go_sem] <;> and_intros <;> rfl) (by rfl))
      obtain rfl : j = V.length := by omega
      simp -implicitDefEqProofs (maxSteps := 2000000) only [go_sem, k3]
      try rw [List.take_length]
      have hcd : (decide (i = m) || V.any fun x => decide (x ∈ L)) = condS q.atoms P m i L := by rw [condS, ← hme]; rfl
      rw [hcd]
      rcases d1 : condS q.atoms P m i L
      · refine awp_loop Nat (fun j => mkSt [(0, .one (.im 3 (rels l))), (2, .sc (.int .i64 m)), (4, .one (.vad 1000 0)), (7, .one (.ref 960 1 0 L.length)), (8, .one (.ref 962 1 0 P.length)), (9, .sc (.int .i64 n)), (10, .sc (.int .i64 i)), (11, .one (.ref 961 1 0 V.length)), (12, .sc (.bool false)), (14, .sc (.int .i64 j))] [(1000, sQu q)] [(960, (1, ints L)), (961, (1, ints V)), (962, (1, ints P))] 10000)
          (fun j => j = 0) (fun j => 0) 0 rfl (le_st' _ _ [⟨960, some _, false, 1, _⟩, ⟨961, some _, false, 1, _⟩, ⟨962, some _, false, 1, _⟩] [] _ (by simp -implicitDefEqProofs (maxSteps := 2000000) only [go_sem] <;> and_intros <;> rfl) (by simp -implicitDefEqProofs (maxSteps := 2000000) only [go_sem] <;> and_intros <;> rfl) (by simp -implicitDefEqProofs (maxSteps := 2000000) only [go_sem] <;> and_intros <;> rfl) (by rfl)) ?_
        rintro j rfl
        rcases k4 : decide ((0 : Int) < V.length)
        · simp -implicitDefEqProofs (maxSteps := 2000000) only [go_sem, k4, wi]
          refine ⟨i + 1, k2, by omega, ?_⟩
          rw [hfire, fireG, d1]
          exact (le_st' _ _ [⟨960, some _, false, 1, _⟩, ⟨962, some _, false, 1, _⟩] [] _ (by simp -implicitDefEqProofs (maxSteps := 2000000) only [go_sem] <;> and_intros <;> rfl) (by simp -implicitDefEqProofs (maxSteps := 2000000) only [go_sem] <;> and_intros <;> rfl) (by simp -implicitDefEqProofs (maxSteps := 2000000) only [go_sem] <;> and_intros <;> rfl) (by rfl))
        · simp -implicitDefEqProofs (maxSteps := 2000000) only [go_sem, k4, wi]
          refine ⟨i + 1, k2, by omega, ?_⟩
          rw [hfire, fireG, d1]
          exact (le_st' _ _ [⟨960, some _, false, 1, _⟩, ⟨962, some _, false, 1, _⟩] [] _ (by simp -implicitDefEqProofs (maxSteps := 2000000) only [go_sem] <;> and_intros <;> rfl) (by simp -implicitDefEqProofs (maxSteps := 2000000) only [go_sem] <;> and_intros <;> rfl) (by simp -implicitDefEqProofs (maxSteps := 2000000) only [go_sem] <;> and_intros <;> rfl) (by rfl))
      · refine awp_loop Nat (fun j => mkSt [(0, .one (.im 3 (rels l))), (2, .sc (.int .i64 m)), (4, .one (.vad 1000 0)), (7, .one (.ref 960 1 0 (addJ L V P j).length)), (8, .one (.ref 962 1 0 P.length)), (9, .sc (.int .i64 n)), (10, .sc (.int .i64 i)), (11, .one (.ref 961 1 0 V.length)), (12, .sc (.bool true)), (14, .sc (.int .i64 j))] [(1000, sQu q)] [(960, (1, ints (addJ L V P j))), (961, (1, ints V)), (962, (1, ints P))] 10000)
          (fun j => j ≤ V.length) (fun j => V.length - j) 0 (by omega) (by rw [hzero]; exact (le_st' _ _ [⟨960, some _, false, 1, _⟩, ⟨961, some _, false, 1, _⟩, ⟨962, some _, false, 1, _⟩] [] _ (by simp -implicitDefEqProofs (maxSteps := 2000000) only [go_sem] <;> and_intros <;> rfl) (by simp -implicitDefEqProofs (maxSteps := 2000000) only [go_sem] <;> and_intros <;> rfl) (by simp -implicitDefEqProofs (maxSteps := 2000000) only [go_sem] <;> and_intros <;> rfl) (by rfl))) ?_
        rintro j h5
        have hal := addJ_len L V P j
        by_cases k4 : j < V.length
        · have wj : IntKind.i64.wrap ((j : Int) + 1) = ((j + 1 : Nat) : Int) := i64_succ (by omega)
          rcases d2 : decide (V.getD j 0 ∈ P)
          · have htk := addJ_take (c := L) (v := V) k4 d2
            simp -implicitDefEqProofs (maxSteps := 2000000) only [go_sem, k4]
            refine call_of (l7Has_sat P (V.getD j 0) (by omega)) (by simp -implicitDefEqProofs (maxSteps := 2000000) only [go_sem, d2, k4]) (by kernel_rfl) (by simp -implicitDefEqProofs (maxSteps := 2000000) only [go_sem, d2, k4]) ?_
            simp -implicitDefEqProofs (maxSteps := 2000000) only [go_sem, d2, k4]
            refine call_of (l14Both_sat (addJ L V P j) [V.getD j 0] (by omega) (by simp)) (by simp -implicitDefEqProofs (maxSteps := 2000000) only [go_sem, htk]) (callOk_still (by kernel_rfl) (by simp only [List.all_cons, List.all_nil, LV.still, LV.leaves, Leaf.still, ints_still, ris_still, eds_still, rels_still, iss_still, Bool.and_self, Bool.and_true])) (by simp -implicitDefEqProofs (maxSteps := 2000000) only [go_sem, htk]) ?_
            simp -implicitDefEqProofs (maxSteps := 2000000) only [go_sem, htk]
            rw [wj]
            refine ⟨j + 1, k4, by omega, ?_⟩
            exact (le_st' _ _ [⟨960, some _, false, 1, _⟩, ⟨961, some _, false, 1, _⟩, ⟨962, some _, false, 1, _⟩] [] _ (by simp -implicitDefEqProofs (maxSteps := 2000000) only [go_sem, htk] <;> and_intros <;> rfl) (by simp -implicitDefEqProofs (maxSteps := 2000000) only [go_sem, htk] <;> and_intros <;> rfl) (by simp -implicitDefEqProofs (maxSteps := 2000000) only [go_sem, htk] <;> and_intros <;> rfl) (by rfl))
          · simp -implicitDefEqProofs (maxSteps := 2000000) only [go_sem, k4]
            refine call_of (l7Has_sat P (V.getD j 0) (by omega)) (by simp -implicitDefEqProofs (maxSteps := 2000000) only [go_sem, d2, k4]) (by kernel_rfl) (by simp -implicitDefEqProofs (maxSteps := 2000000) only [go_sem, d2, k4]) ?_
            simp -implicitDefEqProofs (maxSteps := 2000000) only [go_sem, d2, k4]
            rw [wj]
            refine ⟨j + 1, k4, by omega, ?_⟩
            rw [addJ_skip k4 d2]
            exact (le_st' _ _ [⟨960, some _, false, 1, _⟩, ⟨961, some _, false, 1, _⟩, ⟨962, some _, false, 1, _⟩] [] _ (by simp -implicitDefEqProofs (maxSteps := 2000000) only [go_sem] <;> and_intros <;> rfl) (by simp -implicitDefEqProofs (maxSteps := 2000000) only [go_sem] <;> and_intros <;> rfl) (by simp -implicitDefEqProofs (maxSteps := 2000000) only [go_sem] <;> and_intros <;> rfl) (by rfl))
        · obtain rfl : j = V.length := by omega
          simp -implicitDefEqProofs (maxSteps := 2000000) only [go_sem, k4, wi]
          refine ⟨i + 1, k2, by omega, ?_⟩
          rw [hfire, fireG, d1, if_pos rfl, ← hfull]
          exact (le_st' _ _ [⟨960, some _, false, 1, _⟩, ⟨962, some _, false, 1, _⟩] [] _ (by simp -implicitDefEqProofs (maxSteps := 2000000) only [go_sem] <;> and_intros <;> rfl) (by simp -implicitDefEqProofs (maxSteps := 2000000) only [go_sem] <;> and_intros <;> rfl) (by simp -implicitDefEqProofs (maxSteps := 2000000) only [go_sem] <;> and_intros <;> rfl) (by rfl))
    · obtain rfl : i = q.atoms.length := by omega
      simp -implicitDefEqProofs (maxSteps := 2000000) only [go_sem, k2, wn]
      refine ⟨n + 1, by omega, by omega, ?_⟩
      rw [show iterG (condS q.atoms P m) (outs q.atoms P) q.atoms.length [] (n + 1) = passG (condS q.atoms P m) (outs q.atoms P) c q.atoms.length by rw [← hc]; rfl]
      exact (le_st' _ _ [⟨960, some _, false, 1, _⟩, ⟨962, some _, false, 1, _⟩] [] _ (by simp -implicitDefEqProofs (maxSteps := 2000000) only [go_sem] <;> and_intros <;> rfl) (by simp -implicitDefEqProofs (maxSteps := 2000000) only [go_sem] <;> and_intros <;> rfl) (by simp -implicitDefEqProofs (maxSteps := 2000000) only [go_sem] <;> and_intros <;> rfl) (by rfl))
  · obtain rfl : n = q.atoms.length + 1 := by omega
    simp -implicitDefEqProofs (maxSteps := 2000000) only [go_sem, k1]
    first | done | rfl | exact ⟨rfl, rfl⟩ | exact ⟨rfl, rfl, rfl⟩ | (refine tr_and ?_ ?_ <;> first | rfl | exact ⟨rfl, rfl⟩ | kernel_rfl)
/-! #### does an atom attack another -/
def hasA (l : List Rel) (q : Qu) (i k : Int) : Bool := goodQu l q && (inB i 0 ((q.atoms.length : Int) - 1) && (inB k 0 ((q.atoms.length : Int) - 1) && ((i != k) && meetB (varsOf (q.atoms.getD k.toNat default).l) (attV l q i))))
theorem any_at {l : List Int} {p : Int → Bool} {k : Nat} (h : k < l.length) (hp : p (l.getD k 0) = true) : l.any p = true := List.any_eq_true.mpr ⟨_, mem_getD 0 h, hp⟩
theorem specHasAttack_sat (l : List Rel) (q : Qu) (i k : Int) (hl : l.length ≤ 9223372036854775807) (hq : q.fit) : Sat Try.prog 22 [lRels l, lQu q, lInt i, lInt k] [lBool (hasA l q i k)] [g1, g3, g1, g1] := by
  refine sat_of_body mixed Try.func22 rfl (by kernel_rfl) (by kernel_rfl) (rs := [.tmp 8]) rfl rfl rfl ?_
  have hb := hq.1.1
  have w0 : IntKind.i64.wrap ((q.atoms.length : Int) - 1) = (q.atoms.length : Int) - 1 := IntWalk.i64_in _ (by omega)
  simp -implicitDefEqProofs (maxSteps := 2000000) only [go_sem]
  rcases g : goodQu l q
  · rw [show hasA l q i k = false by rw [hasA, g]; rfl]
    refine call_of (specIsValidQuery_sat l q hl hq) (by simp -implicitDefEqProofs (maxSteps := 2000000) only [go_sem, g]) (by kernel_rfl) (by simp -implicitDefEqProofs (maxSteps := 2000000) only [go_sem, g]) ?_
    simp -implicitDefEqProofs (maxSteps := 2000000) only [go_sem, g]
  rcases i1 : inB i 0 ((q.atoms.length : Int) - 1)
  · rw [show hasA l q i k = false by rw [hasA, i1]; simp]
    refine call_of (specIsValidQuery_sat l q hl hq) (by simp -implicitDefEqProofs (maxSteps := 2000000) only [go_sem, g, w0]) (by kernel_rfl) (by simp -implicitDefEqProofs (maxSteps := 2000000) only [go_sem, g, w0]) ?_
    simp -implicitDefEqProofs (maxSteps := 2000000) only [go_sem, g, w0]
    refine call_of (inB_sat i 0 ((q.atoms.length : Int) - 1)) (by simp -implicitDefEqProofs (maxSteps := 2000000) only [go_sem, i1]) (by kernel_rfl) (by simp -implicitDefEqProofs (maxSteps := 2000000) only [go_sem, i1]) ?_
    simp -implicitDefEqProofs (maxSteps := 2000000) only [go_sem, i1]
  rcases i2 : inB k 0 ((q.atoms.length : Int) - 1)
  · rw [show hasA l q i k = false by rw [hasA, i2]; simp]
    refine call_of (specIsValidQuery_sat l q hl hq) (by simp -implicitDefEqProofs (maxSteps := 2000000) only [go_sem, g, w0]) (by kernel_rfl) (by simp -implicitDefEqProofs (maxSteps := 2000000) only [go_sem, g, w0]) ?_
    simp -implicitDefEqProofs (maxSteps := 2000000) only [go_sem, g, w0]
    refine call_of (inB_sat i 0 ((q.atoms.length : Int) - 1)) (by simp -implicitDefEqProofs (maxSteps := 2000000) only [go_sem, i1, w0]) (by kernel_rfl) (by simp -implicitDefEqProofs (maxSteps := 2000000) only [go_sem, i1, w0]) ?_
    simp -implicitDefEqProofs (maxSteps := 2000000) only [go_sem, i1, w0]
    refine call_of (inB_sat k 0 ((q.atoms.length : Int) - 1)) (by simp -implicitDefEqProofs (maxSteps := 2000000) only [go_sem, i2]) (by kernel_rfl) (by simp -implicitDefEqProofs (maxSteps := 2000000) only [go_sem, i2]) ?_
    simp -implicitDefEqProofs (maxSteps := 2000000) only [go_sem, i2]
  rcases d1 : i == k
  case true =>
    rw [show hasA l q i k = false by rw [hasA, bne, d1]; simp]
    refine call_of (specIsValidQuery_sat l q hl hq) (by simp -implicitDefEqProofs (maxSteps := 2000000) only [go_sem, g, w0]) (by kernel_rfl) (by simp -implicitDefEqProofs (maxSteps := 2000000) only [go_sem, g, w0]) ?_
    simp -implicitDefEqProofs (maxSteps := 2000000) only [go_sem, g, w0]
    refine call_of (inB_sat i 0 ((q.atoms.length : Int) - 1)) (by simp -implicitDefEqProofs (maxSteps := 2000000) only [go_sem, i1, w0]) (by kernel_rfl) (by simp -implicitDefEqProofs (maxSteps := 2000000) only [go_sem, i1, w0]) ?_
    simp -implicitDefEqProofs (maxSteps := 2000000) only [go_sem, i1, w0]
    refine call_of (inB_sat k 0 ((q.atoms.length : Int) - 1)) (by simp -implicitDefEqProofs (maxSteps := 2000000) only [go_sem, i2, d1]) (by kernel_rfl) (by simp -implicitDefEqProofs (maxSteps := 2000000) only [go_sem, i2, d1]) ?_
    simp -implicitDefEqProofs (maxSteps := 2000000) only [go_sem, i2, d1]
  obtain ⟨r3, r4⟩ := inB_of i2
  obtain ⟨m, rfl⟩ : ∃ m : Nat, k = m := ⟨k.toNat, by omega⟩
  have c2 : m < q.atoms.length := by omega
  rw [show hasA l q i m = meetB (varsOf (q.atoms.getD m default).l) (attV l q i) by rw [hasA, g, i1, i2, bne, d1]; rfl]
  have hA := (attV_small l q i).len
  have hfa := hq.1.2 _ (mem_getD default c2)
  have hvl := varsOf_len (q.atoms.getD m default).l
  refine call_of (specIsValidQuery_sat l q hl hq) (by simp -implicitDefEqProofs (maxSteps := 2000000) only [go_sem, g, w0]) (by kernel_rfl) (by simp -implicitDefEqProofs (maxSteps := 2000000) only [go_sem, g, w0]) ?_
  simp -implicitDefEqProofs (maxSteps := 2000000) only [go_sem, g, w0]
  refine call_of (inB_sat i 0 ((q.atoms.length : Int) - 1)) (by simp -implicitDefEqProofs (maxSteps := 2000000) only [go_sem, i1, w0]) (by kernel_rfl) (by simp -implicitDefEqProofs (maxSteps := 2000000) only [go_sem, i1, w0]) ?_
  simp -implicitDefEqProofs (maxSteps := 2000000) only [go_sem, i1, w0]
  refine call_of (inB_sat m 0 ((q.atoms.length : Int) - 1)) (by simp -implicitDefEqProofs (maxSteps := 2000000) only [go_sem, i2, d1]) (by kernel_rfl) (by simp -implicitDefEqProofs (maxSteps := 2000000) only [go_sem, i2, d1]) ?_
  simp -implicitDefEqProofs (maxSteps := 2000000) only [go_sem, i2, d1]
  refine call_of (specAttackedVariables_sat l q i hl hq) (by simp -implicitDefEqProofs (maxSteps := 2000000) only [go_sem, c2]) (callOk_still (by kernel_rfl) (by simp only [List.all_cons, List.all_nil, LV.still, LV.leaves, Leaf.still, ints_still, ris_still, eds_still, rels_still, iss_still, Bool.and_self, Bool.and_true])) (by simp -implicitDefEqProofs (maxSteps := 2000000) only [go_sem, c2]) ?_
  simp -implicitDefEqProofs (maxSteps := 2000000) only [go_sem, c2]
  refine call_of (specAtomVariables_sat (q.atoms.getD m default) hfa) (by simp -implicitDefEqProofs (maxSteps := 2000000) only [go_sem, c2]) (callOk_still (by kernel_rfl) (by simp only [List.all_cons, List.all_nil, LV.still, LV.leaves, Leaf.still, ints_still, ris_still, eds_still, rels_still, iss_still, Bool.and_self, Bool.and_true])) (by simp -implicitDefEqProofs (maxSteps := 2000000) only [go_sem, c2]) ?_
  simp -implicitDefEqProofs (maxSteps := 2000000) only [go_sem, c2]
  generalize varsOf (q.atoms.getD m default).l = V at hvl ⊢
  generalize attV l q i = A0 at hA ⊢
  unfold meetB
  refine awp_loop Nat (fun j => mkSt [(9, .one (.ref 960 1 0 A0.length)), (10, .one (.ref 961 1 0 V.length)), (11, .sc (.int .i64 j))] [] [(960, (1, ints A0)), (961, (1, ints V))] 8000)
    (fun j => j ≤ V.length ∧ ((V.take j).any fun x => decide (x ∈ A0)) = false) (fun j => V.length - j) 0 ⟨by omega, rfl⟩ (le_st' _ _ [⟨960, some _, false, 1, _⟩, ⟨961, some _, false, 1, _⟩] [] _ (by simp -implicitDefEqProofs (maxSteps := 2000000) only [go_sem] <;> and_intros <;> rfl) (by simp -implicitDefEqProofs (maxSteps := 2000000) only [go_sem] <;> and_intros <;> rfl) (by simp -implicitDefEqProofs (maxSteps := 2000000) only [go_sem] <;> and_intros <;> rfl) (by rfl)) ?_
  rintro j ⟨h4, h5⟩
  by_cases k3 : j < V.length
  · have st := any_stepA (d := 0) (p := fun x => decide (x ∈ A0)) k3
    rcases d2 : decide (V.getD j 0 ∈ A0)
    · simp -implicitDefEqProofs (maxSteps := 2000000) only [go_sem, k3]
      refine call_of (l7Has_sat A0 (V.getD j 0) (by omega)) (by simp -implicitDefEqProofs (maxSteps := 2000000) only [go_sem, d2]) (by kernel_rfl) (by simp -implicitDefEqProofs (maxSteps := 2000000) only [go_sem, d2]) ?_
      simp -implicitDefEqProofs (maxSteps := 2000000) only [go_sem, d2]
      rw [i64_succ (by omega)]
      exact ⟨j + 1, ⟨k3, by rw [st, h5, d2]; rfl⟩, by omega, (le_st' _ _ [⟨960, some _, false, 1, _⟩, ⟨961, some _, false, 1, _⟩] [] _ (by simp -implicitDefEqProofs (maxSteps := 2000000) only [go_sem] <;> and_intros <;> rfl) (by simp -implicitDefEqProofs (maxSteps := 2000000) only [go_sem] <;> and_intros <;> rfl) (by simp -implicitDefEqProofs (maxSteps := 2000000) only [go_sem] <;> and_intros <;> rfl) (by rfl))⟩
    · rw [any_at k3 d2]
      simp -implicitDefEqProofs (maxSteps := 2000000) only [go_sem, k3]
      refine call_of (l7Has_sat A0 (V.getD j 0) (by omega)) (by simp -implicitDefEqProofs (maxSteps := 2000000) only [go_sem, d2]) (by kernel_rfl) (by simp -implicitDefEqProofs (maxSteps := 2000000) only [go_sem, d2]) ?_
      simp -implicitDefEqProofs (maxSteps := 2000000) only [go_sem, d2]
  · obtain rfl : j = V.length := by omega
    rw [List.take_length] at h5
    rw [h5]
    simp -implicitDefEqProofs (maxSteps := 2000000) only [go_sem, k3]
theorem attacks_sat (l : List Rel) (ats : List RI) (fr : List Int) (i k : Nat) (hl : l.length ≤ 9223372036854775807) (ha : ats.length ≤ 1048576) (hx : ∀ x ∈ ats, x.ok) (hf : fr.length ≤ 1048576) (hi : i < ats.length) (hk : k < ats.length) (hs : Small (uni (fr ++ keyVars l (ats.getD i default)) [])) :
    Sat Try.prog 52 [lRels l, lRIs ats, lInts fr, lInt i, lInt k] [lBool (((i : Int) != k) && meetB (varsOf (ats.getD k default).l) (att ats (clos l ats i (uni (fr ++ keyVars l (ats.getD i default)) [])) i))] [g1, g1, g1, g1, g1] := by
  refine sat_of_body mixed Try.func52 rfl (by kernel_rfl) (by kernel_rfl) (rs := [.tmp 10]) rfl rfl rfl ?_
  have hvl := varsOf_len (ats.getD k default).l
  have hA := (att_small ats (clos l ats i (uni (fr ++ keyVars l (ats.getD i default)) [])) i).len
  simp -implicitDefEqProofs (maxSteps := 2000000) only [go_sem, hk]
  refine call_of (implAtomVariables_sat (ats.getD k default) (hx _ (mem_getD default hk))) (by simp -implicitDefEqProofs (maxSteps := 2000000) only [go_sem, hk]) (callOk_still (by kernel_rfl) (by simp only [List.all_cons, List.all_nil, LV.still, LV.leaves, Leaf.still, ints_still, ris_still, eds_still, rels_still, iss_still, Bool.and_self, Bool.and_true])) (by simp -implicitDefEqProofs (maxSteps := 2000000) only [go_sem, hk]) ?_
  simp -implicitDefEqProofs (maxSteps := 2000000) only [go_sem, hk]
  rcases d1 : ((i : Int) != k)
  · simp -implicitDefEqProofs (maxSteps := 2000000) only [go_sem, d1]
  simp -implicitDefEqProofs (maxSteps := 2000000) only [go_sem, d1]
  refine call_of (attacked_sat l ats fr i hl ha hx hf hi hs) (by simp -implicitDefEqProofs (maxSteps := 2000000) only [go_sem]) (callOk_still (by kernel_rfl) (by simp only [List.all_cons, List.all_nil, LV.still, LV.leaves, Leaf.still, ints_still, ris_still, eds_still, rels_still, iss_still, Bool.and_self, Bool.and_true])) (by simp -implicitDefEqProofs (maxSteps := 2000000) only [go_sem]) ?_
  simp -implicitDefEqProofs (maxSteps := 2000000) only [go_sem]
  have hw := without_meets (varsOf (ats.getD k default).l) (att ats (clos l ats i (uni (fr ++ keyVars l (ats.getD i default)) [])) i)
  refine call_of (without_sat (varsOf (ats.getD k default).l) (att ats (clos l ats i (uni (fr ++ keyVars l (ats.getD i default)) [])) i) (by omega) (by omega)) (by simp -implicitDefEqProofs (maxSteps := 2000000) only [go_sem, hw]) (callOk_still (by kernel_rfl) (by simp only [List.all_cons, List.all_nil, LV.still, LV.leaves, Leaf.still, ints_still, ris_still, eds_still, rels_still, iss_still, Bool.and_self, Bool.and_true])) (by simp -implicitDefEqProofs (maxSteps := 2000000) only [go_sem, hw]) ?_
  simp -implicitDefEqProofs (maxSteps := 2000000) only [go_sem, hw]
theorem implHasAttack_sat (l : List Rel) (q : Qu) (i k : Int) (hl : l.length ≤ 9223372036854775807) (hq : q.ok) : Sat Try.prog 23 [lRels l, lQu q, lInt i, lInt k] [lBool (hasA l q i k)] [g1, g3, g1, g1] := by
  refine sat_of_body mixed Try.func23 rfl (by kernel_rfl) (by kernel_rfl) (rs := [.tmp 8]) rfl rfl rfl ?_
  have hb := hq.1.1
  have w0 : IntKind.i64.wrap ((q.atoms.length : Int) - 1) = (q.atoms.length : Int) - 1 := IntWalk.i64_in _ (by omega)
  simp -implicitDefEqProofs (maxSteps := 2000000) only [go_sem, w0]
  unfold hasA
  rcases g : goodQu l q
  · refine call_of (implIsValidQuery_sat l q hl hq) (by simp -implicitDefEqProofs (maxSteps := 2000000) only [go_sem, g]) (by kernel_rfl) (by simp -implicitDefEqProofs (maxSteps := 2000000) only [go_sem, g]) ?_
    simp -implicitDefEqProofs (maxSteps := 2000000) only [go_sem, g]
  refine call_of (implIsValidQuery_sat l q hl hq) (by simp -implicitDefEqProofs (maxSteps := 2000000) only [go_sem, g]) (by kernel_rfl) (by simp -implicitDefEqProofs (maxSteps := 2000000) only [go_sem, g]) ?_
  simp -implicitDefEqProofs (maxSteps := 2000000) only [go_sem, g]
  rcases i1 : inB i 0 ((q.atoms.length : Int) - 1)
  · refine call_of (inW_sat i 0 ((q.atoms.length : Int) - 1)) (by simp -implicitDefEqProofs (maxSteps := 2000000) only [go_sem, i1]) (by kernel_rfl) (by simp -implicitDefEqProofs (maxSteps := 2000000) only [go_sem, i1]) ?_
    simp -implicitDefEqProofs (maxSteps := 2000000) only [go_sem, i1]
  refine call_of (inW_sat i 0 ((q.atoms.length : Int) - 1)) (by simp -implicitDefEqProofs (maxSteps := 2000000) only [go_sem, i1]) (by kernel_rfl) (by simp -implicitDefEqProofs (maxSteps := 2000000) only [go_sem, i1]) ?_
  simp -implicitDefEqProofs (maxSteps := 2000000) only [go_sem, i1]
  rcases i2 : inB k 0 ((q.atoms.length : Int) - 1)
  · refine call_of (inW_sat k 0 ((q.atoms.length : Int) - 1)) (by simp -implicitDefEqProofs (maxSteps := 2000000) only [go_sem, i2]) (by kernel_rfl) (by simp -implicitDefEqProofs (maxSteps := 2000000) only [go_sem, i2]) ?_
    simp -implicitDefEqProofs (maxSteps := 2000000) only [go_sem, i2]
  refine call_of (inW_sat k 0 ((q.atoms.length : Int) - 1)) (by simp -implicitDefEqProofs (maxSteps := 2000000) only [go_sem, i2]) (by kernel_rfl) (by simp -implicitDefEqProofs (maxSteps := 2000000) only [go_sem, i2]) ?_
  simp -implicitDefEqProofs (maxSteps := 2000000) only [go_sem, i2]
  obtain ⟨r1, r2⟩ := inB_of i1
  obtain ⟨n, rfl⟩ : ∃ m : Nat, i = m := ⟨i.toNat, by omega⟩
  obtain ⟨r3, r4⟩ := inB_of i2
  obtain ⟨m, rfl⟩ : ∃ m : Nat, k = m := ⟨k.toNat, by omega⟩
  have c1 : n < q.atoms.length := by omega
  refine call_of (attacks_sat l q.atoms q.free n m hl hq.1.1 hq.1.2 hq.2 c1 (by omega) (by rw [start_keys g]; exact start_small _ _)) (by simp -implicitDefEqProofs (maxSteps := 2000000) only [go_sem]) (by kernel_rfl) (by simp -implicitDefEqProofs (maxSteps := 2000000) only [go_sem]) ?_
  simp -implicitDefEqProofs (maxSteps := 2000000) only [go_sem]
  rw [attV_eq g c1]
  rfl
end Go.Proofs.Ytoinfljgjdmooaa.A
