
/- DENIAL CONSTRAINTS: data, validity, violation. Conditions: none. -/
import Derived.Test.YtobdhbgkmdmpmabAFW
namespace Go.Proofs.Ytobdhbgkmdmpmab.A
open Go
set_option linter.unusedSimpArgs false
set_option linter.unusedVariables false
set_option maxRecDepth 100000

structure Den where
  fr : Int
  sr : Int
  fj : Int
  sj : Int
  fc : Int
  sc : Int
  cp : Int
  deriving DecidableEq
instance : Inhabited Den := ⟨⟨0, 0, 0, 0, 0, 0, 0⟩⟩
def cDen (x : Den) : List Cell := [.sc (.int .i64 x.fr), .sc (.int .i64 x.sr), .sc (.int .i64 x.fj), .sc (.int .i64 x.sj), .sc (.int .i64 x.fc), .sc (.int .i64 x.sc), .sc (.int .i64 x.cp)]
def dens (l : List Den) : Rows := l.map cDen
theorem dens_length (l : List Den) : (dens l).length = l.length := by simp [dens]
theorem dens_get {l : List Den} {i : Nat} (h : i < l.length) : (dens l).getD i [] = [.sc (.int .i64 (l.getD i default).fr), .sc (.int .i64 (l.getD i default).sr), .sc (.int .i64 (l.getD i default).fj), .sc (.int .i64 (l.getD i default).sj), .sc (.int .i64 (l.getD i default).fc), .sc (.int .i64 (l.getD i default).sc), .sc (.int .i64 (l.getD i default).cp)] := get_map default cDen h
theorem dens_frz (l : List Den) : frz (dens l) = dens l := frz_map _ _ (fun _ => rfl) l
theorem dens_rst (l : List Den) : rst (dens l) = dens l := rst_map _ _ (fun _ => rfl) l
theorem dens_stm (n : Nat) (l : List Den) : stm n (dens l) = dens l := stm_map n _ _ (fun _ => rfl) l
theorem dens_flat (l : List Den) : flatB (dens l) = true := by simp [flatB, dens, cDen, Cell.flatB]
theorem dens_take (l : List Den) (k : Nat) : (dens l).take k = dens (l.take k) := by simp [dens]
theorem dens_drop (l : List Den) (k : Nat) : (dens l).drop k = dens (l.drop k) := by simp [dens]
theorem dens_set (l : List Den) (i : Nat) (a b c d e f g : Int) : (dens l).set i [.sc (.int .i64 a), .sc (.int .i64 b), .sc (.int .i64 c), .sc (.int .i64 d), .sc (.int .i64 e), .sc (.int .i64 f), .sc (.int .i64 g)] = dens (l.set i ⟨a, b, c, d, e, f, g⟩) := by simp [dens, List.map_set, cDen]
theorem dens_rep (n : Nat) (a b c d e f g : Int) : List.replicate n [Cell.sc (.int .i64 a), .sc (.int .i64 b), .sc (.int .i64 c), .sc (.int .i64 d), .sc (.int .i64 e), .sc (.int .i64 f), .sc (.int .i64 g)] = dens (List.replicate n ⟨a, b, c, d, e, f, g⟩) := by simp [dens, cDen]
theorem dens_still (l : List Den) : stillRows (dens l) = true := by simp [stillRows, dens, cDen, Cell.still]
attribute [go_sem] dens_length dens_get dens_frz dens_rst dens_stm dens_flat dens_take dens_drop dens_set dens_rep
abbrev lDen (x : Den) : LV := .agg [.sc (.int .i64 x.fr), .sc (.int .i64 x.sr), .sc (.int .i64 x.fj), .sc (.int .i64 x.sj), .sc (.int .i64 x.fc), .sc (.int .i64 x.sc), .sc (.int .i64 x.cp)]
abbrev sDen (x : Den) : List SV := [.sc (.int .i64 x.fr), .sc (.int .i64 x.sr), .sc (.int .i64 x.fj), .sc (.int .i64 x.sj), .sc (.int .i64 x.fc), .sc (.int .i64 x.sc), .sc (.int .i64 x.cp)]
abbrev lDens (l : List Den) : LV := .one (.im 7 (dens l))
abbrev oDens (l : List Den) : LV := .one (.ow 7 (dens l))
abbrev g7 : LV := .agg [.gone, .gone, .gone, .gone, .gone, .gone, .gone]
theorem toDenialConstraint_sat (x : Den) : Sat Try.prog 30 [lDen x] [lDen x] [g7] := by
  refine sat_of_body mixed Try.func30 rfl (by kernel_rfl) (by kernel_rfl) (rs := [.cell 2 65]) rfl rfl rfl ?_
  simp -implicitDefEqProofs (maxSteps := 2000000) only [go_sem]
theorem toDenialConstraintS_sat (a : List Den) (h : a.length ≤ 1048576) : Sat Try.prog 9 [lDens a] [oDens a] [g1] := by
  refine sat_of_body mixed Try.func9 rfl (by kernel_rfl) (by kernel_rfl) (rs := [.tmp 2]) rfl rfl rfl ?_
  simp -implicitDefEqProofs (maxSteps := 2000000) only [go_sem]
  refine ⟨by omega, ?_⟩
  refine awp_loop (Nat × List Den) (fun x => mkSt [(0, .one (.im 7 (dens a))), (3, .one (.ref 960 7 0 a.length)), (4, .sc (.int .i64 x.1))] [] [(960, (7, dens x.2))] 1000)
    (fun x => x.1 ≤ a.length ∧ x.2.length = a.length ∧ x.2.take x.1 = a.take x.1) (fun x => a.length - x.1) (0, List.replicate a.length ⟨0, 0, 0, 0, 0, 0, 0⟩) ⟨by simp, by simp, by simp⟩ (le_st' _ _ [⟨960, some _, false, 7, _⟩] [] _ (by simp -implicitDefEqProofs (maxSteps := 2000000) only [go_sem] <;> and_intros <;> rfl) (by simp -implicitDefEqProofs (maxSteps := 2000000) only [go_sem] <;> and_intros <;> rfl) (by simp -implicitDefEqProofs (maxSteps := 2000000) only [go_sem] <;> and_intros <;> rfl) (by rfl)) ?_
  rintro ⟨k, b⟩ ⟨h1, h2, h3⟩
  simp only at h1 h2 h3
  by_cases c1 : k < a.length
  · simp -implicitDefEqProofs (maxSteps := 2000000) only [go_sem, c1, h2]
    refine call_of (toDenialConstraint_sat (a.getD k default)) (by simp -implicitDefEqProofs (maxSteps := 2000000) only [go_sem, h2, c1]) (by kernel_rfl) (by simp -implicitDefEqProofs (maxSteps := 2000000) only [go_sem, h2, c1]) ?_
    simp -implicitDefEqProofs (maxSteps := 2000000) only [go_sem, h2, c1]
    rw [i64_succ (by omega)]
    exact ⟨(k + 1, b.set k (a.getD k default)), ⟨c1, by simpa using h2, take_set_snoc default h2 h3 c1⟩, by simp; omega, (le_st' _ _ [⟨960, some _, false, 7, _⟩] [] _ (by simp -implicitDefEqProofs (maxSteps := 2000000) only [go_sem] <;> and_intros <;> rfl) (by simp -implicitDefEqProofs (maxSteps := 2000000) only [go_sem] <;> and_intros <;> rfl) (by simp -implicitDefEqProofs (maxSteps := 2000000) only [go_sem] <;> and_intros <;> rfl) (by rfl))⟩
  · obtain rfl := of_take h2 h3 (by omega)
    simp -implicitDefEqProofs (maxSteps := 2000000) only [go_sem, c1]
    rfl
def szDens (a : List Den) (n : Int) : Int := if n - a.length < 0 then -1 else n - a.length
theorem szDens_ok : SzOk szDens (fun a => a.length ≤ 1048576) := by
  intro a n h
  unfold szDens
  split
  · exact ⟨by omega, fun h => absurd (by omega) h⟩
  · exact ⟨by omega, fun h => by omega⟩
theorem szDenialConstraintS_sat (a : List Den) (n : Int) (h : -1 ≤ n ∧ n ≤ 1048576) (ha : a.length ≤ 9223372036854775807) : Sat Try.prog 6 [lDens a, lInt n] [lInt (szDens a n)] [g1, g1] := by
  unfold szDens
  refine sat_of_body mixed Try.func6 rfl (by kernel_rfl) (by kernel_rfl) (rs := [.tmp 4]) rfl rfl rfl ?_
  simp -implicitDefEqProofs (maxSteps := 2000000) only [go_sem]
  rw [IntWalk.i64_in _ (by omega)]
  refine cond_split (fun d => ?_) fun d => ?_
  · have d := of_decide_eq_true d
    simp -implicitDefEqProofs (maxSteps := 2000000) only [go_sem]
    rw [if_pos d]
  · have d := of_decide_eq_false d
    simp -implicitDefEqProofs (maxSteps := 2000000) only [go_sem]
    rw [if_neg d]
theorem eqDenialConstraint_sat (a b : Den) : Sat Try.prog 39 [lDen a, lDen b] [lBool (decide (a = b))] [g7, g7] := by
  refine sat_of_body mixed Try.func39 rfl (by kernel_rfl) (by kernel_rfl) (rs := [.tmp 4]) rfl rfl rfl ?_
  rcases a with ⟨a1, a2, a3, a4, a5, a6, a7⟩
  rcases b with ⟨b1, b2, b3, b4, b5, b6, b7⟩
  simp -implicitDefEqProofs (maxSteps := 2000000) only [go_sem]
  rcases e1 : a1 != b1
  case true => simp -implicitDefEqProofs (maxSteps := 2000000) only [go_sem, e1]; rw [decide_eq_false (by simp at e1; simp [e1])]
  simp -implicitDefEqProofs (maxSteps := 2000000) only [go_sem, e1]
  rcases e2 : a2 != b2
  case true => simp -implicitDefEqProofs (maxSteps := 2000000) only [go_sem, e2]; rw [decide_eq_false (by simp at e2; simp [e2])]
  simp -implicitDefEqProofs (maxSteps := 2000000) only [go_sem, e2]
  rcases e3 : a3 != b3
  case true => simp -implicitDefEqProofs (maxSteps := 2000000) only [go_sem, e3]; rw [decide_eq_false (by simp at e3; simp [e3])]
  simp -implicitDefEqProofs (maxSteps := 2000000) only [go_sem, e3]
  rcases e4 : a4 != b4
  case true => simp -implicitDefEqProofs (maxSteps := 2000000) only [go_sem, e4]; rw [decide_eq_false (by simp at e4; simp [e4])]
  simp -implicitDefEqProofs (maxSteps := 2000000) only [go_sem, e4]
  rcases e5 : a5 != b5
  case true => simp -implicitDefEqProofs (maxSteps := 2000000) only [go_sem, e5]; rw [decide_eq_false (by simp at e5; simp [e5])]
  simp -implicitDefEqProofs (maxSteps := 2000000) only [go_sem, e5]
  rcases e6 : a6 != b6
  case true => simp -implicitDefEqProofs (maxSteps := 2000000) only [go_sem, e6]; rw [decide_eq_false (by simp at e6; simp [e6])]
  simp -implicitDefEqProofs (maxSteps := 2000000) only [go_sem, e6]
  rcases e7 : a7 != b7
  case true => simp -implicitDefEqProofs (maxSteps := 2000000) only [go_sem, e7]; rw [decide_eq_false (by simp at e7; simp [e7])]
  simp -implicitDefEqProofs (maxSteps := 2000000) only [go_sem, e7]
  rw [decide_eq_true (by simp at e1 e2 e3 e4 e5 e6 e7; simp [e1, e2, e3, e4, e5, e6, e7])]
theorem eqDenialConstraintS_sat (a b : List Den) (ha : a.length ≤ 9223372036854775807) : Sat Try.prog 13 [lDens a, lDens b] [lBool (decide (a = b))] [g1, g1] := by
  refine sat_of_body mixed Try.func13 rfl (by kernel_rfl) (by kernel_rfl) (rs := [.tmp 4]) rfl rfl rfl ?_
  simp -implicitDefEqProofs (maxSteps := 2000000) only [go_sem]
  refine cond_split (fun d => ?_) fun d => ?_
  · simp -implicitDefEqProofs (maxSteps := 2000000) only [go_sem]
    have d : ¬ (a.length : Int) = b.length := by simpa using d
    rw [decide_eq_false (fun h => d (by rw [h]))]
  have d : a.length = b.length := cast_ne d
  simp -implicitDefEqProofs (maxSteps := 2000000) only [go_sem]
  refine awp_loop Nat (fun k => mkSt [(0, .one (.im 7 (dens a))), (1, .one (.im 7 (dens b))), (5, .sc (.int .i64 k))] [] [] 1000)
    (fun k => k ≤ a.length ∧ a.take k = b.take k) (fun k => a.length - k) 0 ⟨by omega, rfl⟩ (le_st _ _ [] [] _ rfl (by simp -implicitDefEqProofs (maxSteps := 2000000) only [go_sem] <;> rfl) trivial trivial) ?_
  rintro k ⟨h1, h2⟩
  by_cases c1 : k < a.length
  · have c2 : k < b.length := by omega
    simp -implicitDefEqProofs (maxSteps := 2000000) only [go_sem, c1, c2]
    refine call_of (eqDenialConstraint_sat (a.getD k default) (b.getD k default)) (by simp -implicitDefEqProofs (maxSteps := 2000000) only [go_sem]) (by kernel_rfl) (by simp -implicitDefEqProofs (maxSteps := 2000000) only [go_sem]) ?_
    simp -implicitDefEqProofs (maxSteps := 2000000) only [go_sem]
    refine cond_split (fun e => ?_) fun e => ?_
    · simp -implicitDefEqProofs (maxSteps := 2000000) only [go_sem]
      rw [decide_eq_false (list_ne (d := default) (k := k) (by simpa using e))]
    simp -implicitDefEqProofs (maxSteps := 2000000) only [go_sem]
    rw [i64_succ (by omega)]
    exact ⟨k + 1, ⟨c1, list_step default c1 c2 h2 (by simpa using e)⟩, by omega, (le_st _ _ [] [] _ rfl (by simp -implicitDefEqProofs (maxSteps := 2000000) only [go_sem] <;> rfl) trivial trivial)⟩
  · simp -implicitDefEqProofs (maxSteps := 2000000) only [go_sem, c1]
    rw [List.take_of_length_le (by omega), List.take_of_length_le (by omega)] at h2
    rw [decide_eq_true h2]

/-! #### what validity tells -/
theorem rel_of {l : List Rel} {k : Nat} (h : goodRels l = true) (hk : k < l.length) : (1 ≤ (l.getD k default).ar ∧ (l.getD k default).ar ≤ 3) ∧ 0 ≤ (l.getD k default).kl ∧ (l.getD k default).kl ≤ (l.getD k default).ar := by
  unfold goodRels at h
  rw [Bool.and_eq_true] at h
  have h1 := upTo_at h.1 hk
  unfold relOk goodRel at h1
  simp only [Bool.and_eq_true] at h1
  exact ⟨inB_of h1.1.2.2.2.1, inB_of h1.1.2.2.2.2⟩
theorem db_of {d : Db} (h : goodDb d = true) : goodRels d.rels = true ∧ d.facts.length ≤ 14 ∧ upTo (factOk d) d.facts.length = true := by
  unfold goodDb at h
  simp only [Bool.and_eq_true] at h
  refine ⟨h.1, ?_, h.2.2⟩
  have := of_decide_eq_true h.2.1
  omega
theorem fact_of {d : Db} {k : Nat} (h : goodDb d = true) (hk : k < d.facts.length) : goodFact d.rels (d.facts.getD k default) = true := by
  have h1 := upTo_at (db_of h).2.2 hk
  unfold factOk at h1
  rw [Bool.and_eq_true] at h1
  exact h1.1
theorem fact_at {l : List Rel} {f : RI} (h : goodFact l f = true) : ∃ m : Nat, f.r = m ∧ m < l.length ∧ (f.l.length : Int) = (l.getD m default).ar := by
  unfold goodFact at h
  simp only [Bool.and_eq_true] at h
  obtain ⟨h1, h2⟩ := inB_of h.1
  refine ⟨f.r.toNat, by omega, by omega, eq_of_beq h.2.1⟩

/-! #### valid constraints -/
abbrev arOf (d : Db) (r : Int) : Int := (d.rels.getD r.toNat default).ar
def goodDen (d : Db) (x : Den) : Bool := goodDb d && (inB x.fr 0 ((d.rels.length : Int) - 1) && (inB x.sr 0 ((d.rels.length : Int) - 1) && (inB x.fj 0 (arOf d x.fr - 1) && (inB x.fc 0 (arOf d x.fr - 1) && (inB x.sj 0 (arOf d x.sr - 1) && (inB x.sc 0 (arOf d x.sr - 1) && inB x.cp 1 2))))))
theorem specIsValidConstraint_sat (d : Db) (x : Den) (h : d.fit) : Sat Try.prog 57 [lDb d, lDen x] [lBool (goodDen d x)] [g2, g7] := by
  refine sat_of_body mixed Try.func57 rfl (by kernel_rfl) (by kernel_rfl) (rs := [.tmp 4]) rfl rfl rfl ?_
  rcases x with ⟨fr, sr, fj, sj, fc, sc, cp⟩
  have hb := h.1.1
  have w0 : IntKind.i64.wrap ((d.rels.length : Int) - 1) = (d.rels.length : Int) - 1 := IntWalk.i64_in _ (by omega)
  simp -implicitDefEqProofs (maxSteps := 2000000) only [go_sem]
  rcases g : goodDb d
  · rw [show goodDen d ⟨fr, sr, fj, sj, fc, sc, cp⟩ = false by rw [goodDen, g]; rfl]
    refine call_of (specIsValidDatabase_sat d h) (by simp -implicitDefEqProofs (maxSteps := 2000000) only [go_sem, g]) (by kernel_rfl) (by simp -implicitDefEqProofs (maxSteps := 2000000) only [go_sem, g]) ?_
    simp -implicitDefEqProofs (maxSteps := 2000000) only [go_sem, g]
  rcases i1 : inB fr 0 ((d.rels.length : Int) - 1)
  · rw [show goodDen d ⟨fr, sr, fj, sj, fc, sc, cp⟩ = false by rw [goodDen, g, i1]; rfl]
    refine call_of (specIsValidDatabase_sat d h) (by simp -implicitDefEqProofs (maxSteps := 2000000) only [go_sem, g, w0]) (by kernel_rfl) (by simp -implicitDefEqProofs (maxSteps := 2000000) only [go_sem, g, w0]) ?_
    simp -implicitDefEqProofs (maxSteps := 2000000) only [go_sem, g, w0]
    refine call_of (inB_sat fr 0 ((d.rels.length : Int) - 1)) (by simp -implicitDefEqProofs (maxSteps := 2000000) only [go_sem, i1]) (by kernel_rfl) (by simp -implicitDefEqProofs (maxSteps := 2000000) only [go_sem, i1]) ?_
    simp -implicitDefEqProofs (maxSteps := 2000000) only [go_sem, i1]
  rcases i2 : inB sr 0 ((d.rels.length : Int) - 1)
  · rw [show goodDen d ⟨fr, sr, fj, sj, fc, sc, cp⟩ = false by rw [goodDen, g, i1, i2]; rfl]
    refine call_of (specIsValidDatabase_sat d h) (by simp -implicitDefEqProofs (maxSteps := 2000000) only [go_sem, g, w0]) (by kernel_rfl) (by simp -implicitDefEqProofs (maxSteps := 2000000) only [go_sem, g, w0]) ?_
    simp -implicitDefEqProofs (maxSteps := 2000000) only [go_sem, g, w0]
    refine call_of (inB_sat fr 0 ((d.rels.length : Int) - 1)) (by simp -implicitDefEqProofs (maxSteps := 2000000) only [go_sem, i1, w0]) (by kernel_rfl) (by simp -implicitDefEqProofs (maxSteps := 2000000) only [go_sem, i1, w0]) ?_
    simp -implicitDefEqProofs (maxSteps := 2000000) only [go_sem, i1, w0]
    refine call_of (inB_sat sr 0 ((d.rels.length : Int) - 1)) (by simp -implicitDefEqProofs (maxSteps := 2000000) only [go_sem, i2]) (by kernel_rfl) (by simp -implicitDefEqProofs (maxSteps := 2000000) only [go_sem, i2]) ?_
    simp -implicitDefEqProofs (maxSteps := 2000000) only [go_sem, i2]
  obtain ⟨r1, r2⟩ := inB_of i1
  obtain ⟨m, rfl⟩ : ∃ m : Nat, fr = m := ⟨fr.toNat, by omega⟩
  obtain ⟨r3, r4⟩ := inB_of i2
  obtain ⟨n, rfl⟩ : ∃ n : Nat, sr = n := ⟨sr.toNat, by omega⟩
  have c1 : m < d.rels.length := by omega
  have c2 : n < d.rels.length := by omega
  have o1 := (rel_of (db_of g).1 c1).1
  have o2 := (rel_of (db_of g).1 c2).1
  have w1 : IntKind.i64.wrap ((d.rels.getD m default).ar - 1) = (d.rels.getD m default).ar - 1 := IntWalk.i64_in _ (by omega)
  have w2 : IntKind.i64.wrap ((d.rels.getD n default).ar - 1) = (d.rels.getD n default).ar - 1 := IntWalk.i64_in _ (by omega)
  rw [show goodDen d ⟨m, n, fj, sj, fc, sc, cp⟩ = (inB fj 0 ((d.rels.getD m default).ar - 1) && (inB fc 0 ((d.rels.getD m default).ar - 1) && (inB sj 0 ((d.rels.getD n default).ar - 1) && (inB sc 0 ((d.rels.getD n default).ar - 1) && inB cp 1 2)))) by rw [goodDen, g, i1, i2]; rfl]
  refine call_of (specIsValidDatabase_sat d h) (by simp -implicitDefEqProofs (maxSteps := 2000000) only [go_sem, g, w0]) (by kernel_rfl) (by simp -implicitDefEqProofs (maxSteps := 2000000) only [go_sem, g, w0]) ?_
  simp -implicitDefEqProofs (maxSteps := 2000000) only [go_sem, g, w0]
  refine call_of (inB_sat m 0 ((d.rels.length : Int) - 1)) (by simp -implicitDefEqProofs (maxSteps := 2000000) only [go_sem, i1, w0]) (by kernel_rfl) (by simp -implicitDefEqProofs (maxSteps := 2000000) only [go_sem, i1, w0]) ?_
  simp -implicitDefEqProofs (maxSteps := 2000000) only [go_sem, i1, w0]
  refine call_of (inB_sat n 0 ((d.rels.length : Int) - 1)) (by simp -implicitDefEqProofs (maxSteps := 2000000) only [go_sem, i2, c1, c2, w1, w2]) (by kernel_rfl) (by simp -implicitDefEqProofs (maxSteps := 2000000) only [go_sem, i2, c1, c2, w1, w2]) ?_
  simp -implicitDefEqProofs (maxSteps := 2000000) only [go_sem, i2, c1, c2, w1, w2]
  rcases j1 : inB fj 0 ((d.rels.getD m default).ar - 1)
  · refine call_of (inB_sat fj 0 ((d.rels.getD m default).ar - 1)) (by simp -implicitDefEqProofs (maxSteps := 2000000) only [go_sem, j1]) (by kernel_rfl) (by simp -implicitDefEqProofs (maxSteps := 2000000) only [go_sem, j1]) ?_
    simp -implicitDefEqProofs (maxSteps := 2000000) only [go_sem, j1]
  refine call_of (inB_sat fj 0 ((d.rels.getD m default).ar - 1)) (by simp -implicitDefEqProofs (maxSteps := 2000000) only [go_sem, j1, w1]) (by kernel_rfl) (by simp -implicitDefEqProofs (maxSteps := 2000000) only [go_sem, j1, w1]) ?_
  simp -implicitDefEqProofs (maxSteps := 2000000) only [go_sem, j1, w1]
  rcases j2 : inB fc 0 ((d.rels.getD m default).ar - 1)
  · refine call_of (inB_sat fc 0 ((d.rels.getD m default).ar - 1)) (by simp -implicitDefEqProofs (maxSteps := 2000000) only [go_sem, j2]) (by kernel_rfl) (by simp -implicitDefEqProofs (maxSteps := 2000000) only [go_sem, j2]) ?_
    simp -implicitDefEqProofs (maxSteps := 2000000) only [go_sem, j2]
  refine call_of (inB_sat fc 0 ((d.rels.getD m default).ar - 1)) (by simp -implicitDefEqProofs (maxSteps := 2000000) only [go_sem, j2, w2]) (by kernel_rfl) (by simp -implicitDefEqProofs (maxSteps := 2000000) only [go_sem, j2, w2]) ?_
  simp -implicitDefEqProofs (maxSteps := 2000000) only [go_sem, j2, w2]
  rcases j3 : inB sj 0 ((d.rels.getD n default).ar - 1)
  · refine call_of (inB_sat sj 0 ((d.rels.getD n default).ar - 1)) (by simp -implicitDefEqProofs (maxSteps := 2000000) only [go_sem, j3]) (by kernel_rfl) (by simp -implicitDefEqProofs (maxSteps := 2000000) only [go_sem, j3]) ?_
    simp -implicitDefEqProofs (maxSteps := 2000000) only [go_sem, j3]
  refine call_of (inB_sat sj 0 ((d.rels.getD n default).ar - 1)) (by simp -implicitDefEqProofs (maxSteps := 2000000) only [go_sem, j3, w2]) (by kernel_rfl) (by simp -implicitDefEqProofs (maxSteps := 2000000) only [go_sem, j3, w2]) ?_
  simp -implicitDefEqProofs (maxSteps := 2000000) only [go_sem, j3, w2]
  rcases j4 : inB sc 0 ((d.rels.getD n default).ar - 1)
  · refine call_of (inB_sat sc 0 ((d.rels.getD n default).ar - 1)) (by simp -implicitDefEqProofs (maxSteps := 2000000) only [go_sem, j4]) (by kernel_rfl) (by simp -implicitDefEqProofs (maxSteps := 2000000) only [go_sem, j4]) ?_
    simp -implicitDefEqProofs (maxSteps := 2000000) only [go_sem, j4]
  refine call_of (inB_sat sc 0 ((d.rels.getD n default).ar - 1)) (by simp -implicitDefEqProofs (maxSteps := 2000000) only [go_sem, j4]) (by kernel_rfl) (by simp -implicitDefEqProofs (maxSteps := 2000000) only [go_sem, j4]) ?_
  simp -implicitDefEqProofs (maxSteps := 2000000) only [go_sem, j4]
  refine call_of (inB_sat cp 1 2) (by simp -implicitDefEqProofs (maxSteps := 2000000) only [go_sem]) (by kernel_rfl) (by simp -implicitDefEqProofs (maxSteps := 2000000) only [go_sem]) ?_
  simp -implicitDefEqProofs (maxSteps := 2000000) only [go_sem]
theorem implIsValidConstraint_sat (d : Db) (x : Den) (h : d.fit) : Sat Try.prog 64 [lDb d, lDen x] [lBool (goodDen d x)] [g2, g7] := by
  refine sat_of_body mixed Try.func64 rfl (by kernel_rfl) (by kernel_rfl) (rs := [.tmp 4]) rfl rfl rfl ?_
  rcases x with ⟨fr, sr, fj, sj, fc, sc, cp⟩
  have hb := h.1.1
  have w0 : IntKind.i64.wrap ((d.rels.length : Int) - 1) = (d.rels.length : Int) - 1 := IntWalk.i64_in _ (by omega)
  simp -implicitDefEqProofs (maxSteps := 2000000) only [go_sem]
  rcases g : goodDb d
  · rw [show goodDen d ⟨fr, sr, fj, sj, fc, sc, cp⟩ = false by rw [goodDen, g]; rfl]
    refine call_of (implIsValidDatabase_sat d h) (by simp -implicitDefEqProofs (maxSteps := 2000000) only [go_sem, g]) (by kernel_rfl) (by simp -implicitDefEqProofs (maxSteps := 2000000) only [go_sem, g]) ?_
    simp -implicitDefEqProofs (maxSteps := 2000000) only [go_sem, g]
  rcases i1 : inB fr 0 ((d.rels.length : Int) - 1)
  · rw [show goodDen d ⟨fr, sr, fj, sj, fc, sc, cp⟩ = false by rw [goodDen, g, i1]; rfl]
    refine call_of (implIsValidDatabase_sat d h) (by simp -implicitDefEqProofs (maxSteps := 2000000) only [go_sem, g, w0]) (by kernel_rfl) (by simp -implicitDefEqProofs (maxSteps := 2000000) only [go_sem, g, w0]) ?_
    simp -implicitDefEqProofs (maxSteps := 2000000) only [go_sem, g, w0]
    refine call_of (inW_sat fr 0 ((d.rels.length : Int) - 1)) (by simp -implicitDefEqProofs (maxSteps := 2000000) only [go_sem, i1]) (by kernel_rfl) (by simp -implicitDefEqProofs (maxSteps := 2000000) only [go_sem, i1]) ?_
    simp -implicitDefEqProofs (maxSteps := 2000000) only [go_sem, i1]
  rcases i2 : inB sr 0 ((d.rels.length : Int) - 1)
  · rw [show goodDen d ⟨fr, sr, fj, sj, fc, sc, cp⟩ = false by rw [goodDen, g, i1, i2]; rfl]
    refine call_of (implIsValidDatabase_sat d h) (by simp -implicitDefEqProofs (maxSteps := 2000000) only [go_sem, g, w0]) (by kernel_rfl) (by simp -implicitDefEqProofs (maxSteps := 2000000) only [go_sem, g, w0]) ?_
    simp -implicitDefEqProofs (maxSteps := 2000000) only [go_sem, g, w0]
    refine call_of (inW_sat fr 0 ((d.rels.length : Int) - 1)) (by simp -implicitDefEqProofs (maxSteps := 2000000) only [go_sem, i1, w0]) (by kernel_rfl) (by simp -implicitDefEqProofs (maxSteps := 2000000) only [go_sem, i1, w0]) ?_
    simp -implicitDefEqProofs (maxSteps := 2000000) only [go_sem, i1, w0]
    refine call_of (inW_sat sr 0 ((d.rels.length : Int) - 1)) (by simp -implicitDefEqProofs (maxSteps := 2000000) only [go_sem, i2]) (by kernel_rfl) (by simp -implicitDefEqProofs (maxSteps := 2000000) only [go_sem, i2]) ?_
    simp -implicitDefEqProofs (maxSteps := 2000000) only [go_sem, i2]
  obtain ⟨r1, r2⟩ := inB_of i1
  obtain ⟨m, rfl⟩ : ∃ m : Nat, fr = m := ⟨fr.toNat, by omega⟩
  obtain ⟨r3, r4⟩ := inB_of i2
  obtain ⟨n, rfl⟩ : ∃ n : Nat, sr = n := ⟨sr.toNat, by omega⟩
  have c1 : m < d.rels.length := by omega
  have c2 : n < d.rels.length := by omega
  have o1 := (rel_of (db_of g).1 c1).1
  have o2 := (rel_of (db_of g).1 c2).1
  have w1 : IntKind.i64.wrap ((d.rels.getD m default).ar - 1) = (d.rels.getD m default).ar - 1 := IntWalk.i64_in _ (by omega)
  have w2 : IntKind.i64.wrap ((d.rels.getD n default).ar - 1) = (d.rels.getD n default).ar - 1 := IntWalk.i64_in _ (by omega)
  rw [show goodDen d ⟨m, n, fj, sj, fc, sc, cp⟩ = (inB fj 0 ((d.rels.getD m default).ar - 1) && (inB fc 0 ((d.rels.getD m default).ar - 1) && (inB sj 0 ((d.rels.getD n default).ar - 1) && (inB sc 0 ((d.rels.getD n default).ar - 1) && inB cp 1 2)))) by rw [goodDen, g, i1, i2]; rfl]
  refine call_of (implIsValidDatabase_sat d h) (by simp -implicitDefEqProofs (maxSteps := 2000000) only [go_sem, g, w0]) (by kernel_rfl) (by simp -implicitDefEqProofs (maxSteps := 2000000) only [go_sem, g, w0]) ?_
  simp -implicitDefEqProofs (maxSteps := 2000000) only [go_sem, g, w0]
  refine call_of (inW_sat m 0 ((d.rels.length : Int) - 1)) (by simp -implicitDefEqProofs (maxSteps := 2000000) only [go_sem, i1, w0]) (by kernel_rfl) (by simp -implicitDefEqProofs (maxSteps := 2000000) only [go_sem, i1, w0]) ?_
  simp -implicitDefEqProofs (maxSteps := 2000000) only [go_sem, i1, w0]
  refine call_of (inW_sat n 0 ((d.rels.length : Int) - 1)) (by simp -implicitDefEqProofs (maxSteps := 2000000) only [go_sem, i2, c1, c2, w1, w2]) (by kernel_rfl) (by simp -implicitDefEqProofs (maxSteps := 2000000) only [go_sem, i2, c1, c2, w1, w2]) ?_
  simp -implicitDefEqProofs (maxSteps := 2000000) only [go_sem, i2, c1, c2, w1, w2]
  rcases j1 : inB fj 0 ((d.rels.getD m default).ar - 1)
  · refine call_of (inW_sat fj 0 ((d.rels.getD m default).ar - 1)) (by simp -implicitDefEqProofs (maxSteps := 2000000) only [go_sem, j1]) (by kernel_rfl) (by simp -implicitDefEqProofs (maxSteps := 2000000) only [go_sem, j1]) ?_
    simp -implicitDefEqProofs (maxSteps := 2000000) only [go_sem, j1]
  refine call_of (inW_sat fj 0 ((d.rels.getD m default).ar - 1)) (by simp -implicitDefEqProofs (maxSteps := 2000000) only [go_sem, j1, w1]) (by kernel_rfl) (by simp -implicitDefEqProofs (maxSteps := 2000000) only [go_sem, j1, w1]) ?_
  simp -implicitDefEqProofs (maxSteps := 2000000) only [go_sem, j1, w1]
  rcases j2 : inB fc 0 ((d.rels.getD m default).ar - 1)
  · refine call_of (inW_sat fc 0 ((d.rels.getD m default).ar - 1)) (by simp -implicitDefEqProofs (maxSteps := 2000000) only [go_sem, j2]) (by kernel_rfl) (by simp -implicitDefEqProofs (maxSteps := 2000000) only [go_sem, j2]) ?_
    simp -implicitDefEqProofs (maxSteps := 2000000) only [go_sem, j2]
  refine call_of (inW_sat fc 0 ((d.rels.getD m default).ar - 1)) (by simp -implicitDefEqProofs (maxSteps := 2000000) only [go_sem, j2, w2]) (by kernel_rfl) (by simp -implicitDefEqProofs (maxSteps := 2000000) only [go_sem, j2, w2]) ?_
  simp -implicitDefEqProofs (maxSteps := 2000000) only [go_sem, j2, w2]
  rcases j3 : inB sj 0 ((d.rels.getD n default).ar - 1)
  · refine call_of (inW_sat sj 0 ((d.rels.getD n default).ar - 1)) (by simp -implicitDefEqProofs (maxSteps := 2000000) only [go_sem, j3]) (by kernel_rfl) (by simp -implicitDefEqProofs (maxSteps := 2000000) only [go_sem, j3]) ?_
    simp -implicitDefEqProofs (maxSteps := 2000000) only [go_sem, j3]
  refine call_of (inW_sat sj 0 ((d.rels.getD n default).ar - 1)) (by simp -implicitDefEqProofs (maxSteps := 2000000) only [go_sem, j3, w2]) (by kernel_rfl) (by simp -implicitDefEqProofs (maxSteps := 2000000) only [go_sem, j3, w2]) ?_
  simp -implicitDefEqProofs (maxSteps := 2000000) only [go_sem, j3, w2]
  rcases j4 : inB sc 0 ((d.rels.getD n default).ar - 1)
  · refine call_of (inW_sat sc 0 ((d.rels.getD n default).ar - 1)) (by simp -implicitDefEqProofs (maxSteps := 2000000) only [go_sem, j4]) (by kernel_rfl) (by simp -implicitDefEqProofs (maxSteps := 2000000) only [go_sem, j4]) ?_
    simp -implicitDefEqProofs (maxSteps := 2000000) only [go_sem, j4]
  refine call_of (inW_sat sc 0 ((d.rels.getD n default).ar - 1)) (by simp -implicitDefEqProofs (maxSteps := 2000000) only [go_sem, j4]) (by kernel_rfl) (by simp -implicitDefEqProofs (maxSteps := 2000000) only [go_sem, j4]) ?_
  simp -implicitDefEqProofs (maxSteps := 2000000) only [go_sem, j4]
  refine call_of (inW_sat cp 1 2) (by simp -implicitDefEqProofs (maxSteps := 2000000) only [go_sem]) (by kernel_rfl) (by simp -implicitDefEqProofs (maxSteps := 2000000) only [go_sem]) ?_
  simp -implicitDefEqProofs (maxSteps := 2000000) only [go_sem]
end Go.Proofs.Ytobdhbgkmdmpmab.A
