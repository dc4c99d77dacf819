
/- DENIAL CONSTRAINTS: data, validity, violation. Conditions: none. -/
import Derived.Test.YtkcbnbbbijlhcafAFW
namespace Go.Proofs.Ytkcbnbbbijlhcaf.A
open Go
set_option linter.unusedSimpArgs false
set_option linter.unusedVariables false
set_option maxRecDepth 100000

structure Den where
  fr : Int
  sr : Int
  fj : Int
  sj : Int
  fc : Int
  sc : Int
  cp : Int
  deriving DecidableEq
instance : Inhabited Den := ⟨⟨0, 0, 0, 0, 0, 0, 0⟩⟩
def cDen (x : Den) : List Cell := [.sc (.int .i64 x.fr), .sc (.int .i64 x.sr), .sc (.int .i64 x.fj), .sc (.int .i64 x.sj), .sc (.int .i64 x.fc), .sc (.int .i64 x.sc), .sc (.int .i64 x.cp)]
def dens (l : List Den) : Rows := l.map cDen
theorem dens_length (l : List Den) : (dens l).length = l.length := by simp [dens]
theorem dens_get {l : List Den} {i : Nat} (h : i < l.length) : (dens l).getD i [] = [.sc (.int .i64 (l.getD i default).fr), .sc (.int .i64 (l.getD i default).sr), .sc (.int .i64 (l.getD i default).fj), .sc (.int .i64 (l.getD i default).sj), .sc (.int .i64 (l.getD i default).fc), .sc (.int .i64 (l.getD i default).sc), .sc (.int .i64 (l.getD i default).cp)] := get_map default cDen h
theorem dens_frz (l : List Den) : frz (dens l) = dens l := frz_map _ _ (fun _ => rfl) l
theorem dens_rst (l : List Den) : rst (dens l) = dens l := rst_map _ _ (fun _ => rfl) l
theorem dens_stm (n : Nat) (l : List Den) : stm n (dens l) = dens l := stm_map n _ _ (fun _ => rfl) l
theorem dens_flat (l : List Den) : flatB (dens l) = true := by simp [flatB, dens, cDen, Cell.flatB]
theorem dens_take (l : List Den) (k : Nat) : (dens l).take k = dens (l.take k) := by simp [dens]
theorem dens_drop (l : List Den) (k : Nat) : (dens l).drop k = dens (l.drop k) := by simp [dens]
theorem dens_set (l : List Den) (i : Nat) (a b c d e f g : Int) : (dens l).set i [.sc (.int .i64 a), .sc (.int .i64 b), .sc (.int .i64 c), .sc (.int .i64 d), .sc (.int .i64 e), .sc (.int .i64 f), .sc (.int .i64 g)] = dens (l.set i ⟨a, b, c, d, e, f, g⟩) := by simp [dens, List.map_set, cDen]
theorem dens_rep (n : Nat) (a b c d e f g : Int) : List.replicate n [Cell.sc (.int .i64 a), .sc (.int .i64 b), .sc (.int .i64 c), .sc (.int .i64 d), .sc (.int .i64 e), .sc (.int .i64 f), .sc (.int .i64 g)] = dens (List.replicate n ⟨a, b, c, d, e, f, g⟩) := by simp [dens, cDen]
theorem dens_still (l : List Den) : stillRows (dens l) = true := by simp [stillRows, dens, cDen, Cell.still]
attribute [go_sem] dens_length dens_get dens_frz dens_rst dens_stm dens_flat dens_take dens_drop dens_set dens_rep
abbrev lDen (x : Den) : LV := .agg [.sc (.int .i64 x.fr), .sc (.int .i64 x.sr), .sc (.int .i64 x.fj), .sc (.int .i64 x.sj), .sc (.int .i64 x.fc), .sc (.int .i64 x.sc), .sc (.int .i64 x.cp)]
abbrev sDen (x : Den) : List SV := [.sc (.int .i64 x.fr), .sc (.int .i64 x.sr), .sc (.int .i64 x.fj), .sc (.int .i64 x.sj), .sc (.int .i64 x.fc), .sc (.int .i64 x.sc), .sc (.int .i64 x.cp)]
abbrev lDens (l : List Den) : LV := .one (.im 7 (dens l))
abbrev oDens (l : List Den) : LV := .one (.ow 7 (dens l))
abbrev g7 : LV := .agg [.gone, .gone, .gone, .gone, .gone, .gone, .gone]
theorem toDenialConstraint_sat (x : Den) : Sat Try.prog 7 [lDen x] [lDen x] [g7] := by
  refine sat_of_body mixed Try.func7 rfl (by kernel_rfl) (by kernel_rfl) (rs := [.cell 2 35]) rfl rfl rfl ?_
  simp -implicitDefEqProofs only [go_sem]
def szDens (a : List Den) (n : Int) : Int := if n - a.length < 0 then -1 else n - a.length
theorem szDens_ok : SzOk szDens (fun a => a.length ≤ 1048576) := by
  intro a n h
  unfold szDens
  split
  · exact ⟨by omega, fun h => absurd (by omega) h⟩
  · exact ⟨by omega, fun h => by omega⟩
theorem rel_of {l : List Rel} {k : Nat} (h : goodRels l = true) (hk : k < l.length) : (1 ≤ (l.getD k default).ar ∧ (l.getD k default).ar ≤ 3) ∧ 0 ≤ (l.getD k default).kl ∧ (l.getD k default).kl ≤ (l.getD k default).ar := by
  unfold goodRels at h
  rw [Bool.and_eq_true] at h
  have h1 := upTo_at h.1 hk
  unfold relOk goodRel at h1
  simp only [Bool.and_eq_true] at h1
  exact ⟨inB_of h1.1.2.2.2.1, inB_of h1.1.2.2.2.2⟩
theorem db_of {d : Db} (h : goodDb d = true) : goodRels d.rels = true ∧ d.facts.length ≤ 14 ∧ upTo (factOk d) d.facts.length = true := by
  unfold goodDb at h
  simp only [Bool.and_eq_true] at h
  refine ⟨h.1, ?_, h.2.2⟩
  have := of_decide_eq_true h.2.1
  omega
theorem fact_of {d : Db} {k : Nat} (h : goodDb d = true) (hk : k < d.facts.length) : goodFact d.rels (d.facts.getD k default) = true := by
  have h1 := upTo_at (db_of h).2.2 hk
  unfold factOk at h1
  rw [Bool.and_eq_true] at h1
  exact h1.1
theorem fact_at {l : List Rel} {f : RI} (h : goodFact l f = true) : ∃ m : Nat, f.r = m ∧ m < l.length ∧ (f.l.length : Int) = (l.getD m default).ar := by
  unfold goodFact at h
  simp only [Bool.and_eq_true] at h
  obtain ⟨h1, h2⟩ := inB_of h.1
  refine ⟨f.r.toNat, by omega, by omega, eq_of_beq h.2.1⟩

/-! #### valid constraints -/
abbrev arOf (d : Db) (r : Int) : Int := (d.rels.getD r.toNat default).ar
def goodDen (d : Db) (x : Den) : Bool := goodDb d && (inB x.fr 0 ((d.rels.length : Int) - 1) && (inB x.sr 0 ((d.rels.length : Int) - 1) && (inB x.fj 0 (arOf d x.fr - 1) && (inB x.fc 0 (arOf d x.fr - 1) && (inB x.sj 0 (arOf d x.sr - 1) && (inB x.sc 0 (arOf d x.sr - 1) && inB x.cp 1 2))))))
theorem specIsValidConstraint_sat (d : Db) (x : Den) (h : d.fit) : Sat Try.prog 5 [lDb d, lDen x] [lBool (goodDen d x)] [g2, g7] := by
  refine sat_of_body mixed Try.func5 rfl (by kernel_rfl) (by kernel_rfl) (rs := [.tmp 4]) rfl rfl rfl ?_
  rcases x with ⟨fr, sr, fj, sj, fc, sc, cp⟩
  have hb := h.1.1
  have w0 : IntKind.i64.wrap ((d.rels.length : Int) - 1) = (d.rels.length : Int) - 1 := IntWalk.i64_in _ (by omega)
  simp -implicitDefEqProofs only [go_sem]
  rcases g : goodDb d
  · rw [show goodDen d ⟨fr, sr, fj, sj, fc, sc, cp⟩ = false by rw [goodDen, g]; rfl]
    refine call_of (specIsValidDatabase_sat d h) (by simp -implicitDefEqProofs only [go_sem, g]) (by kernel_rfl) (by simp -implicitDefEqProofs only [go_sem, g]) ?_
    simp -implicitDefEqProofs only [go_sem, g]
  rcases i1 : inB fr 0 ((d.rels.length : Int) - 1)
  · rw [show goodDen d ⟨fr, sr, fj, sj, fc, sc, cp⟩ = false by rw [goodDen, g, i1]; rfl]
    refine call_of (specIsValidDatabase_sat d h) (by simp -implicitDefEqProofs only [go_sem, g, w0]) (by kernel_rfl) (by simp -implicitDefEqProofs only [go_sem, g, w0]) ?_
    simp -implicitDefEqProofs only [go_sem, g, w0]
    refine call_of (inB_sat fr 0 ((d.rels.length : Int) - 1)) (by simp -implicitDefEqProofs only [go_sem, i1]) (by kernel_rfl) (by simp -implicitDefEqProofs only [go_sem, i1]) ?_
    simp -implicitDefEqProofs only [go_sem, i1]
  rcases i2 : inB sr 0 ((d.rels.length : Int) - 1)
  · rw [show goodDen d ⟨fr, sr, fj, sj, fc, sc, cp⟩ = false by rw [goodDen, g, i1, i2]; rfl]
    refine call_of (specIsValidDatabase_sat d h) (by simp -implicitDefEqProofs only [go_sem, g, w0]) (by kernel_rfl) (by simp -implicitDefEqProofs only [go_sem, g, w0]) ?_
    simp -implicitDefEqProofs only [go_sem, g, w0]
    refine call_of (inB_sat fr 0 ((d.rels.length : Int) - 1)) (by simp -implicitDefEqProofs only [go_sem, i1, w0]) (by kernel_rfl) (by simp -implicitDefEqProofs only [go_sem, i1, w0]) ?_
    simp -implicitDefEqProofs only [go_sem, i1, w0]
    refine call_of (inB_sat sr 0 ((d.rels.length : Int) - 1)) (by simp -implicitDefEqProofs only [go_sem, i2]) (by kernel_rfl) (by simp -implicitDefEqProofs only [go_sem, i2]) ?_
    simp -implicitDefEqProofs only [go_sem, i2]
  obtain ⟨r1, r2⟩ := inB_of i1
  obtain ⟨m, rfl⟩ : ∃ m : Nat, fr = m := ⟨fr.toNat, by omega⟩
  obtain ⟨r3, r4⟩ := inB_of i2
  obtain ⟨n, rfl⟩ : ∃ n : Nat, sr = n := ⟨sr.toNat, by omega⟩
  have c1 : m < d.rels.length := by omega
  have c2 : n < d.rels.length := by omega
  have o1 := (rel_of (db_of g).1 c1).1
  have o2 := (rel_of (db_of g).1 c2).1
  have w1 : IntKind.i64.wrap ((d.rels.getD m default).ar - 1) = (d.rels.getD m default).ar - 1 := IntWalk.i64_in _ (by omega)
  have w2 : IntKind.i64.wrap ((d.rels.getD n default).ar - 1) = (d.rels.getD n default).ar - 1 := IntWalk.i64_in _ (by omega)
  rw [show goodDen d ⟨m, n, fj, sj, fc, sc, cp⟩ = (inB fj 0 ((d.rels.getD m default).ar - 1) && (inB fc 0 ((d.rels.getD m default).ar - 1) && (inB sj 0 ((d.rels.getD n default).ar - 1) && (inB sc 0 ((d.rels.getD n default).ar - 1) && inB cp 1 2)))) by rw [goodDen, g, i1, i2]; rfl]
  refine call_of (specIsValidDatabase_sat d h) (by simp -implicitDefEqProofs only [go_sem, g, w0]) (by kernel_rfl) (by simp -implicitDefEqProofs only [go_sem, g, w0]) ?_
  simp -implicitDefEqProofs only [go_sem, g, w0]
  refine call_of (inB_sat m 0 ((d.rels.length : Int) - 1)) (by simp -implicitDefEqProofs only [go_sem, i1, w0]) (by kernel_rfl) (by simp -implicitDefEqProofs only [go_sem, i1, w0]) ?_
  simp -implicitDefEqProofs only [go_sem, i1, w0]
  refine call_of (inB_sat n 0 ((d.rels.length : Int) - 1)) (by simp -implicitDefEqProofs only [go_sem, i2, c1, c2, w1, w2]) (by kernel_rfl) (by simp -implicitDefEqProofs only [go_sem, i2, c1, c2, w1, w2]) ?_
  simp -implicitDefEqProofs only [go_sem, i2, c1, c2, w1, w2]
  rcases j1 : inB fj 0 ((d.rels.getD m default).ar - 1)
  · refine call_of (inB_sat fj 0 ((d.rels.getD m default).ar - 1)) (by simp -implicitDefEqProofs only [go_sem, j1]) (by kernel_rfl) (by simp -implicitDefEqProofs only [go_sem, j1]) ?_
    simp -implicitDefEqProofs only [go_sem, j1]
  refine call_of (inB_sat fj 0 ((d.rels.getD m default).ar - 1)) (by simp -implicitDefEqProofs only [go_sem, j1, w1]) (by kernel_rfl) (by simp -implicitDefEqProofs only [go_sem, j1, w1]) ?_
  simp -implicitDefEqProofs only [go_sem, j1, w1]
  rcases j2 : inB fc 0 ((d.rels.getD m default).ar - 1)
  · refine call_of (inB_sat fc 0 ((d.rels.getD m default).ar - 1)) (by simp -implicitDefEqProofs only [go_sem, j2]) (by kernel_rfl) (by simp -implicitDefEqProofs only [go_sem, j2]) ?_
    simp -implicitDefEqProofs only [go_sem, j2]
  refine call_of (inB_sat fc 0 ((d.rels.getD m default).ar - 1)) (by simp -implicitDefEqProofs only [go_sem, j2, w2]) (by kernel_rfl) (by simp -implicitDefEqProofs only [go_sem, j2, w2]) ?_
  simp -implicitDefEqProofs only [go_sem, j2, w2]
  rcases j3 : inB sj 0 ((d.rels.getD n default).ar - 1)
  · refine call_of (inB_sat sj 0 ((d.rels.getD n default).ar - 1)) (by simp -implicitDefEqProofs only [go_sem, j3]) (by kernel_rfl) (by simp -implicitDefEqProofs only [go_sem, j3]) ?_
    simp -implicitDefEqProofs only [go_sem, j3]
  refine call_of (inB_sat sj 0 ((d.rels.getD n default).ar - 1)) (by simp -implicitDefEqProofs only [go_sem, j3, w2]) (by kernel_rfl) (by simp -implicitDefEqProofs only [go_sem, j3, w2]) ?_
  simp -implicitDefEqProofs only [go_sem, j3, w2]
  rcases j4 : inB sc 0 ((d.rels.getD n default).ar - 1)
  · refine call_of (inB_sat sc 0 ((d.rels.getD n default).ar - 1)) (by simp -implicitDefEqProofs only [go_sem, j4]) (by kernel_rfl) (by simp -implicitDefEqProofs only [go_sem, j4]) ?_
    simp -implicitDefEqProofs only [go_sem, j4]
  refine call_of (inB_sat sc 0 ((d.rels.getD n default).ar - 1)) (by simp -implicitDefEqProofs only [go_sem, j4]) (by kernel_rfl) (by simp -implicitDefEqProofs only [go_sem, j4]) ?_
  simp -implicitDefEqProofs only [go_sem, j4]
  refine call_of (inB_sat cp 1 2) (by simp -implicitDefEqProofs only [go_sem]) (by kernel_rfl) (by simp -implicitDefEqProofs only [go_sem]) ?_
  simp -implicitDefEqProofs only [go_sem]
theorem implIsValidConstraint_sat (d : Db) (x : Den) (h : d.fit) : Sat Try.prog 8 [lDb d, lDen x] [lBool (goodDen d x)] [g2, g7] := by
  refine sat_of_body mixed Try.func8 rfl (by kernel_rfl) (by kernel_rfl) (rs := [.tmp 4]) rfl rfl rfl ?_
  rcases x with ⟨fr, sr, fj, sj, fc, sc, cp⟩
  have hb := h.1.1
  have w0 : IntKind.i64.wrap ((d.rels.length : Int) - 1) = (d.rels.length : Int) - 1 := IntWalk.i64_in _ (by omega)
  simp -implicitDefEqProofs only [go_sem]
  rcases g : goodDb d
  · rw [show goodDen d ⟨fr, sr, fj, sj, fc, sc, cp⟩ = false by rw [goodDen, g]; rfl]
    refine call_of (implIsValidDatabase_sat d h) (by simp -implicitDefEqProofs only [go_sem, g]) (by kernel_rfl) (by simp -implicitDefEqProofs only [go_sem, g]) ?_
    simp -implicitDefEqProofs only [go_sem, g]
  rcases i1 : inB fr 0 ((d.rels.length : Int) - 1)
  · rw [show goodDen d ⟨fr, sr, fj, sj, fc, sc, cp⟩ = false by rw [goodDen, g, i1]; rfl]
    refine call_of (implIsValidDatabase_sat d h) (by simp -implicitDefEqProofs only [go_sem, g, w0]) (by kernel_rfl) (by simp -implicitDefEqProofs only [go_sem, g, w0]) ?_
    simp -implicitDefEqProofs only [go_sem, g, w0]
    refine call_of (inW_sat fr 0 ((d.rels.length : Int) - 1)) (by simp -implicitDefEqProofs only [go_sem, i1]) (by kernel_rfl) (by simp -implicitDefEqProofs only [go_sem, i1]) ?_
    simp -implicitDefEqProofs only [go_sem, i1]
  rcases i2 : inB sr 0 ((d.rels.length : Int) - 1)
  · rw [show goodDen d ⟨fr, sr, fj, sj, fc, sc, cp⟩ = false by rw [goodDen, g, i1, i2]; rfl]
    refine call_of (implIsValidDatabase_sat d h) (by simp -implicitDefEqProofs only [go_sem, g, w0]) (by kernel_rfl) (by simp -implicitDefEqProofs only [go_sem, g, w0]) ?_
    simp -implicitDefEqProofs only [go_sem, g, w0]
    refine call_of (inW_sat fr 0 ((d.rels.length : Int) - 1)) (by simp -implicitDefEqProofs only [go_sem, i1, w0]) (by kernel_rfl) (by simp -implicitDefEqProofs only [go_sem, i1, w0]) ?_
    simp -implicitDefEqProofs only [go_sem, i1, w0]
    refine call_of (inW_sat sr 0 ((d.rels.length : Int) - 1)) (by simp -implicitDefEqProofs only [go_sem, i2]) (by kernel_rfl) (by simp -implicitDefEqProofs only [go_sem, i2]) ?_
    simp -implicitDefEqProofs only [go_sem, i2]
  obtain ⟨r1, r2⟩ := inB_of i1
  obtain ⟨m, rfl⟩ : ∃ m : Nat, fr = m := ⟨fr.toNat, by omega⟩
  obtain ⟨r3, r4⟩ := inB_of i2
  obtain ⟨n, rfl⟩ : ∃ n : Nat, sr = n := ⟨sr.toNat, by omega⟩
  have c1 : m < d.rels.length := by omega
  have c2 : n < d.rels.length := by omega
  have o1 := (rel_of (db_of g).1 c1).1
  have o2 := (rel_of (db_of g).1 c2).1
  have w1 : IntKind.i64.wrap ((d.rels.getD m default).ar - 1) = (d.rels.getD m default).ar - 1 := IntWalk.i64_in _ (by omega)
  have w2 : IntKind.i64.wrap ((d.rels.getD n default).ar - 1) = (d.rels.getD n default).ar - 1 := IntWalk.i64_in _ (by omega)
  rw [show goodDen d ⟨m, n, fj, sj, fc, sc, cp⟩ = (inB fj 0 ((d.rels.getD m default).ar - 1) && (inB fc 0 ((d.rels.getD m default).ar - 1) && (inB sj 0 ((d.rels.getD n default).ar - 1) && (inB sc 0 ((d.rels.getD n default).ar - 1) && inB cp 1 2)))) by rw [goodDen, g, i1, i2]; rfl]
  refine call_of (implIsValidDatabase_sat d h) (by simp -implicitDefEqProofs only [go_sem, g, w0]) (by kernel_rfl) (by simp -implicitDefEqProofs only [go_sem, g, w0]) ?_
  simp -implicitDefEqProofs only [go_sem, g, w0]
  refine call_of (inW_sat m 0 ((d.rels.length : Int) - 1)) (by simp -implicitDefEqProofs only [go_sem, i1, w0]) (by kernel_rfl) (by simp -implicitDefEqProofs only [go_sem, i1, w0]) ?_
  simp -implicitDefEqProofs only [go_sem, i1, w0]
  refine call_of (inW_sat n 0 ((d.rels.length : Int) - 1)) (by simp -implicitDefEqProofs only [go_sem, i2, c1, c2, w1, w2]) (by kernel_rfl) (by simp -implicitDefEqProofs only [go_sem, i2, c1, c2, w1, w2]) ?_
  simp -implicitDefEqProofs only [go_sem, i2, c1, c2, w1, w2]
  rcases j1 : inB fj 0 ((d.rels.getD m default).ar - 1)
  · refine call_of (inW_sat fj 0 ((d.rels.getD m default).ar - 1)) (by simp -implicitDefEqProofs only [go_sem, j1]) (by kernel_rfl) (by simp -implicitDefEqProofs only [go_sem, j1]) ?_
    simp -implicitDefEqProofs only [go_sem, j1]
  refine call_of (inW_sat fj 0 ((d.rels.getD m default).ar - 1)) (by simp -implicitDefEqProofs only [go_sem, j1, w1]) (by kernel_rfl) (by simp -implicitDefEqProofs only [go_sem, j1, w1]) ?_
  simp -implicitDefEqProofs only [go_sem, j1, w1]
  rcases j2 : inB fc 0 ((d.rels.getD m default).ar - 1)
  · refine call_of (inW_sat fc 0 ((d.rels.getD m default).ar - 1)) (by simp -implicitDefEqProofs only [go_sem, j2]) (by kernel_rfl) (by simp -implicitDefEqProofs only [go_sem, j2]) ?_
    simp -implicitDefEqProofs only [go_sem, j2]
  refine call_of (inW_sat fc 0 ((d.rels.getD m default).ar - 1)) (by simp -implicitDefEqProofs only [go_sem, j2, w2]) (by kernel_rfl) (by simp -implicitDefEqProofs only [go_sem, j2, w2]) ?_
  simp -implicitDefEqProofs only [go_sem, j2, w2]
  rcases j3 : inB sj 0 ((d.rels.getD n default).ar - 1)
  · refine call_of (inW_sat sj 0 ((d.rels.getD n default).ar - 1)) (by simp -implicitDefEqProofs only [go_sem, j3]) (by kernel_rfl) (by simp -implicitDefEqProofs only [go_sem, j3]) ?_
    simp -implicitDefEqProofs only [go_sem, j3]
  refine call_of (inW_sat sj 0 ((d.rels.getD n default).ar - 1)) (by simp -implicitDefEqProofs only [go_sem, j3, w2]) (by kernel_rfl) (by simp -implicitDefEqProofs only [go_sem, j3, w2]) ?_
  simp -implicitDefEqProofs only [go_sem, j3, w2]
  rcases j4 : inB sc 0 ((d.rels.getD n default).ar - 1)
  · refine call_of (inW_sat sc 0 ((d.rels.getD n default).ar - 1)) (by simp -implicitDefEqProofs only [go_sem, j4]) (by kernel_rfl) (by simp -implicitDefEqProofs only [go_sem, j4]) ?_
    simp -implicitDefEqProofs only [go_sem, j4]
  refine call_of (inW_sat sc 0 ((d.rels.getD n default).ar - 1)) (by simp -implicitDefEqProofs only [go_sem, j4]) (by kernel_rfl) (by simp -implicitDefEqProofs only [go_sem, j4]) ?_
  simp -implicitDefEqProofs only [go_sem, j4]
  refine call_of (inW_sat cp 1 2) (by simp -implicitDefEqProofs only [go_sem]) (by kernel_rfl) (by simp -implicitDefEqProofs only [go_sem]) ?_
  simp -implicitDefEqProofs only [go_sem]
end Go.Proofs.Ytkcbnbbbijlhcaf.A
