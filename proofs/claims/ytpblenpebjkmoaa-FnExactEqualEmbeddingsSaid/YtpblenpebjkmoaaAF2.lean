/- EMBEDDINGS. Conditions: none. -/
import Derived.Test.YtpblenpebjkmoaaAF1
namespace Go.Proofs.Ytpblenpebjkmoaa.A
open Go
set_option linter.unusedSimpArgs false
set_option linter.unusedVariables false
set_option maxRecDepth 100000

structure Emb where
  vs : List Int
  fs : List Int
abbrev lEmb (e : Emb) : LV := .agg [.im 1 (ints e.vs), .im 1 (ints e.fs)]
abbrev oEmb (e : Emb) : LV := .agg [.ow 1 (ints e.vs), .ow 1 (ints e.fs)]
abbrev lInt (n : Int) : LV := .one (.sc (.int .i64 n))
abbrev lBool (b : Bool) : LV := .one (.sc (.bool b))
abbrev g1 : LV := .one .gone
abbrev g2 : LV := .agg [.gone, .gone]
abbrev g3 : LV := .agg [.gone, .gone, .gone]
/-- What is left of a measure of size. -/
def szl (a : List Int) (n : Int) : Int := if n - a.length < 0 then -1 else n - a.length
def szEmb (e : Emb) (n : Int) : Int := if szl e.vs n < 0 then -1 else if szl e.fs (szl e.vs n) < 0 then -1 else szl e.fs (szl e.vs n)
theorem szl_le {a : List Int} {n : Int} (h : -1 ≤ n ∧ n ≤ 1048576) : -1 ≤ szl a n ∧ szl a n ≤ 1048576 := by unfold szl; split <;> omega
theorem szl_len {a : List Int} {n : Int} (h : n ≤ 1048576) (h0 : ¬ szl a n < 0) : a.length ≤ 1048576 := by unfold szl at h0; split at h0 <;> omega
theorem szEmb_len {e : Emb} {n : Int} (h : -1 ≤ n ∧ n ≤ 1048576) (h0 : ¬ szEmb e n < 0) : e.vs.length ≤ 1048576 ∧ e.fs.length ≤ 1048576 ∧ -1 ≤ szEmb e n ∧ szEmb e n ≤ 1048576 := by
  unfold szEmb at h0 ⊢
  have a1 := szl_le (a := e.vs) h
  split at h0
  · omega
  · rename_i c1
    have a2 := szl_le (a := e.fs) a1
    split at h0
    · omega
    · rename_i c2
      rw [if_neg c1, if_neg c2]
      exact ⟨szl_len h.2 c1, szl_len a1.2 c2, a2⟩
theorem szEmbedding_sat (e : Emb) (n : Int) (h : -1 ≤ n ∧ n ≤ 1048576) (h1 : e.vs.length ≤ 9223372036854775807) (h2 : e.fs.length ≤ 9223372036854775807) : Sat Try.prog 19 [lEmb e, lInt n] [lInt (szEmb e n)] [g2, g1] := by
  refine sat_of_body mixed Try.func19 rfl (by kernel_rfl) (by kernel_rfl) (rs := [.tmp 4]) rfl rfl rfl ?_
  simp -implicitDefEqProofs only [go_sem]
  refine call_of (szIntS_sat e.vs n h h1) (by simp -implicitDefEqProofs only [go_sem]) (by kernel_rfl) (by simp -implicitDefEqProofs only [go_sem]) ?_
  simp -implicitDefEqProofs only [go_sem]
  rw [← szl]
  refine cond_split (fun d => ?_) fun d => ?_
  · simp -implicitDefEqProofs only [go_sem]
    have d := of_decide_eq_true d
    rw [szEmb, if_pos d]
  have d := of_decide_eq_false d
  simp -implicitDefEqProofs only [go_sem]
  refine call_of (szIntS_sat e.fs (szl e.vs n) (szl_le h) h2) (by simp -implicitDefEqProofs only [go_sem]) (by kernel_rfl) (by simp -implicitDefEqProofs only [go_sem]) ?_
  simp -implicitDefEqProofs only [go_sem]
  rw [← szl]
  refine cond_split (fun f => ?_) fun f => ?_
  · simp -implicitDefEqProofs only [go_sem]
    have f := of_decide_eq_true f
    rw [szEmb, if_neg d, if_pos f]
  · simp -implicitDefEqProofs only [go_sem]
    have f := of_decide_eq_false f
    rw [szEmb, if_neg d, if_neg f]
theorem toEmbedding_sat (e : Emb) (h1 : e.vs.length ≤ 1048576) (h2 : e.fs.length ≤ 1048576) : Sat Try.prog 21 [lEmb e] [oEmb e] [g2] := by
  refine sat_of_body mixed Try.func21 rfl (by kernel_rfl) (by kernel_rfl) (rs := [.cell 2 34]) rfl rfl rfl ?_
  simp -implicitDefEqProofs only [go_sem]

  refine call_of (toIntS_sat e.vs h1) (by simp -implicitDefEqProofs only [go_sem]) (by kernel_rfl) (by simp -implicitDefEqProofs only [go_sem]) ?_
  simp -implicitDefEqProofs only [go_sem]
  refine call_of (toIntS_sat e.fs h2) (by simp -implicitDefEqProofs only [go_sem]) (by kernel_rfl) (by simp -implicitDefEqProofs only [go_sem]) ?_
  simp -implicitDefEqProofs only [go_sem]
  rfl
theorem decide_and {p q : Prop} [Decidable p] [Decidable q] (h : p) : decide (p ∧ q) = decide q := by simp [h]
theorem eqEmbedding_sat (a b : Emb) (h1 : a.vs.length ≤ 9223372036854775807) (h2 : a.fs.length ≤ 9223372036854775807) : Sat Try.prog 23 [lEmb a, lEmb b] [lBool (decide (a.vs = b.vs) && decide (a.fs = b.fs))] [g2, g2] := by
  refine sat_of_body mixed Try.func23 rfl (by kernel_rfl) (by kernel_rfl) (rs := [.tmp 4]) rfl rfl rfl ?_
  simp -implicitDefEqProofs only [go_sem]
  refine call_of (eqIntS_sat a.vs b.vs h1) (by simp -implicitDefEqProofs only [go_sem]) (by kernel_rfl) (by simp -implicitDefEqProofs only [go_sem]) ?_
  simp -implicitDefEqProofs only [go_sem]
  refine cond_split (fun d => ?_) fun d => ?_
  · simp -implicitDefEqProofs only [go_sem]
    have d : decide (a.vs = b.vs) = false := by simpa using d
    rw [d]; rfl
  have d : decide (a.vs = b.vs) = true := by simpa using d
  simp -implicitDefEqProofs only [go_sem, d]
  refine call_of (eqIntS_sat a.fs b.fs h2) (by simp -implicitDefEqProofs only [go_sem]) (by kernel_rfl) (by simp -implicitDefEqProofs only [go_sem]) ?_
  simp -implicitDefEqProofs only [go_sem]
  refine cond_split (fun f => ?_) fun f => ?_
  · simp -implicitDefEqProofs only [go_sem]
    have f : decide (a.fs = b.fs) = false := by simpa using f
    rw [f]
  · simp -implicitDefEqProofs only [go_sem]
    have f : decide (a.fs = b.fs) = true := by simpa using f
    rw [f]
theorem specEqualEmbeddings_sat (a b : Emb) (h1 : a.vs.length ≤ 9223372036854775807) (h2 : a.fs.length ≤ 9223372036854775807) : Sat Try.prog 20 [lEmb a, lEmb b] [lBool (decide (a.vs = b.vs) && decide (a.fs = b.fs))] [g2, g2] := by
  refine sat_of_body mixed Try.func20 rfl (by kernel_rfl) (by kernel_rfl) (rs := [.tmp 4]) rfl rfl rfl ?_
  simp -implicitDefEqProofs only [go_sem]
  refine call_of (l3Ints_sat a.vs b.vs h1) (by simp -implicitDefEqProofs only [go_sem]) (by kernel_rfl) (by simp -implicitDefEqProofs only [go_sem]) ?_
  simp -implicitDefEqProofs only [go_sem]
  rcases d : decide (a.vs = b.vs)
  · simp -implicitDefEqProofs only [go_sem, cmp_beq, d]
  · simp -implicitDefEqProofs only [go_sem, cmp_beq, d]
    refine call_of (l3Ints_sat a.fs b.fs h2) (by simp -implicitDefEqProofs only [go_sem]) (by kernel_rfl) (by simp -implicitDefEqProofs only [go_sem]) ?_
    simp -implicitDefEqProofs only [go_sem]
    rw [cmp_beq]
theorem implEqualEmbeddings_sat (a b : Emb) (h1 : a.vs.length ≤ 9223372036854775807) (h2 : a.fs.length ≤ 9223372036854775807) : Sat Try.prog 22 [lEmb a, lEmb b] [lBool (decide (a.vs = b.vs) && decide (a.fs = b.fs))] [g2, g2] := by
  refine sat_of_body mixed Try.func22 rfl (by kernel_rfl) (by kernel_rfl) (rs := [.tmp 4]) rfl rfl rfl ?_
  simp -implicitDefEqProofs only [go_sem]
  refine call_of (slicesEqual_sat a.vs b.vs h1) (by simp -implicitDefEqProofs only [go_sem]) (by kernel_rfl) (by simp -implicitDefEqProofs only [go_sem]) ?_
  simp -implicitDefEqProofs only [go_sem]
  rcases d : decide (a.vs = b.vs)
  · simp -implicitDefEqProofs only [go_sem, d]
  · simp -implicitDefEqProofs only [go_sem, d]
    refine call_of (slicesEqual_sat a.fs b.fs h2) (by simp -implicitDefEqProofs only [go_sem]) (by kernel_rfl) (by simp -implicitDefEqProofs only [go_sem]) ?_
    simp -implicitDefEqProofs only [go_sem]
/-- THE LAW OF EqualEmbeddings. -/
theorem lawEqualEmbeddings_sat (a b : Emb) (h1 : a.vs.length ≤ 9223372036854775807) (h2 : a.fs.length ≤ 9223372036854775807) (h3 : b.vs.length ≤ 9223372036854775807) (h4 : b.fs.length ≤ 9223372036854775807) : Sat Try.prog 8 [lEmb a, lEmb b] [lBool true] [g2, g2] := by
  refine sat_of_body mixed Try.func8 rfl (by kernel_rfl) (by kernel_rfl) (rs := [.tmp 4]) rfl rfl rfl ?_
  simp -implicitDefEqProofs only [go_sem]
  refine call_of (szEmbedding_sat a 1048576 (by omega) h1 h2) (by simp -implicitDefEqProofs only [go_sem]) (by kernel_rfl) (by simp -implicitDefEqProofs only [go_sem]) ?_
  simp -implicitDefEqProofs only [go_sem]
  refine cond_split (fun c1 => ?_) fun c1 => ?_
  · simp -implicitDefEqProofs only [go_sem]
  have c1 := of_decide_eq_false c1
  have d1 : a.vs.length ≤ 1048576 ∧ a.fs.length ≤ 1048576 ∧ -1 ≤ szEmb a 1048576 ∧ szEmb a 1048576 ≤ 1048576 := szEmb_len (by omega) c1
  obtain ⟨e1, e2, e3⟩ := d1
  simp -implicitDefEqProofs only [go_sem]
  refine call_of (szEmbedding_sat b (szEmb a 1048576) e3 h3 h4) (by simp -implicitDefEqProofs only [go_sem]) (by kernel_rfl) (by simp -implicitDefEqProofs only [go_sem]) ?_
  simp -implicitDefEqProofs only [go_sem]
  refine cond_split (fun c2 => ?_) fun c2 => ?_
  · simp -implicitDefEqProofs only [go_sem]
  have c2 := of_decide_eq_false c2
  obtain ⟨f1, f2, f3⟩ : b.vs.length ≤ 1048576 ∧ b.fs.length ≤ 1048576 ∧ -1 ≤ szEmb b (szEmb a 1048576) ∧ szEmb b (szEmb a 1048576) ≤ 1048576 := szEmb_len e3 c2
  simp -implicitDefEqProofs only [go_sem]
  refine call_of (toEmbedding_sat a e1 e2) (by simp -implicitDefEqProofs only [go_sem]) (by kernel_rfl) (by simp -implicitDefEqProofs only [go_sem]) ?_
  simp -implicitDefEqProofs only [go_sem]
  refine call_of (toEmbedding_sat b f1 f2) (by simp -implicitDefEqProofs only [go_sem]) (by kernel_rfl) (by simp -implicitDefEqProofs only [go_sem]) ?_
  simp -implicitDefEqProofs only [go_sem]
  refine call_of (specEqualEmbeddings_sat a b h1 h2) (by simp -implicitDefEqProofs only [go_sem]) (by kernel_rfl) (by simp -implicitDefEqProofs only [go_sem]) ?_
  simp -implicitDefEqProofs only [go_sem]
  refine ⟨by kernel_rfl, ?_⟩
  refine call_of (toEmbedding_sat a e1 e2) (by simp -implicitDefEqProofs only [go_sem]) (by kernel_rfl) (by simp -implicitDefEqProofs only [go_sem]) ?_
  simp -implicitDefEqProofs only [go_sem]
  refine call_of (toEmbedding_sat b f1 f2) (by simp -implicitDefEqProofs only [go_sem]) (by kernel_rfl) (by simp -implicitDefEqProofs only [go_sem]) ?_
  simp -implicitDefEqProofs only [go_sem]
  refine call_of (implEqualEmbeddings_sat a b h1 h2) (by simp -implicitDefEqProofs only [go_sem]) (by kernel_rfl) (by simp -implicitDefEqProofs only [go_sem]) ?_
  simp -implicitDefEqProofs only [go_sem]
  refine call_of (toEmbedding_sat a e1 e2) (by simp -implicitDefEqProofs only [go_sem]) (by kernel_rfl) (by simp -implicitDefEqProofs only [go_sem]) ?_
  simp -implicitDefEqProofs only [go_sem]
  refine call_of (eqEmbedding_sat a a h1 h2) (by simp -implicitDefEqProofs only [go_sem]) (by kernel_rfl) (by simp -implicitDefEqProofs only [go_sem]) ?_
  simp -implicitDefEqProofs only [go_sem]
  refine ⟨by kernel_rfl, ?_⟩
  refine call_of (toEmbedding_sat b f1 f2) (by simp -implicitDefEqProofs only [go_sem]) (by kernel_rfl) (by simp -implicitDefEqProofs only [go_sem]) ?_
  simp -implicitDefEqProofs only [go_sem]
  refine call_of (eqEmbedding_sat b b h3 h4) (by simp -implicitDefEqProofs only [go_sem]) (by kernel_rfl) (by simp -implicitDefEqProofs only [go_sem]) ?_
  simp -implicitDefEqProofs only [go_sem]
  rfl
end Go.Proofs.Ytpblenpebjkmoaa.A
