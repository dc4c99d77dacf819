
/- EMBEDDINGS. Conditions: none. -/
import Derived.Test.YtbalifgacjmbpabGreatAF1
import Derived.Test.YtbalifgacjmbpabGreatAD2
namespace Go.Proofs.YtbalifgacjmbpabGreat.A
open Go
set_option linter.unusedSimpArgs false
set_option linter.unusedVariables false
set_option maxRecDepth 100000

abbrev lEmb (e : Emb) : LV := .agg [.im 1 (ints e.vs), .im 1 (ints e.fs)]
abbrev oEmb (e : Emb) : LV := .agg [.ow 1 (ints e.vs), .ow 1 (ints e.fs)]
def szEmb (e : Emb) (n : Int) : Int := if szl e.vs n < 0 then -1 else if szl e.fs (szl e.vs n) < 0 then -1 else szl e.fs (szl e.vs n)
theorem szEmb_len {e : Emb} {n : Int} (h : -1 ≤ n ∧ n ≤ 1048576) (h0 : ¬ szEmb e n < 0) : e.vs.length ≤ 1048576 ∧ e.fs.length ≤ 1048576 ∧ -1 ≤ szEmb e n ∧ szEmb e n ≤ 1048576 := by
  unfold szEmb at h0 ⊢
  have a1 := szl_le (a := e.vs) h
  split at h0
  · omega
  · rename_i c1
    have a2 := szl_le (a := e.fs) a1
    split at h0
    · omega
    · rename_i c2
      rw [if_neg c1, if_neg c2]
      exact ⟨szl_len h.2 c1, szl_len a1.2 c2, a2⟩
theorem decide_and {p q : Prop} [Decidable p] [Decidable q] (h : p) : decide (p ∧ q) = decide q := by simp [h]
theorem eqEmbedding_sat (a b : Emb) (h1 : a.vs.length ≤ 9223372036854775807) (h2 : a.fs.length ≤ 9223372036854775807) : Sat Tryz.prog 51 [lEmb a, lEmb b] [lBool (decide (a.vs = b.vs) && decide (a.fs = b.fs))] [g2, g2] := by
  refine sat_of_body mixed Tryz.func51 rfl (by kernel_rfl) (by kernel_rfl) (rs := [.tmp 4]) rfl rfl rfl ?_
  simp -implicitDefEqProofs (maxSteps := 2000000) only [go_sem]
  refine call_of (eqIntS_sat a.vs b.vs h1) (by simp -implicitDefEqProofs (maxSteps := 2000000) only [go_sem]) (by kernel_rfl) (by simp -implicitDefEqProofs (maxSteps := 2000000) only [go_sem]) ?_
  simp -implicitDefEqProofs (maxSteps := 2000000) only [go_sem]
  refine cond_split (fun d => ?_) fun d => ?_
  · simp -implicitDefEqProofs (maxSteps := 2000000) only [go_sem]
    have d : decide (a.vs = b.vs) = false := by simpa using d
    rw [d]; rfl
  have d : decide (a.vs = b.vs) = true := by simpa using d
  simp -implicitDefEqProofs (maxSteps := 2000000) only [go_sem, d]
  refine call_of (eqIntS_sat a.fs b.fs h2) (by simp -implicitDefEqProofs (maxSteps := 2000000) only [go_sem]) (by kernel_rfl) (by simp -implicitDefEqProofs (maxSteps := 2000000) only [go_sem]) ?_
  simp -implicitDefEqProofs (maxSteps := 2000000) only [go_sem]
  refine cond_split (fun f => ?_) fun f => ?_
  · simp -implicitDefEqProofs (maxSteps := 2000000) only [go_sem]
    have f : decide (a.fs = b.fs) = false := by simpa using f
    rw [f]
  · simp -implicitDefEqProofs (maxSteps := 2000000) only [go_sem]
    have f : decide (a.fs = b.fs) = true := by simpa using f
    rw [f]
end Go.Proofs.YtbalifgacjmbpabGreat.A
