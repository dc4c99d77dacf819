/- Packed by pack.py: FFC FMR FE WFormatConstraint LFormatConstraint -/
import Derived.Test.YtpegfljmblehnaaDoorAZ1FormatConstraint
import Derived.Test.YtpegfljmblehnaaDoorRows
import Derived.Test.YtpegfljmblehnaaDoorCards
import Derived.Test.YtpegfljmblehnaaDoorTie
import Derived.Lay
import Derived.LaidLaws
import Derived.Handed
import Derived.SevenTiedAt

/- THE TEXT OF A CONSTRAINT. Conditions: none. -/
namespace Go.Proofs.YtpegfljmblehnaaDoor.A
open Go
set_option linter.unusedSimpArgs false
set_option linter.unusedVariables false
set_option maxRecDepth 100000

theorem byt_size (a b : ByteArray) : (a ++ b).size = a.size + b.size := by
  rw [show ∀ c : ByteArray, c.size = c.data.toList.length from fun c => (Array.length_toList ..).symm, byt_app, List.length_append]; rfl
theorem digT_size (v : Int) : (digT v).size = 1 := rfl
structure GoodDen (d : Db) (x : Den) (n m a b c e : Nat) : Prop where
  fr : x.fr = n
  sr : x.sr = m
  fj : x.fj = a
  sj : x.sj = b
  fc : x.fc = c
  sc : x.sc = e
  hn : n < d.rels.length
  hm : m < d.rels.length
  ha : a ≤ 9
  hb : b ≤ 9
  hc : c ≤ 9
  he : e ≤ 9
  sn : (d.rels.getD n default).name.size = 1
  sm : (d.rels.getD m default).name.size = 1
def denText (d : Db) (x : Den) : ByteArray := if goodDen d x then (⟨#[110, 111, 116, 32]⟩ : ByteArray) ++ (d.rels.getD x.fr.toNat default).name ++ digT x.fj ++ (⟨#[61]⟩ : ByteArray) ++ (d.rels.getD x.sr.toNat default).name ++ digT x.sj ++ (⟨#[32]⟩ : ByteArray) ++ digT x.fc ++ (if x.cp == 2 then (⟨#[60]⟩ : ByteArray) else ⟨#[61]⟩) ++ digT x.sc else ⟨#[]⟩
theorem good_name {d : Db} (g : goodDb d = true) {n : Nat} (h : n < d.rels.length) : (d.rels.getD n default).name.size = 1 ∧ (d.rels.getD n default).ar ≤ 3 := by
  unfold goodDb at g
  simp only [Bool.and_eq_true] at g
  have g1 := g.1
  unfold goodRels at g1
  simp only [Bool.and_eq_true] at g1
  have h3 := upTo_at g1.1 h
  unfold relOk goodRel at h3
  simp only [Bool.and_eq_true, beq_iff_eq] at h3
  have h4 := inB_of h3.1.2.2.2.1
  exact ⟨by have := h3.1.1; omega, h4.2⟩
theorem goodDen_parts {d : Db} {x : Den} (h : goodDen d x = true) : ∃ n m a b c e : Nat, GoodDen d x n m a b c e := by
  unfold goodDen at h
  simp only [Bool.and_eq_true] at h
  obtain ⟨g, h1, h2, h3, h4, h5, h6, h7⟩ := h
  have h1 := inB_of h1
  have h2 := inB_of h2
  have h3 := inB_of h3
  have h4 := inB_of h4
  have h5 := inB_of h5
  have h6 := inB_of h6
  simp only [arOf] at h3 h4 h5 h6
  have n1 := good_name g (n := x.fr.toNat) (by omega)
  have n2 := good_name g (n := x.sr.toNat) (by omega)
  refine ⟨x.fr.toNat, x.sr.toNat, x.fj.toNat, x.sj.toNat, x.fc.toNat, x.sc.toNat, ⟨by omega, by omega, by omega, by omega, by omega, by omega, by omega, by omega, by omega, by omega, by omega, by omega, n1.1, n2.1⟩⟩
theorem specFormatConstraint_sat (d : Db) (x : Den) (h : d.fit) : Sat Tryd.prog 9 [lDb d, lDen x] [lStr (denText d x)] [g2, g7] := by
  refine sat_of_body mixed Tryd.func9 rfl (by kernel_rfl) (by kernel_rfl) (rs := [.tmp 4]) rfl rfl rfl ?_
  unfold denText
  rcases g : goodDen d x
  · rw [if_neg (by simp)]
    simp -implicitDefEqProofs (maxSteps := 2000000) only [go_sem]
    refine call_of (specIsValidConstraint_sat d x h) (by simp -implicitDefEqProofs (maxSteps := 2000000) only [go_sem, g]) (by kernel_rfl) (by simp -implicitDefEqProofs (maxSteps := 2000000) only [go_sem, g]) ?_
    simp -implicitDefEqProofs (maxSteps := 2000000) only [go_sem, g]
    first | done | rfl | exact ⟨rfl, rfl⟩ | exact ⟨rfl, rfl, rfl⟩ | (refine tr_and ?_ ?_ <;> first | rfl | exact ⟨rfl, rfl⟩ | kernel_rfl)
  obtain ⟨n, m, a, b, c, e, G⟩ := goodDen_parts g
  rw [if_pos rfl]
  rcases x with ⟨fr, sr, fj, sj, fc, sc, cp⟩
  obtain ⟨e1, e2, e3, e4, e5, e6, hn, hm, ha, hb, hc, he, sn, sm⟩ := G
  simp only at e1 e2 e3 e4 e5 e6
  subst e1 e2 e3 e4 e5 e6
  simp only [Int.toNat_natCast]
  rcases k : (cp == 2)
  · simp -implicitDefEqProofs (maxSteps := 2000000) only [go_sem]
    refine call_of (specIsValidConstraint_sat d ⟨n, m, a, b, c, e, cp⟩ h) (by simp -implicitDefEqProofs (maxSteps := 2000000) only [go_sem, g, k, hn, hm, sn, sm, byt_size, digT_size]) (by kernel_rfl) (by simp -implicitDefEqProofs (maxSteps := 2000000) only [go_sem, g, k, hn, hm, sn, sm, byt_size, digT_size]) ?_
    simp -implicitDefEqProofs (maxSteps := 2000000) only [go_sem, g, k, hn, hm, sn, sm, byt_size, digT_size]
    refine call_of (specFormatInt_sat a ha) (by simp -implicitDefEqProofs (maxSteps := 2000000) only [go_sem, g, k, hn, hm, sn, sm, byt_size, digT_size]) (by kernel_rfl) (by simp -implicitDefEqProofs (maxSteps := 2000000) only [go_sem, g, k, hn, hm, sn, sm, byt_size, digT_size]) ?_
    simp -implicitDefEqProofs (maxSteps := 2000000) only [go_sem, g, k, hn, hm, sn, sm, byt_size, digT_size]
    refine call_of (specFormatInt_sat b hb) (by simp -implicitDefEqProofs (maxSteps := 2000000) only [go_sem, g, k, hn, hm, sn, sm, byt_size, digT_size]) (by kernel_rfl) (by simp -implicitDefEqProofs (maxSteps := 2000000) only [go_sem, g, k, hn, hm, sn, sm, byt_size, digT_size]) ?_
    simp -implicitDefEqProofs (maxSteps := 2000000) only [go_sem, g, k, hn, hm, sn, sm, byt_size, digT_size]
    refine call_of (specFormatInt_sat c hc) (by simp -implicitDefEqProofs (maxSteps := 2000000) only [go_sem, g, k, hn, hm, sn, sm, byt_size, digT_size]) (by kernel_rfl) (by simp -implicitDefEqProofs (maxSteps := 2000000) only [go_sem, g, k, hn, hm, sn, sm, byt_size, digT_size]) ?_
    simp -implicitDefEqProofs (maxSteps := 2000000) only [go_sem, g, k, hn, hm, sn, sm, byt_size, digT_size]
    refine call_of (specFormatInt_sat e he) (by simp -implicitDefEqProofs (maxSteps := 2000000) only [go_sem, g, k, hn, hm, sn, sm, byt_size, digT_size]) (by kernel_rfl) (by simp -implicitDefEqProofs (maxSteps := 2000000) only [go_sem, g, k, hn, hm, sn, sm, byt_size, digT_size]) ?_
    simp -implicitDefEqProofs (maxSteps := 2000000) only [go_sem, g, k, hn, hm, sn, sm, byt_size, digT_size]
  · simp -implicitDefEqProofs (maxSteps := 2000000) only [go_sem]
    refine call_of (specIsValidConstraint_sat d ⟨n, m, a, b, c, e, cp⟩ h) (by simp -implicitDefEqProofs (maxSteps := 2000000) only [go_sem, g, k, hn, hm, sn, sm, byt_size, digT_size]) (by kernel_rfl) (by simp -implicitDefEqProofs (maxSteps := 2000000) only [go_sem, g, k, hn, hm, sn, sm, byt_size, digT_size]) ?_
    simp -implicitDefEqProofs (maxSteps := 2000000) only [go_sem, g, k, hn, hm, sn, sm, byt_size, digT_size]
    refine call_of (specFormatInt_sat a ha) (by simp -implicitDefEqProofs (maxSteps := 2000000) only [go_sem, g, k, hn, hm, sn, sm, byt_size, digT_size]) (by kernel_rfl) (by simp -implicitDefEqProofs (maxSteps := 2000000) only [go_sem, g, k, hn, hm, sn, sm, byt_size, digT_size]) ?_
    simp -implicitDefEqProofs (maxSteps := 2000000) only [go_sem, g, k, hn, hm, sn, sm, byt_size, digT_size]
    refine call_of (specFormatInt_sat b hb) (by simp -implicitDefEqProofs (maxSteps := 2000000) only [go_sem, g, k, hn, hm, sn, sm, byt_size, digT_size]) (by kernel_rfl) (by simp -implicitDefEqProofs (maxSteps := 2000000) only [go_sem, g, k, hn, hm, sn, sm, byt_size, digT_size]) ?_
    simp -implicitDefEqProofs (maxSteps := 2000000) only [go_sem, g, k, hn, hm, sn, sm, byt_size, digT_size]
    refine call_of (specFormatInt_sat c hc) (by simp -implicitDefEqProofs (maxSteps := 2000000) only [go_sem, g, k, hn, hm, sn, sm, byt_size, digT_size]) (by kernel_rfl) (by simp -implicitDefEqProofs (maxSteps := 2000000) only [go_sem, g, k, hn, hm, sn, sm, byt_size, digT_size]) ?_
    simp -implicitDefEqProofs (maxSteps := 2000000) only [go_sem, g, k, hn, hm, sn, sm, byt_size, digT_size]
    refine call_of (specFormatInt_sat e he) (by simp -implicitDefEqProofs (maxSteps := 2000000) only [go_sem, g, k, hn, hm, sn, sm, byt_size, digT_size]) (by kernel_rfl) (by simp -implicitDefEqProofs (maxSteps := 2000000) only [go_sem, g, k, hn, hm, sn, sm, byt_size, digT_size]) ?_
    simp -implicitDefEqProofs (maxSteps := 2000000) only [go_sem, g, k, hn, hm, sn, sm, byt_size, digT_size]
theorem implFormatConstraint_sat (d : Db) (x : Den) (h : d.fit) : Sat Tryd.prog 12 [lDb d, lDen x] [lStr (denText d x)] [g2, g7] := by
  refine sat_of_body mixed Tryd.func12 rfl (by kernel_rfl) (by kernel_rfl) (rs := [.tmp 4]) rfl rfl rfl ?_
  unfold denText
  rcases g : goodDen d x
  · rw [if_neg (by simp)]
    simp -implicitDefEqProofs (maxSteps := 2000000) only [go_sem]
    refine call_of (implIsValidConstraint_sat d x h) (by simp -implicitDefEqProofs (maxSteps := 2000000) only [go_sem, g]) (by kernel_rfl) (by simp -implicitDefEqProofs (maxSteps := 2000000) only [go_sem, g]) ?_
    simp -implicitDefEqProofs (maxSteps := 2000000) only [go_sem, g]
    first | done | rfl | exact ⟨rfl, rfl⟩ | exact ⟨rfl, rfl, rfl⟩ | (refine tr_and ?_ ?_ <;> first | rfl | exact ⟨rfl, rfl⟩ | kernel_rfl)
  obtain ⟨n, m, a, b, c, e, G⟩ := goodDen_parts g
  rw [if_pos rfl]
  rcases x with ⟨fr, sr, fj, sj, fc, sc, cp⟩
  obtain ⟨e1, e2, e3, e4, e5, e6, hn, hm, ha, hb, hc, he, sn, sm⟩ := G
  simp only at e1 e2 e3 e4 e5 e6
  subst e1 e2 e3 e4 e5 e6
  simp only [Int.toNat_natCast]
  rcases k : (cp == 2)
  · simp -implicitDefEqProofs (maxSteps := 2000000) only [go_sem]
    refine call_of (implIsValidConstraint_sat d ⟨n, m, a, b, c, e, cp⟩ h) (by simp -implicitDefEqProofs (maxSteps := 2000000) only [go_sem, g, k, hn, hm, sn, sm, byt_size, digT_size]) (by kernel_rfl) (by simp -implicitDefEqProofs (maxSteps := 2000000) only [go_sem, g, k, hn, hm, sn, sm, byt_size, digT_size]) ?_
    simp -implicitDefEqProofs (maxSteps := 2000000) only [go_sem, g, k, hn, hm, sn, sm, byt_size, digT_size]
    refine call_of (implFormatInt_sat a ha) (by simp -implicitDefEqProofs (maxSteps := 2000000) only [go_sem, g, k, hn, hm, sn, sm, byt_size, digT_size]) (by kernel_rfl) (by simp -implicitDefEqProofs (maxSteps := 2000000) only [go_sem, g, k, hn, hm, sn, sm, byt_size, digT_size]) ?_
    simp -implicitDefEqProofs (maxSteps := 2000000) only [go_sem, g, k, hn, hm, sn, sm, byt_size, digT_size]
    refine call_of (implFormatInt_sat b hb) (by simp -implicitDefEqProofs (maxSteps := 2000000) only [go_sem, g, k, hn, hm, sn, sm, byt_size, digT_size]) (by kernel_rfl) (by simp -implicitDefEqProofs (maxSteps := 2000000) only [go_sem, g, k, hn, hm, sn, sm, byt_size, digT_size]) ?_
    simp -implicitDefEqProofs (maxSteps := 2000000) only [go_sem, g, k, hn, hm, sn, sm, byt_size, digT_size]
    refine call_of (implFormatInt_sat c hc) (by simp -implicitDefEqProofs (maxSteps := 2000000) only [go_sem, g, k, hn, hm, sn, sm, byt_size, digT_size]) (by kernel_rfl) (by simp -implicitDefEqProofs (maxSteps := 2000000) only [go_sem, g, k, hn, hm, sn, sm, byt_size, digT_size]) ?_
    simp -implicitDefEqProofs (maxSteps := 2000000) only [go_sem, g, k, hn, hm, sn, sm, byt_size, digT_size]
    refine call_of (implFormatInt_sat e he) (by simp -implicitDefEqProofs (maxSteps := 2000000) only [go_sem, g, k, hn, hm, sn, sm, byt_size, digT_size]) (by kernel_rfl) (by simp -implicitDefEqProofs (maxSteps := 2000000) only [go_sem, g, k, hn, hm, sn, sm, byt_size, digT_size]) ?_
    simp -implicitDefEqProofs (maxSteps := 2000000) only [go_sem, g, k, hn, hm, sn, sm, byt_size, digT_size]
  · simp -implicitDefEqProofs (maxSteps := 2000000) only [go_sem]
    refine call_of (implIsValidConstraint_sat d ⟨n, m, a, b, c, e, cp⟩ h) (by simp -implicitDefEqProofs (maxSteps := 2000000) only [go_sem, g, k, hn, hm, sn, sm, byt_size, digT_size]) (by kernel_rfl) (by simp -implicitDefEqProofs (maxSteps := 2000000) only [go_sem, g, k, hn, hm, sn, sm, byt_size, digT_size]) ?_
    simp -implicitDefEqProofs (maxSteps := 2000000) only [go_sem, g, k, hn, hm, sn, sm, byt_size, digT_size]
    refine call_of (implFormatInt_sat a ha) (by simp -implicitDefEqProofs (maxSteps := 2000000) only [go_sem, g, k, hn, hm, sn, sm, byt_size, digT_size]) (by kernel_rfl) (by simp -implicitDefEqProofs (maxSteps := 2000000) only [go_sem, g, k, hn, hm, sn, sm, byt_size, digT_size]) ?_
    simp -implicitDefEqProofs (maxSteps := 2000000) only [go_sem, g, k, hn, hm, sn, sm, byt_size, digT_size]
    refine call_of (implFormatInt_sat b hb) (by simp -implicitDefEqProofs (maxSteps := 2000000) only [go_sem, g, k, hn, hm, sn, sm, byt_size, digT_size]) (by kernel_rfl) (by simp -implicitDefEqProofs (maxSteps := 2000000) only [go_sem, g, k, hn, hm, sn, sm, byt_size, digT_size]) ?_
    simp -implicitDefEqProofs (maxSteps := 2000000) only [go_sem, g, k, hn, hm, sn, sm, byt_size, digT_size]
    refine call_of (implFormatInt_sat c hc) (by simp -implicitDefEqProofs (maxSteps := 2000000) only [go_sem, g, k, hn, hm, sn, sm, byt_size, digT_size]) (by kernel_rfl) (by simp -implicitDefEqProofs (maxSteps := 2000000) only [go_sem, g, k, hn, hm, sn, sm, byt_size, digT_size]) ?_
    simp -implicitDefEqProofs (maxSteps := 2000000) only [go_sem, g, k, hn, hm, sn, sm, byt_size, digT_size]
    refine call_of (implFormatInt_sat e he) (by simp -implicitDefEqProofs (maxSteps := 2000000) only [go_sem, g, k, hn, hm, sn, sm, byt_size, digT_size]) (by kernel_rfl) (by simp -implicitDefEqProofs (maxSteps := 2000000) only [go_sem, g, k, hn, hm, sn, sm, byt_size, digT_size]) ?_
    simp -implicitDefEqProofs (maxSteps := 2000000) only [go_sem, g, k, hn, hm, sn, sm, byt_size, digT_size]
end Go.Proofs.YtpegfljmblehnaaDoor.A


/- MARKS OF RELATIONS. Conditions: none. -/
namespace Go.Proofs.YtpegfljmblehnaaDoor.A
open Go
set_option linter.unusedSimpArgs false
set_option linter.unusedVariables false
set_option maxRecDepth 100000

def digit (k : Nat) : ByteArray := ⟨[UInt8.ofNat (48 + k % 10)].toArray⟩
def mD : Nat → Nat → ByteArray → ByteArray
  | 0, _, out => out
  | f + 1, k, out => if k = 0 then out else mD f (k / 10) (digit k ++ out)
def markT (k : Int) : ByteArray := if k ≤ 0 then ⟨#[109, 48]⟩ else ⟨#[109]⟩ ++ mD k.toNat k.toNat ByteArray.empty
theorem digit_size (k : Nat) : (digit k).size = 1 := rfl
theorem mD_zero (f : Nat) (out : ByteArray) : mD f 0 out = out := by cases f <;> simp [mD]
theorem u8_digit (k : Nat) : IntKind.u8.wrap (IntKind.i64.wrap (48 + ((k : Int).tmod 10))) = ((48 + k % 10 : Nat) : Int) := by
  have h : (k : Int).tmod 10 = ((k % 10 : Nat) : Int) := by rw [Int.tmod_eq_emod_of_nonneg (by omega)]; omega
  rw [h, IntWalk.i64_in _ (by omega)]
  have h2 : k % 10 < 10 := Nat.mod_lt _ (by omega)
  unfold IntKind.wrap
  simp [IntKind.signed, IntKind.bits]
  omega
theorem i64_div10 {k : Nat} (h : k ≤ 9223372036854775807) : IntKind.i64.wrap ((k : Int).tdiv 10) = ((k / 10 : Nat) : Int) := by
  have h1 : (k : Int).tdiv 10 = ((k / 10 : Nat) : Int) := by rw [Int.tdiv_eq_ediv_of_nonneg (by omega)]; omega
  rw [h1, IntWalk.i64_in _ (by omega)]
end Go.Proofs.YtpegfljmblehnaaDoor.A


/- CONFLICT EDGES: size, copy, comparison, marks; marks of databases. Conditions: none. -/
namespace Go.Proofs.YtpegfljmblehnaaDoor.A
open Go
set_option linter.unusedSimpArgs false
set_option linter.unusedVariables false
set_option maxRecDepth 100000

def szEds (a : List Edge) (n : Int) : Int := if n - a.length < 0 then -1 else n - a.length
theorem szEds_ok : SzOk szEds (fun a => a.length ≤ 1048576) := by
  intro a n h
  unfold szEds
  split
  · exact ⟨by omega, fun h => absurd (by omega) h⟩
  · exact ⟨by omega, fun h => by omega⟩
def cntE : Int → Nat → List Edge
  | _, 0 => []
  | k, n + 1 => ⟨k, k + 1⟩ :: cntE (k + 2) n
theorem cntE_length : ∀ (k : Int) (n : Nat), (cntE k n).length = n
  | _, 0 => rfl
  | k, n + 1 => by rw [cntE, List.length_cons, cntE_length]
theorem cntE_get : ∀ {k : Int} {n i : Nat}, i < n → (cntE k n).getD i default = ⟨k + ((2 * i : Nat) : Int), k + ((2 * i : Nat) : Int) + 1⟩
  | k, n + 1, 0, _ => by simp [cntE]
  | k, n + 1, i + 1, h => by
    rw [cntE, List.getD_cons_succ, cntE_get (by omega), show k + 2 + ((2 * i : Nat) : Int) = k + ((2 * (i + 1) : Nat) : Int) by omega]
theorem cntE_full (k : Int) (n : Nat) : List.take n (cntE k n) = cntE k n := List.take_of_length_le (by rw [cntE_length]; omega)
attribute [go_sem] cntE_full
def numDb (d : Db) : Nat := 3 * d.rels.length + numRI d.facts
theorem numDb_ok {d : Db} (h : d.ok) : numDb d ≤ 1048577 * 1048577 + 3 * 1048576 := by
  have h1 := numRI_ok h.2.2
  have h2 := h.1.1
  have h3 := h.2.1
  unfold numDb
  have : d.facts.length * 1048577 ≤ 1048576 * 1048577 := Nat.mul_le_mul_right _ h3
  omega
end Go.Proofs.YtpegfljmblehnaaDoor.A


/- THE WALK OF THE LAW OF FormatConstraint. Conditions: none. -/
namespace Go.Proofs.YtpegfljmblehnaaDoor.A
open Go
set_option linter.unusedSimpArgs false
set_option linter.unusedVariables false
set_option maxRecDepth 100000
set_option maxHeartbeats 8000000 in
/-- THE LAW OF FormatConstraint. -/
theorem lawFormatConstraint_sat (a0 : Db) (a1 : Den) (h0 : a0.fit) : Sat Tryd.prog 4 [lDb a0, lDen a1] [lBool true] [g2, g7] := by
  refine sat_of_body mixed Tryd.func4 rfl (by kernel_rfl) (by kernel_rfl) (rs := [.tmp 4]) rfl rfl rfl ?_
  simp -implicitDefEqProofs (maxSteps := 2000000) only [go_sem]
  have z0 := szDb_ok a0 1048576 (by omega)
  refine call_of (szDatabase_sat a0 1048576 (by omega) h0) (by simp -implicitDefEqProofs (maxSteps := 2000000) only [go_sem]) (by kernel_rfl) (by simp -implicitDefEqProofs (maxSteps := 2000000) only [go_sem]) ?_
  simp -implicitDefEqProofs (maxSteps := 2000000) only [go_sem]
  first | (with_reducible refine tr_and ?_ ?_; focus kernel_rfl) | (with_reducible refine tr_only ?_; kernel_rfl) | skip
  refine cond_split (fun c0 => ?_) fun c0 => ?_
  · simp -implicitDefEqProofs (maxSteps := 2000000) only [go_sem]
  have o0 := z0.2 (of_decide_eq_false c0)
  simp -implicitDefEqProofs (maxSteps := 2000000) only [go_sem]
  refine call_of (toDatabase_sat a0 o0) (by simp -implicitDefEqProofs (maxSteps := 2000000) only [go_sem]) (by kernel_rfl) (by simp -implicitDefEqProofs (maxSteps := 2000000) only [go_sem]) ?_
  simp -implicitDefEqProofs (maxSteps := 2000000) only [go_sem]
  first | (with_reducible refine tr_and ?_ ?_; focus kernel_rfl) | (with_reducible refine tr_only ?_; kernel_rfl) | skip
  refine call_of (toDenialConstraint_sat a1) (by simp -implicitDefEqProofs (maxSteps := 2000000) only [go_sem]) (by kernel_rfl) (by simp -implicitDefEqProofs (maxSteps := 2000000) only [go_sem]) ?_
  simp -implicitDefEqProofs (maxSteps := 2000000) only [go_sem]
  first | (with_reducible refine tr_and ?_ ?_; focus kernel_rfl) | (with_reducible refine tr_only ?_; kernel_rfl) | skip
  refine call_of (specFormatConstraint_sat a0 a1 h0) (by simp -implicitDefEqProofs (maxSteps := 2000000) only [go_sem]) (by kernel_rfl) (by simp -implicitDefEqProofs (maxSteps := 2000000) only [go_sem]) ?_
  simp -implicitDefEqProofs (maxSteps := 2000000) only [go_sem]
  first | (with_reducible refine tr_and ?_ ?_; focus kernel_rfl) | (with_reducible refine tr_only ?_; kernel_rfl) | skip
  refine call_of (toDatabase_sat a0 o0) (by simp -implicitDefEqProofs (maxSteps := 2000000) only [go_sem]) (by kernel_rfl) (by simp -implicitDefEqProofs (maxSteps := 2000000) only [go_sem]) ?_
  simp -implicitDefEqProofs (maxSteps := 2000000) only [go_sem]
  first | (with_reducible refine tr_and ?_ ?_; focus kernel_rfl) | (with_reducible refine tr_only ?_; kernel_rfl) | skip
  refine call_of (toDenialConstraint_sat a1) (by simp -implicitDefEqProofs (maxSteps := 2000000) only [go_sem]) (by kernel_rfl) (by simp -implicitDefEqProofs (maxSteps := 2000000) only [go_sem]) ?_
  simp -implicitDefEqProofs (maxSteps := 2000000) only [go_sem]
  first | (with_reducible refine tr_and ?_ ?_; focus kernel_rfl) | (with_reducible refine tr_only ?_; kernel_rfl) | skip
  refine call_of (implFormatConstraint_sat a0 a1 h0) (by simp -implicitDefEqProofs (maxSteps := 2000000) only [go_sem]) (by kernel_rfl) (by simp -implicitDefEqProofs (maxSteps := 2000000) only [go_sem]) ?_
  simp -implicitDefEqProofs (maxSteps := 2000000) only [go_sem]
  first | (with_reducible refine tr_and ?_ ?_; focus kernel_rfl) | (with_reducible refine tr_only ?_; kernel_rfl) | skip
  refine call_of (toDatabase_sat a0 o0) (by simp -implicitDefEqProofs (maxSteps := 2000000) only [go_sem]) (by kernel_rfl) (by simp -implicitDefEqProofs (maxSteps := 2000000) only [go_sem]) ?_
  simp -implicitDefEqProofs (maxSteps := 2000000) only [go_sem]
  first | (with_reducible refine tr_and ?_ ?_; focus kernel_rfl) | (with_reducible refine tr_only ?_; kernel_rfl) | skip
  refine call_of (eqDatabase_sat a0 a0 h0) (by simp -implicitDefEqProofs (maxSteps := 2000000) only [go_sem]) (by kernel_rfl) (by simp -implicitDefEqProofs (maxSteps := 2000000) only [go_sem]) ?_
  simp -implicitDefEqProofs (maxSteps := 2000000) only [go_sem]
  first | (with_reducible refine tr_and ?_ ?_; focus kernel_rfl) | (with_reducible refine tr_only ?_; kernel_rfl) | skip
end Go.Proofs.YtpegfljmblehnaaDoor.A


/- THE LAW FnExactFormatConstraint: for every input it returns true, and the input reads as it did. Conditions: none. -/
namespace Go.Proofs.YtpegfljmblehnaaDoor.lawFormatConstraint
open Go.ChangeShapes Go.WideShapes Go.ChangeAt Go.RowKit
open Go.Proofs.YtpegfljmblehnaaDoor.A
set_option linter.unusedVariables false
theorem own : ownKnob Tryd.prog.godebug = none := by kernel_rfl
theorem laid : laidOutB Tryd.prog = true := by kernel_rfl
theorem rowed : mapsRowed Tryd.prog = true := by kernel_rfl
theorem full : ((List.range Tryd.prog.types.size).all fun t => match Tryd.prog.underlying t with | some (.slice e) => decide (0 < Tryd.prog.cellsOf e) | _ => true) = true := by kernel_rfl
set_option maxRecDepth 100000 in
theorem lifted (os : Os) (started : os.Started) (H : Type) (enc : TypeId × Value → H) :
    ReturnsInHanded {} Tryd.checked os 4 .any (fun w args => (Rows.fnExactFormatConstraintSpec.pre enc Tryd.prog Tryd.f4 Rows.fnExactFormatConstraintRow.domain false w args ∧ laidMetH Tryd.prog Rows.fnExactFormatConstraintRow.laid w) ∧ sizedMet enc Tryd.prog Tryd.f4 (OpenSpec.ofChange Rows.fnExactFormatConstraintSpec) false w args)
      (Rows.fnExactFormatConstraintSpec.post enc Tryd.prog Tryd.f4 false true false false) := by
  refine returnsInHanded_of_change_and (C := Tryd.checked) (X := fun w _ => laidMetH Tryd.prog Rows.fnExactFormatConstraintRow.laid w) (fun _ _ _ hh h => h.of_heap hh) own started (by kernel_rfl) Tryd.func4
    (ChangeSpec.witness_shaped (enc := enc) (C := Tryd.checked) (os := os) (X := fun w _ => laidMetH Tryd.prog Rows.fnExactFormatConstraintRow.laid w) false (World.laidAll Tryd.prog os Rows.fnExactFormatConstraintRow.laid) #[.agg #[.slice none 0 0, .slice none 0 0], .agg #[.int .i64 0, .int .i64 0, .int .i64 0, .int .i64 0, .int .i64 0, .int .i64 0, .int .i64 0]] 8 (World.laidAll_os _ _ _)
      (World.shaped_of_ZipB (by kernel_rfl) (by kernel_rfl)) (by kernel_rfl) (by kernel_rfl) (by kernel_rfl)
      (by rw [MakeChecks.laidMetH_plain _ _ _ (by kernel_rfl)]; exact laidMet_laidAll _ (by kernel_rfl) (by kernel_rfl))) ?_
  intro W base args ds gs before hval hW _ _ _ _
  obtain ⟨p, q, hA, hV, hpq, _⟩ := id hW
  rw [Tryd.params4] at hA hval
  obtain ⟨v0, vs0, d0, ds0, p0, q0, e0, rfl, rfl, h0, r0⟩ := trodAll_cons hA
  obtain ⟨v1, vs1, d1, ds1, p1, q1, e1, rfl, rfl, h1, r1⟩ := trodAll_cons r0
  subst e1
  obtain ⟨rfl, rfl, rfl⟩ := trodAll_nil r1
  obtain ⟨rfl, _⟩ := trodVars_none hV
  obtain rfl : args = #[v0, v1] := by cases args; simp_all
  have rI := readsC_int (enc := enc) (W := W) und3
  have rIs := readsC_ints (enc := enc) (W := W) und42 (by kernel_rfl) und3
  have rS := readsC_str (enc := enc) (W := W) und9
  have rR : ReadsC enc Tryd.prog W 66 cRel Rel.fit := readsC_map (readsC_three Tryd.underlying66 (by kernel_rfl) (by kernel_rfl) rS rI rI) (fun x => ⟨x.1, x.2.1, x.2.2⟩) (fun _ => rfl) (fun _ h => h.1)
  have lRs := readsL_rows (w := 3) rR und24 (by kernel_rfl) (by omega) (fun _ => rfl) rels (fun _ => rfl)
  have rF : ReadsC enc Tryd.prog W 85 (cRI 0) RI.fit := readsC_map (readsC_pair Tryd.underlying85 (by kernel_rfl) (by kernel_rfl) rI rIs) (fun x => ⟨x.1, x.2⟩) (fun _ => rfl) (fun _ h => h.2)
  have lFs := readsL_rows (w := 2) rF und25 (by kernel_rfl) (by omega) (fun _ => rfl) (ris 0) (fun _ => rfl)
  obtain ⟨a0, b0, ga0, gb0, l0⟩ := arg_pair Tryd.underlying27 (by kernel_rfl) (by kernel_rfl) lRs lFs (hval 0 _ v0 rfl rfl) h0
  obtain ⟨a1, l1⟩ := arg_den Tryd.underlying29 (by kernel_rfl) (by kernel_rfl) und3 und3 und3 und3 und3 und3 und3 (hval 1 _ v1 rfl rfl) h1
  exact law_calls laid rowed full Tryd.func4 rfl (by kernel_rfl) rfl rfl (by kernel_rfl) rfl und4 hW (lawFormatConstraint_sat ⟨a0, b0⟩ a1 ⟨ga0, gb0⟩) ⟨l0 _, l1 _, trivial⟩ rfl rfl rfl
theorem over : Rows.fnExactFormatConstraintRow.holds Tryd.pinned (OpenSpec.ofChange Rows.fnExactFormatConstraintSpec) :=
  OpenClaim.holds_of_wide 4 Tryd.f4 rfl rfl rfl rfl rfl rfl rfl ⟨rfl, rfl, rfl, rfl, rfl⟩ rfl rfl rfl rfl rfl (by kernel_rfl) Tryd.func4 (by kernel_rfl)
    (of_decide_eq_true (by kernel_rfl)) (by unfold Func.isWrapper; first | (rw [if_pos (by decide +kernel)]; kernel_rfl) | (rw [if_neg (by decide +kernel)]; exact ⟨rfl, rfl⟩))
    (fun os started H enc _ => lifted os started H enc)
end Go.Proofs.YtpegfljmblehnaaDoor.lawFormatConstraint
namespace Go.Proofs.YtpegfljmblehnaaDoor
/-- The card. -/
theorem fnExactFormatConstraint_holds : Rows.FnExactFormatConstraintCardSaid :=
  Claim7.holds_tied_plain_at .later [] [.data, .data, .data] true (true, "15dca222007048aae68865fb3af2919e712b0b59a711ab0c83e90f323d444046") false lawFormatConstraint.over (fun _ h => by cases h) (by kernel_rfl) (fun _ h => by cases h) fnExactFormatConstraint_row_tie rfl ⟨rfl, rfl⟩ (by kernel_rfl) rfl
    (fun f fn hf hfn => by
      obtain rfl : f = 4 := Option.some.inj ((show Tryd.prog.funcNamed "loop.example/g01918/laws.FnExactFormatConstraint" = some 4 by kernel_rfl).symm.trans hf) |>.symm
      obtain rfl : fn = Tryd.f4 := (Option.some.inj (Tryd.func4.symm.trans hfn)).symm
      refine ⟨by kernel_rfl, fun j t ht => ?_⟩
      have hall : (Tryd.f4.params.all fun u => !Tryd.prog.wantsStandIn u) = true := by kernel_rfl
      have hm := Array.mem_of_getElem? ht
      exact (show Tryd.prog.wantsStandIn t = false by simpa using (Array.all_eq_true_iff_forall_mem.mp hall) t hm))
    (by kernel_rfl)
#print axioms fnExactFormatConstraint_holds
end Go.Proofs.YtpegfljmblehnaaDoor
