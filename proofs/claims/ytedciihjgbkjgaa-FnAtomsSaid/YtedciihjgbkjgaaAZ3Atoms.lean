/- Packed by pack.py: FPq FDraw13 FDraw14 FDraw15 FDraw9 FDraw16 FDraw10 FDraw19 FMis FMis2 FMis3 FMis4 FDraw4 FDel FRem F4 WAtoms LKB LAtoms -/
import Derived.Test.YtedciihjgbkjgaaAZ1Atoms
import Derived.Test.YtedciihjgbkjgaaAZ2Atoms
import Derived.Test.YtedciihjgbkjgaaA44
import Derived.Shelf.RegionOpenPlain
import Derived.WalkKit
import Derived.Deep.LoopGhost
import Derived.Deep.RegionLaw
import Derived.Lib.Walk
import Derived.Lib.SliceRun
import Derived.Sort.Row
import Derived.Test.YtedciihjgbkjgaaRows

/- A QUERY READ FROM A TEXT: the reference. Conditions: none. -/
namespace Go.Proofs.Ytedciihjgbkjgaa.A
open Go
set_option linter.unusedSimpArgs false
set_option linter.unusedVariables false
set_option maxRecDepth 100000

/-! #### a text cut at a sign -/
abbrev byA (s : ByteArray) (i : Nat) : Nat := (s.data.toList.getD i 0).toNat
def splA (s : ByteArray) (c : Nat) : Nat → Nat
  | 0 => 0
  | i + 1 => if byA s i = c then i + 1 else splA s c i
def splO (s : ByteArray) (c : Nat) : Nat → List ByteArray
  | 0 => []
  | i + 1 => if byA s i = c then splO s c i ++ [s.extract (splA s c i) i] else splO s c i
def splS (s : ByteArray) (c : Nat) : List ByteArray := splO s c s.size ++ [s.extract (splA s c s.size) s.size]
theorem splA_le (s : ByteArray) (c : Nat) : ∀ i, splA s c i ≤ i
  | 0 => Nat.le_refl _
  | i + 1 => by
    have := splA_le s c i
    rw [splA]; split <;> omega
theorem splO_len (s : ByteArray) (c : Nat) : ∀ i, (splO s c i).length ≤ i
  | 0 => Nat.le_refl _
  | i + 1 => by
    have := splO_len s c i
    rw [splO]; split
    · rw [List.length_append, List.length_singleton]; omega
    · omega
theorem splS_len (s : ByteArray) (c : Nat) : (splS s c).length ≤ s.size + 1 := by
  have := splO_len s c s.size
  unfold splS
  rw [List.length_append, List.length_singleton]; omega
theorem ext_size (s : ByteArray) (a b : Nat) : (s.extract a b).size ≤ s.size := by
  rw [ByteArray.size_extract]; omega
theorem splO_mem (s : ByteArray) (c : Nat) : ∀ (i : Nat), ∀ x ∈ splO s c i, x.size ≤ s.size
  | 0, x, hx => by cases hx
  | i + 1, x, hx => by
    rw [splO] at hx
    split at hx
    · rcases List.mem_append.mp hx with h | h
      · exact splO_mem s c i x h
      · rw [List.mem_singleton.mp h]; exact ext_size _ _ _
    · exact splO_mem s c i x hx
theorem splS_mem (s : ByteArray) (c : Nat) : ∀ x ∈ splS s c, x.size ≤ s.size := by
  intro x hx
  rcases List.mem_append.mp hx with h | h
  · exact splO_mem s c _ x h
  · rw [List.mem_singleton.mp h]; exact ext_size _ _ _
theorem txs_one (s : ByteArray) : [[Cell.sc (.string s)]] = txs [s] := rfl
theorem txs_append (a b : List ByteArray) : txs a ++ txs b = txs (a ++ b) := by simp [txs]
theorem txs_flat (a : List ByteArray) : flatB (txs a) = true := by simp [flatB, txs, cTx, Cell.flatB]
theorem txs_stm (n : Nat) (a : List ByteArray) : stm n (txs a) = txs a := stm_map n _ _ (fun _ => rfl) a
theorem txs_still (a : List ByteArray) : stillRows (txs a) = true := by simp [stillRows, txs, cTx, Cell.still]
theorem txs_nil : txs [] = [] := rfl
attribute [go_sem] txs_append txs_flat txs_stm
theorem repP {α : Type} (a : α) : List.replicate 1 a = [a] := rfl
theorem u8_eq {a b : Nat} : (((a : Nat) : Int) == ((b : Nat) : Int)) = decide (a = b) := by
  rw [Bool.eq_iff_iff, beq_iff_eq, decide_eq_true_iff]; omega
theorem l6Cut_sat (s : ByteArray) (c : Nat) (h : s.size ≤ 1048576) : Sat Try.prog 114 [lStr s, .one (.sc (.int .u8 c))] [.one (.ow 1 (txs (splS s c)))] [g1, g1] := by
  refine sat_of_body mixed Try.func114 rfl (by kernel_rfl) (by kernel_rfl) (rs := [.tmp 4]) rfl rfl rfl ?_
  simp -implicitDefEqProofs (maxSteps := 2000000) only [go_sem]
  refine awp_loop Nat (fun i => mkSt [(0, .sc (.string s)), (1, .sc (.int .u8 c)), (5, .one (.ref 960 1 0 (splO s c i).length)), (6, .sc (.int .i64 (splA s c i))), (7, .sc (.int .i64 i))] [] [(960, (1, txs (splO s c i)))] 4000)
    (fun i => i ≤ s.size) (fun i => s.size - i) 0 (by omega) (le_st' _ _ [⟨960, some _, false, 1, _⟩] [] _ (by simp -implicitDefEqProofs (maxSteps := 2000000) only [go_sem, splO, splA, txs_nil, List.length_nil] <;> and_intros <;> rfl) (by simp -implicitDefEqProofs (maxSteps := 2000000) only [go_sem, splO, splA, txs_nil, List.length_nil] <;> and_intros <;> rfl) (by simp -implicitDefEqProofs (maxSteps := 2000000) only [go_sem, splO, splA, txs_nil, List.length_nil] <;> and_intros <;> rfl) (by rfl)) ?_
  rintro i h1
  have hl := splO_len s c i
  have ha := splA_le s c i
  by_cases c1 : i < s.size
  · have wi : IntKind.i64.wrap ((i : Int) + 1) = ((i + 1 : Nat) : Int) := i64_succ (by omega)
    rcases d : decide (byA s i = c)
    · have e1 : splO s c (i + 1) = splO s c i := by rw [splO, if_neg (of_decide_eq_false d)]
      have e2 : splA s c (i + 1) = splA s c i := by rw [splA, if_neg (of_decide_eq_false d)]
      simp -implicitDefEqProofs (maxSteps := 2000000) only [go_sem, c1, u8_eq, d, wi]
      exact ⟨i + 1, c1, by omega, (le_st' _ _ [⟨960, some _, false, 1, _⟩] [] _ (by simp -implicitDefEqProofs (maxSteps := 2000000) only [go_sem, e1, e2] <;> and_intros <;> rfl) (by simp -implicitDefEqProofs (maxSteps := 2000000) only [go_sem, e1, e2] <;> and_intros <;> rfl) (by simp -implicitDefEqProofs (maxSteps := 2000000) only [go_sem, e1, e2] <;> and_intros <;> rfl) (by rfl))⟩
    · have e1 : splO s c (i + 1) = splO s c i ++ [s.extract (splA s c i) i] := by rw [splO, if_pos (of_decide_eq_true d)]
      have e2 : splA s c (i + 1) = i + 1 := by rw [splA, if_pos (of_decide_eq_true d)]
      simp -implicitDefEqProofs (maxSteps := 2000000) only [go_sem, c1, u8_eq, d, wi]
      repeat (refine And.intro (by omega) ?_)
      exact ⟨i + 1, c1, by omega, (le_st' _ _ [⟨960, some _, false, 1, _⟩] [] _ (by simp -implicitDefEqProofs (maxSteps := 2000000) only [go_sem, e1, e2, repP, List.set_cons_zero] <;> and_intros <;> rfl) (by simp -implicitDefEqProofs (maxSteps := 2000000) only [go_sem, e1, e2, repP, List.set_cons_zero] <;> and_intros <;> rfl) (by simp -implicitDefEqProofs (maxSteps := 2000000) only [go_sem, e1, e2, repP, List.set_cons_zero] <;> and_intros <;> rfl) (by rfl))⟩
  · obtain rfl : i = s.size := by omega
    simp -implicitDefEqProofs (maxSteps := 2000000) only [go_sem, c1]
    repeat (refine And.intro (by omega) ?_)
    exact ⟨rfl, rfl⟩
/-! #### where a name stands -/
def nameNo (l : List Rel) (s : ByteArray) (i : Nat) : Bool := !decide ((l.getD i default).name = s)
def relIx (l : List Rel) (s : ByteArray) : Int := firstNo (nameNo l s) l.length 0
theorem specRelationIndex_sat (l : List Rel) (s : ByteArray) (h : l.length ≤ 9223372036854775807) : Sat Try.prog 116 [lRels l, lStr s] [lInt (relIx l s)] [g1, g1] := by
  refine sat_of_body mixed Try.func116 rfl (by kernel_rfl) (by kernel_rfl) (rs := [.tmp 4]) rfl rfl rfl ?_
  unfold relIx
  generalize hp : nameNo l s = p
  have hp' : ∀ i, p i = !decide ((l.getD i default).name = s) := fun i => by rw [← hp]; rfl
  simp -implicitDefEqProofs (maxSteps := 2000000) only [go_sem]
  refine awp_loop Nat (fun k => mkSt [(0, .one (.im 3 (rels l))), (1, .sc (.string s)), (5, .sc (.int .i64 k))] [] [] 3000)
    (fun k => k ≤ l.length ∧ firstNo p (l.length - k) k = firstNo p l.length 0) (fun k => l.length - k) 0 ⟨by omega, by rw [Nat.sub_zero]⟩ (le_st _ _ [] [] _ rfl (by simp -implicitDefEqProofs (maxSteps := 2000000) only [go_sem] <;> rfl) trivial trivial) ?_
  rintro k ⟨h1, h2⟩
  by_cases c1 : k < l.length
  · rw [show l.length - k = (l.length - (k + 1)) + 1 by omega, firstNo, hp'] at h2
    rcases e : decide ((l.getD k default).name = s)
    · rw [e, Bool.not_false, if_pos rfl] at h2
      simp -implicitDefEqProofs (maxSteps := 2000000) only [go_sem, c1, e]
      rw [i64_succ (by omega)]
      exact ⟨k + 1, ⟨c1, h2⟩, by omega, (le_st _ _ [] [] _ rfl (by simp -implicitDefEqProofs (maxSteps := 2000000) only [go_sem] <;> rfl) trivial trivial)⟩
    · rw [e, Bool.not_true, if_neg (by simp)] at h2
      simp -implicitDefEqProofs (maxSteps := 2000000) only [go_sem, c1, e]
      rw [← h2]
  · obtain rfl : k = l.length := by omega
    rw [Nat.sub_self, firstNo] at h2
    simp -implicitDefEqProofs (maxSteps := 2000000) only [go_sem, c1]
    rw [← h2]
/-! #### the parts of a query's text -/
def t1 (s : ByteArray) (i : Nat) : Int := (pT (s.extract i (i + 1))).1
def freeT (w : ByteArray) : Nat → List Int
  | 0 => []
  | i + 1 => freeT w i ++ [t1 w i]
def skipT (p : ByteArray) (k : Nat) : Bool := decide (k = 0) || decide (byA p k = 124)
def wordT (p : ByteArray) : Nat → List Int
  | 0 => []
  | k + 1 => if skipT p k then wordT p k else wordT p k ++ [t1 p k]
def wordV (p : ByteArray) (m : Int) : Nat → Int
  | 0 => m
  | k + 1 => if skipT p k then wordV p m k else if t1 p k + 1 > wordV p m k then t1 p k + 1 else wordV p m k
def wordR (l : List Rel) (p : ByteArray) : Nat → Int
  | 0 => 0
  | k + 1 => if k = 0 then relIx l (p.extract 0 1) else wordR l p k
def wordA (l : List Rel) (p : ByteArray) : RI := ⟨wordR l p p.size, wordT p p.size⟩
def allV (ps : List ByteArray) : Nat → Int
  | 0 => 0
  | i + 1 => wordV (ps.getD i ⟨#[]⟩) (allV ps i) (ps.getD i ⟨#[]⟩).size
def allA (l : List Rel) (ps : List ByteArray) (n : Nat) : List RI := (ps.take n).map (wordA l)
def readQ (l : List Rel) (s : ByteArray) : Qu := ⟨allV (splS ((splS s 63).getD 1 ⟨#[]⟩) 32) (splS ((splS s 63).getD 1 ⟨#[]⟩) 32).length, allA l (splS ((splS s 63).getD 1 ⟨#[]⟩) 32) (splS ((splS s 63).getD 1 ⟨#[]⟩) 32).length, freeT ((splS s 63).getD 0 ⟨#[]⟩) ((splS s 63).getD 0 ⟨#[]⟩).size⟩
def noQ : Qu := ⟨0, [], []⟩
def okQ (l : List Rel) (s : ByteArray) : Bool := decide ((splS s 63).length = 2) && decide (quText l (readQ l s) = s)
def parQ (l : List Rel) (s : ByteArray) : Qu := if okQ l s then readQ l s else noQ
theorem freeT_len (w : ByteArray) : ∀ i, (freeT w i).length = i
  | 0 => rfl
  | i + 1 => by rw [freeT, List.length_append, freeT_len w i]; rfl
theorem wordT_len (p : ByteArray) : ∀ i, (wordT p i).length ≤ i
  | 0 => Nat.le_refl _
  | i + 1 => by
    have := wordT_len p i
    rw [wordT]; split
    · omega
    · rw [List.length_append, List.length_singleton]; omega
theorem pT_lo (s : ByteArray) : -10 ≤ (pT s).1 ∧ (pT s).1 ≤ 3 := by
  unfold pT
  split
  · unfold p1
    split
    · simp
    split
    · simp
    split
    · simp
    split
    · simp
    split
    · simp only; omega
    · simp
  · simp
theorem wordV_lo {p : ByteArray} {m : Int} (h : 0 ≤ m ∧ m ≤ 4) : ∀ k, 0 ≤ wordV p m k ∧ wordV p m k ≤ 4
  | 0 => h
  | k + 1 => by
    have h1 := wordV_lo (p := p) h k
    have h2 := pT_lo (p.extract k (k + 1))
    rw [wordV]; split
    · exact h1
    · unfold t1; split <;> omega
theorem allV_lo (ps : List ByteArray) : ∀ i, 0 ≤ allV ps i ∧ allV ps i ≤ 4
  | 0 => by simp [allV]
  | i + 1 => wordV_lo (allV_lo ps i) _
theorem readQ_ok {l : List Rel} {s : ByteArray} (h : s.size ≤ 1048575) : (readQ l s).ok := by
  have m1 : ∀ i, ((splS s 63).getD i ⟨#[]⟩).size ≤ s.size := by
    intro i
    rcases Nat.lt_or_ge i (splS s 63).length with hi | hi
    · exact splS_mem s 63 _ (mem_getD (⟨#[]⟩ : ByteArray) hi)
    · rw [List.getD_eq_getElem?_getD, List.getElem?_eq_none hi]; exact Nat.zero_le _
  have a0 := m1 0
  have a1 := m1 1
  unfold readQ Qu.ok
  generalize (splS s 63).getD 1 ⟨#[]⟩ = w at a1
  have b1 := splS_len w 32
  refine ⟨⟨?_, fun x hx => ?_⟩, ?_⟩
  · show (allA l (splS w 32) (splS w 32).length).length ≤ _
    unfold allA
    rw [List.length_map, List.length_take]; omega
  · unfold allA at hx
    obtain ⟨p, hp, rfl⟩ := List.mem_map.mp hx
    have b2 := splS_mem w 32 p (List.mem_of_mem_take hp)
    have b3 := wordT_len p p.size
    unfold RI.ok wordA
    simp only
    omega
  · show (freeT _ _).length ≤ _
    rw [freeT_len]; omega
theorem wordA_step {l : List Rel} {ps : List ByteArray} {k : Nat} (h : k < ps.length) : allA l ps (k + 1) = allA l ps k ++ [wordA l (ps.getD k ⟨#[]⟩)] := by
  unfold allA
  rw [take_snoc (⟨#[]⟩ : ByteArray) h, List.map_append]; rfl
theorem allA_len (l : List Rel) (ps : List ByteArray) {k : Nat} (h : k ≤ ps.length) : (allA l ps k).length = k := by
  unfold allA
  rw [List.length_map, List.length_take]; omega
abbrev zQ3 : List SV := [.sc (.int .i64 0), .sc (.slice none 0 0), .sc (.slice none 0 0)]
set_option maxHeartbeats 8000000 in
theorem specParseQuery_sat (l : List Rel) (s : ByteArray) (hl : l.length ≤ 9223372036854775807) (h : s.size ≤ 1048575) : Sat Try.prog 106 [lRels l, lStr s] [oQu (parQ l s), lBool (okQ l s)] [g1, g1] := by
  refine sat_of_body mixed Try.func106 rfl (by kernel_rfl) (by kernel_rfl) (rs := [.cell 4 28, .tmp 5]) rfl rfl rfl ?_
  have hq := readQ_ok (l := l) h
  have hcl := splS_len s 63
  by_cases h2 : (splS s 63).length = 2
  case neg =>
    have e1 : parQ l s = noQ := by rw [parQ, okQ, decide_eq_false h2]; rfl
    have e2 : okQ l s = false := by rw [okQ, decide_eq_false h2]; rfl
    have d2 : ((((splS s 63).length : Nat) : Int) != 2) = true := by rw [bne_iff_ne]; omega
    rw [e1, e2]
    simp -implicitDefEqProofs (maxSteps := 2000000) only [go_sem]
    refine call_of (l6Cut_sat s 63 (by omega)) (by simp -implicitDefEqProofs (maxSteps := 2000000) only [go_sem, d2] <;> and_intros <;> rfl) (by kernel_rfl) (by simp -implicitDefEqProofs (maxSteps := 2000000) only [go_sem, d2]) ?_
    simp -implicitDefEqProofs (maxSteps := 2000000) only [go_sem, d2]
    and_intros <;> rfl
  have d2 : (((2 : Nat) : Int) != 2) = false := rfl
  have hrd : readQ l s = readQ l s := rfl
  obtain ⟨w0, w1, hw⟩ : ∃ w0 w1, splS s 63 = [w0, w1] := by
    rcases e : splS s 63 with _ | ⟨a, _ | ⟨b, _ | ⟨c, r⟩⟩⟩
    · rw [e] at h2; simp at h2
    · rw [e] at h2; simp at h2
    · exact ⟨a, b, rfl⟩
    · rw [e] at h2; simp at h2
  have hs0 : w0.size ≤ s.size := splS_mem s 63 w0 (by rw [hw]; simp)
  have hs1 : w1.size ≤ s.size := splS_mem s 63 w1 (by rw [hw]; simp)
  have s1 := l6Cut_sat s 63 (by omega)
  rw [hw] at s1
  have hR : readQ l s = ⟨allV (splS w1 32) (splS w1 32).length, allA l (splS w1 32) (splS w1 32).length, freeT w0 w0.size⟩ := by unfold readQ; rw [hw]; rfl
  have hpl := splS_len w1 32
  have hpm := splS_mem w1 32
  have e0 : (txs [w0, w1]).getD 0 [] = [.sc (.string w0)] := rfl
  have e1 : (txs [w0, w1]).getD 1 [] = [.sc (.string w1)] := rfl
  have e2 : okQ l s = decide (quText l (readQ l s) = s) := by rw [okQ, decide_eq_true h2, Bool.true_and]
  have s2 := l6Cut_sat w1 32 (by omega)
  rw [parQ, e2]
  rw [hR] at hq ⊢
  generalize splS w1 32 = ps at hpl hpm s2 hq ⊢
  simp -implicitDefEqProofs (maxSteps := 2000000) only [go_sem]
  refine call_of (s1) (by simp -implicitDefEqProofs (maxSteps := 2000000) only [go_sem, d2] <;> and_intros <;> rfl) (by kernel_rfl) (by simp -implicitDefEqProofs (maxSteps := 2000000) only [go_sem, d2]) ?_
  simp -implicitDefEqProofs (maxSteps := 2000000) only [go_sem, d2]
  refine awp_loop Nat (fun i => mkSt [(0, .one (.im 3 (rels l))), (1, .sc (.string s)), (4, .one (.vad 1000 0)), (5, .sc (.bool false)), (6, .one (.ref 960 1 0 2)), (7, .one (.vad 1576 0)), (8, .sc (.int .i64 i))] [(1000, zQ3), (1576, [.sc (.int .i64 0), .sc (.slice none 0 0), .ref 961 1 0 i])] [(960, (1, txs [w0, w1])), (961, (1, ints (freeT w0 i)))] 4000)
    (fun i => i ≤ w0.size) (fun i => w0.size - i) 0 (by omega) (le_st' _ _ [⟨960, some _, false, 1, _⟩, ⟨961, none, false, 1, _⟩] [] _ (by simp -implicitDefEqProofs (maxSteps := 2000000) only [go_sem, freeT, ints_nil] <;> and_intros <;> rfl) (by simp -implicitDefEqProofs (maxSteps := 2000000) only [go_sem, freeT, ints_nil] <;> and_intros <;> rfl) (by simp -implicitDefEqProofs (maxSteps := 2000000) only [go_sem, freeT, ints_nil] <;> and_intros <;> rfl) (by rfl)) ?_
  rintro i h1
  have hfl := freeT_len w0 i
  by_cases c1 : i < w0.size
  · have wi : IntKind.i64.wrap ((i : Int) + 1) = ((i + 1 : Nat) : Int) := i64_succ (by omega)
    have hc1 : i + 1 ≤ w0.size := c1
    have hst : freeT w0 (i + 1) = freeT w0 i ++ [t1 w0 i] := rfl
    simp -implicitDefEqProofs (maxSteps := 2000000) only [go_sem, e0, c1, wi, hc1, Nat.le_add_right]
    refine call_of (specParseTerm_sat (w0.extract i (i + 1))) (by simp -implicitDefEqProofs (maxSteps := 2000000) only [go_sem]) (by kernel_rfl) (by simp -implicitDefEqProofs (maxSteps := 2000000) only [go_sem]) ?_
    simp -implicitDefEqProofs (maxSteps := 2000000) only [go_sem]
    repeat (refine And.intro (by omega) ?_)
    rw [show (pT (w0.extract i (i + 1))).1 = t1 w0 i from rfl, wi]
    refine ⟨i + 1, c1, by omega, ?_⟩
    rw [hst]
    exact (le_st' _ _ [⟨960, some _, false, 1, _⟩, ⟨961, some _, false, 1, _⟩] [] _ (by simp -implicitDefEqProofs (maxSteps := 2000000) only [go_sem, hfl, repP, List.set_cons_zero] <;> and_intros <;> rfl) (by simp -implicitDefEqProofs (maxSteps := 2000000) only [go_sem, hfl, repP, List.set_cons_zero] <;> and_intros <;> rfl) (by simp -implicitDefEqProofs (maxSteps := 2000000) only [go_sem, hfl, repP, List.set_cons_zero] <;> and_intros <;> rfl) (by rfl))
  obtain rfl : i = w0.size := by omega
  simp -implicitDefEqProofs (maxSteps := 2000000) only [go_sem, e0, e1, c1]
  refine call_of (s2) (by simp -implicitDefEqProofs (maxSteps := 2000000) only [go_sem] <;> and_intros <;> rfl) (by kernel_rfl) (by simp -implicitDefEqProofs (maxSteps := 2000000) only [go_sem]) ?_
  simp -implicitDefEqProofs (maxSteps := 2000000) only [go_sem]
  have hA := fun k (hk : k ≤ ps.length) => allA_len l ps hk
  refine awp_loop Nat (fun i => mkSt [(0, .one (.im 3 (rels l))), (1, .sc (.string s)), (4, .one (.vad 1000 0)), (5, .sc (.bool false)), (7, .one (.vad 1576 0)), (11, .one (.ref 960 1 0 ps.length)), (12, .sc (.int .i64 i))] [(1000, zQ3), (1576, [.sc (.int .i64 (allV ps i)), .ref 962 2 0 i, .ref 961 1 0 w0.size])] [(960, (1, txs ps)), (961, (1, ints (freeT w0 w0.size))), (962, (2, ris 999 (allA l ps i)))] 20000)
    (fun i => i ≤ ps.length) (fun i => ps.length - i) 0 (by omega) (le_st' _ _ [⟨960, some _, false, 1, _⟩, ⟨961, some _, false, 1, _⟩, ⟨962, none, false, 2, _⟩] [] _ (by simp -implicitDefEqProofs (maxSteps := 2000000) only [go_sem, hfl, allV, allA, List.take_zero, List.map_nil, ris_nil] <;> and_intros <;> rfl) (by simp -implicitDefEqProofs (maxSteps := 2000000) only [go_sem, hfl, allV, allA, List.take_zero, List.map_nil, ris_nil] <;> and_intros <;> rfl) (by simp -implicitDefEqProofs (maxSteps := 2000000) only [go_sem, hfl, allV, allA, List.take_zero, List.map_nil, ris_nil] <;> and_intros <;> rfl) (by rfl)) ?_
  rintro i h3
  have hAi := hA i h3
  have hVi := allV_lo ps i
  by_cases c2 : i < ps.length
  · have wi : IntKind.i64.wrap ((i : Int) + 1) = ((i + 1 : Nat) : Int) := i64_succ (by omega)
    have hstA := wordA_step (l := l) c2
    have hstV : allV ps (i + 1) = wordV (ps.getD i ⟨#[]⟩) (allV ps i) (ps.getD i ⟨#[]⟩).size := rfl
    have hpz := hpm _ (mem_getD (⟨#[]⟩ : ByteArray) c2)
    have eg := txs_get c2
    have hwA : wordA l (ps.getD i ⟨#[]⟩) = ⟨wordR l (ps.getD i ⟨#[]⟩) (ps.getD i ⟨#[]⟩).size, wordT (ps.getD i ⟨#[]⟩) (ps.getD i ⟨#[]⟩).size⟩ := rfl
    rw [hwA] at hstA
    clear hwA
    generalize ps.getD i ⟨#[]⟩ = p at hstA hstV hpz eg
    generalize allV ps i = m0 at hVi hstV
    simp -implicitDefEqProofs (maxSteps := 2000000) only [go_sem, c2, eg]
    refine awp_loop Nat (fun k => mkSt [(0, .one (.im 3 (rels l))), (1, .sc (.string s)), (4, .one (.vad 1000 0)), (5, .sc (.bool false)), (7, .one (.vad 1576 0)), (11, .one (.ref 960 1 0 ps.length)), (12, .sc (.int .i64 i)), (13, .one (.vad 20320 0)), (14, .sc (.int .i64 k))] [(1000, zQ3), (1576, [.sc (.int .i64 (wordV p m0 k)), .ref 962 2 0 i, .ref 961 1 0 w0.size]), (20320, [.sc (.int .i64 (wordR l p k)), .ref 963 1 0 (wordT p k).length])] [(960, (1, txs ps)), (961, (1, ints (freeT w0 w0.size))), (962, (2, ris 999 (allA l ps i))), (963, (1, ints (wordT p k)))] 40000)
      (fun k => k ≤ p.size) (fun k => p.size - k) 0 (by omega) (le_st' _ _ [⟨960, some _, false, 1, _⟩, ⟨961, some _, false, 1, _⟩, ⟨962, some _, false, 2, _⟩, ⟨963, none, false, 1, _⟩] [] _ (by simp -implicitDefEqProofs (maxSteps := 2000000) only [go_sem, wordV, wordR, wordT, ints_nil, List.length_nil] <;> and_intros <;> rfl) (by simp -implicitDefEqProofs (maxSteps := 2000000) only [go_sem, wordV, wordR, wordT, ints_nil, List.length_nil] <;> and_intros <;> rfl) (by simp -implicitDefEqProofs (maxSteps := 2000000) only [go_sem, wordV, wordR, wordT, ints_nil, List.length_nil] <;> and_intros <;> rfl) (by rfl)) ?_
    rintro k h4
    have hTl := wordT_len p k
    have hVk := wordV_lo (p := p) hVi k
    by_cases c3 : k < p.size
    · have wk : IntKind.i64.wrap ((k : Int) + 1) = ((k + 1 : Nat) : Int) := i64_succ (by omega)
      have c4 : k + 1 ≤ p.size := c3
      by_cases k0 : k = 0
      · have d0 : (((k : Nat) : Int) == 0) = true := by rw [k0]; rfl
        have hp1 : 1 ≤ p.size := by omega
        have hs : skipT p k = true := by unfold skipT; rw [decide_eq_true k0]; rfl
        have q1 : wordV p m0 (k + 1) = wordV p m0 k := by rw [wordV, if_pos hs]
        have q2 : wordT p (k + 1) = wordT p k := by rw [wordT, if_pos hs]
        have q3 : wordR l p (k + 1) = relIx l (p.extract 0 1) := by rw [wordR, if_pos k0]
        simp -implicitDefEqProofs (maxSteps := 2000000) only [go_sem, c2, eg, c3, d0, hp1]
        repeat (refine And.intro (by first | omega | decide) ?_)
        simp -implicitDefEqProofs (maxSteps := 2000000) only [go_sem]
        refine call_of (specRelationIndex_sat l (p.extract 0 1) hl) (by simp -implicitDefEqProofs (maxSteps := 2000000) only [go_sem]) (by kernel_rfl) (by simp -implicitDefEqProofs (maxSteps := 2000000) only [go_sem]) ?_
        simp -implicitDefEqProofs (maxSteps := 2000000) only [go_sem]
        rw [wk]
        exact ⟨k + 1, c3, by omega, (le_st' _ _ [⟨960, some _, false, 1, _⟩, ⟨961, some _, false, 1, _⟩, ⟨962, some _, false, 2, _⟩, ⟨963, some _, false, 1, _⟩] [] _ (by simp -implicitDefEqProofs (maxSteps := 2000000) only [go_sem, q1, q2, q3] <;> and_intros <;> rfl) (by simp -implicitDefEqProofs (maxSteps := 2000000) only [go_sem, q1, q2, q3] <;> and_intros <;> rfl) (by simp -implicitDefEqProofs (maxSteps := 2000000) only [go_sem, q1, q2, q3] <;> and_intros <;> rfl) (by rfl))⟩
      have d0 : (((k : Nat) : Int) == 0) = false := by rw [beq_eq_false_iff_ne]; omega
      have q3 : wordR l p (k + 1) = wordR l p k := by rw [wordR, if_neg k0]
      by_cases k1 : byA p k = 124
      · have d1 : (((byA p k : Nat) : Int) == 124) = true := by rw [k1]; rfl
        have hs : skipT p k = true := by unfold skipT; rw [decide_eq_true k1, Bool.or_true]
        have q1 : wordV p m0 (k + 1) = wordV p m0 k := by rw [wordV, if_pos hs]
        have q2 : wordT p (k + 1) = wordT p k := by rw [wordT, if_pos hs]
        simp -implicitDefEqProofs (maxSteps := 2000000) only [go_sem, c2, eg, c3, d0, d1]
        rw [wk]
        exact ⟨k + 1, c3, by omega, (le_st' _ _ [⟨960, some _, false, 1, _⟩, ⟨961, some _, false, 1, _⟩, ⟨962, some _, false, 2, _⟩, ⟨963, some _, false, 1, _⟩] [] _ (by simp -implicitDefEqProofs (maxSteps := 2000000) only [go_sem, q1, q2, q3] <;> and_intros <;> rfl) (by simp -implicitDefEqProofs (maxSteps := 2000000) only [go_sem, q1, q2, q3] <;> and_intros <;> rfl) (by simp -implicitDefEqProofs (maxSteps := 2000000) only [go_sem, q1, q2, q3] <;> and_intros <;> rfl) (by rfl))⟩
      have d1 : (((byA p k : Nat) : Int) == 124) = false := by rw [beq_eq_false_iff_ne]; omega
      have hs : skipT p k = false := by unfold skipT; rw [decide_eq_false k0, decide_eq_false k1]; rfl
      have q2 : wordT p (k + 1) = wordT p k ++ [t1 p k] := by rw [wordT, hs, if_neg (by simp)]
      have q1 : wordV p m0 (k + 1) = if t1 p k + 1 > wordV p m0 k then t1 p k + 1 else wordV p m0 k := by rw [wordV, hs, if_neg (by simp)]
      have htl := pT_lo (p.extract k (k + 1))
      have wt : IntKind.i64.wrap (t1 p k + 1) = t1 p k + 1 := by unfold t1; exact IntWalk.i64_in _ (by omega)
      have etk : List.take (wordT p k).length (wordT p k) = wordT p k := List.take_length
      simp -implicitDefEqProofs (maxSteps := 2000000) only [go_sem, c2, eg, c3, d0, d1, wk, c4, Nat.le_add_right]
      refine call_of (specParseTerm_sat (p.extract k (k + 1))) (by simp -implicitDefEqProofs (maxSteps := 2000000) only [go_sem]) (by kernel_rfl) (by simp -implicitDefEqProofs (maxSteps := 2000000) only [go_sem]) ?_
      simp -implicitDefEqProofs (maxSteps := 2000000) only [go_sem]
      rw [show (pT (p.extract k (k + 1))).1 = t1 p k from rfl, wt]
      repeat (refine And.intro (by omega) ?_)
      rw [wk]
      refine ⟨k + 1, c3, by omega, ?_⟩
      exact (le_st' _ _ [⟨960, some _, false, 1, _⟩, ⟨961, some _, false, 1, _⟩, ⟨962, some _, false, 2, _⟩, ⟨963, some _, false, 1, _⟩] [] _ (by simp -implicitDefEqProofs (maxSteps := 2000000) only [go_sem, q1, q2, q3, repP, List.set_cons_zero, List.length_append, List.length_singleton] <;> and_intros <;> rfl) (by simp -implicitDefEqProofs (maxSteps := 2000000) only [go_sem, q1, q2, q3, repP, List.set_cons_zero, List.length_append, List.length_singleton] <;> and_intros <;> rfl) (by simp -implicitDefEqProofs (maxSteps := 2000000) only [go_sem, q1, q2, q3, repP, List.set_cons_zero, List.length_append, List.length_singleton] <;> and_intros <;> rfl) (by rfl))
    · obtain rfl : k = p.size := by omega
      simp -implicitDefEqProofs (maxSteps := 2000000) only [go_sem, c2, eg, c3]
      repeat (refine And.intro (by omega) ?_)
      rw [wi]
      refine ⟨i + 1, c2, by omega, ?_⟩
      exact (le_st' _ _ [⟨960, some _, false, 1, _⟩, ⟨961, some _, false, 1, _⟩, ⟨962, some _, false, 2, _⟩] [] _ (by simp -implicitDefEqProofs (maxSteps := 2000000) only [go_sem, hstA, hstV, hAi, repP, List.set_cons_zero] <;> and_intros <;> rfl) (by simp -implicitDefEqProofs (maxSteps := 2000000) only [go_sem, hstA, hstV, hAi, repP, List.set_cons_zero] <;> and_intros <;> rfl) (by simp -implicitDefEqProofs (maxSteps := 2000000) only [go_sem, hstA, hstV, hAi, repP, List.set_cons_zero] <;> and_intros <;> rfl) (by rfl))
  obtain rfl : i = ps.length := by omega
  have rtk : List.take ps.length (allA l ps ps.length) = allA l ps ps.length := List.take_of_length_le (by omega)
  have ftk : List.take w0.size (freeT w0 w0.size) = freeT w0 w0.size := List.take_of_length_le (by omega)
  rcases g : decide (quText l ⟨allV ps ps.length, allA l ps ps.length, freeT w0 w0.size⟩ = s)
  · simp -implicitDefEqProofs (maxSteps := 2000000) only [go_sem, c2, rtk, ftk]
    refine call_of (specFormatQuery_sat l ⟨allV ps ps.length, allA l ps ps.length, freeT w0 w0.size⟩ hl hq) (by simp -implicitDefEqProofs (maxSteps := 2000000) only [go_sem, g, rtk, ftk]) (callOk_still (by kernel_rfl) (by simp only [List.all_cons, List.all_nil, LV.still, LV.leaves, Leaf.still, ints_still, ris_still, eds_still, rels_still, iss_still, ems_still, Bool.and_self, Bool.and_true])) (by simp -implicitDefEqProofs (maxSteps := 2000000) only [go_sem, g, rtk, ftk]) ?_
    simp -implicitDefEqProofs (maxSteps := 2000000) only [go_sem, g, rtk, ftk]
    and_intros <;> rfl
  · simp -implicitDefEqProofs (maxSteps := 2000000) only [go_sem, c2, rtk, ftk]
    refine call_of (specFormatQuery_sat l ⟨allV ps ps.length, allA l ps ps.length, freeT w0 w0.size⟩ hl hq) (by simp -implicitDefEqProofs (maxSteps := 2000000) only [go_sem, g, rtk, ftk]) (callOk_still (by kernel_rfl) (by simp only [List.all_cons, List.all_nil, LV.still, LV.leaves, Leaf.still, ints_still, ris_still, eds_still, rels_still, iss_still, ems_still, Bool.and_self, Bool.and_true])) (by simp -implicitDefEqProofs (maxSteps := 2000000) only [go_sem, g, rtk, ftk]) ?_
    simp -implicitDefEqProofs (maxSteps := 2000000) only [go_sem, g, rtk, ftk]
    exact ⟨⟨by omega, by omega⟩, rfl⟩
end Go.Proofs.Ytedciihjgbkjgaa.A


/- QUERIES DRAWN: more walks. Conditions: none. -/
namespace Go.Proofs.Ytedciihjgbkjgaa.A
open Go
set_option linter.unusedSimpArgs false
set_option linter.unusedVariables false
set_option maxRecDepth 100000

def qryA (c : Cur) : List RI × Cur := atsD (byC (byC (byC c))) (1 + beV (byC c) 4) (beV (byC (byC c)) 4) (1 + beV c 3)
set_option maxHeartbeats 4000000 in
theorem l11Query_sat (c : Cur) (hc : c.ok) : Sat Try.prog 92 [lCur c] [oQu (tightQ ⟨0, (qryA c).1, []⟩)] [lCur (qryA c).2] := by
  refine sat_of_body mixed Try.func92 rfl (by kernel_rfl) (by kernel_rfl) (rs := [.cell 2 28]) rfl rfl rfl ?_
  have k1 := byC_ok hc
  have k2 := byC_ok k1
  have k3 := byC_ok k2
  have s0 := l1Below_sat c 3 hc (by decide) (by decide)
  have s1 := l1Below_sat (byC c) 4 k1 (by decide) (by decide)
  have s2 := l1Below_sat (byC (byC c)) 4 k2 (by decide) (by decide)
  have b0 := beV_lt c (n := 3) (by decide)
  have b1 := beV_lt (byC c) (n := 4) (by decide)
  have b2 := beV_lt (byC (byC c)) (n := 4) (by decide)
  have hq : qryA c = atsD (byC (byC (byC c))) (1 + beV (byC c) 4) (beV (byC (byC c)) 4) (1 + beV c 3) := rfl
  rw [hq]
  clear hq
  generalize beV c 3 = n0 at s0 b0 ⊢
  generalize beV (byC c) 4 = v0 at s1 b1 ⊢
  generalize beV (byC (byC c)) 4 = f at s2 b2 ⊢
  generalize byC c = c1 at *
  generalize byC c1 = c2 at *
  generalize byC c2 = c3 at *
  obtain ⟨n, hn⟩ : ∃ n, n = 1 + n0 := ⟨_, rfl⟩
  obtain ⟨v, hv⟩ : ∃ v, v = 1 + v0 := ⟨_, rfl⟩
  have w1 : IntKind.i64.wrap (1 + ((n0 : Nat) : Int)) = ((n : Nat) : Int) := by rw [IntWalk.i64_in _ (by omega)]; omega
  have w2 : IntKind.i64.wrap (1 + ((v0 : Nat) : Int)) = ((v : Nat) : Int) := by rw [IntWalk.i64_in _ (by omega)]; omega
  rw [← hn, ← hv]
  have hA := atsD_len c3 v f
  have hAk := atsD_ok k3 v f
  simp -implicitDefEqProofs (maxSteps := 2000000) only [go_sem]
  refine call_of (s0) (by simp -implicitDefEqProofs (maxSteps := 2000000) only [go_sem, w1] <;> and_intros <;> rfl) (by kernel_rfl) (by simp -implicitDefEqProofs (maxSteps := 2000000) only [go_sem, w1]) ?_
  simp -implicitDefEqProofs (maxSteps := 2000000) only [go_sem, w1]
  refine call_of (s1) (by simp -implicitDefEqProofs (maxSteps := 2000000) only [go_sem, w2] <;> and_intros <;> rfl) (by kernel_rfl) (by simp -implicitDefEqProofs (maxSteps := 2000000) only [go_sem, w2]) ?_
  simp -implicitDefEqProofs (maxSteps := 2000000) only [go_sem, w2]
  refine call_of (s2) (by simp -implicitDefEqProofs (maxSteps := 2000000) only [go_sem] <;> and_intros <;> rfl) (by kernel_rfl) (by simp -implicitDefEqProofs (maxSteps := 2000000) only [go_sem]) ?_
  simp -implicitDefEqProofs (maxSteps := 2000000) only [go_sem]
  refine awp_loop Nat (fun i => mkSt [(0, .one (.vad 0 0)), (2, .one (.vad 1000 0)), (3, .one (.vad 1128 0)), (4, .sc (.int .i64 n)), (5, .sc (.int .i64 v)), (6, .sc (.int .i64 f)), (7, .sc (.int .i64 i))] [(0, sCur (atsD c3 v f i).2), (1000, zQ2), (1128, [.sc (.int .i64 0), .ref 960 2 0 i, .sc (.slice none 0 0)])] [(960, (2, ris 999 (atsD c3 v f i).1))] 8000)
    (fun i => i ≤ n) (fun i => n - i) 0 (by omega) (le_st _ _ [⟨960, none, false, 2, _⟩] [] _ rfl (by simp -implicitDefEqProofs (maxSteps := 2000000) only [go_sem, atsD, ris_nil] <;> rfl) (by simp -implicitDefEqProofs (maxSteps := 2000000) only [go_sem, atsD, ris_nil] <;> rfl) (by simp -implicitDefEqProofs (maxSteps := 2000000) only [go_sem, atsD, ris_nil] <;> rfl)) ?_
  rintro i h1
  have hAi := hA i
  have hki := hAk i
  by_cases c1 : i < n
  · have wi : IntKind.i64.wrap ((i : Int) + 1) = ((i + 1 : Nat) : Int) := i64_succ (by omega)
    have hst : atsD c3 v f (i + 1) = ((atsD c3 v f i).1 ++ [⟨(((f + i) % 4 : Nat) : Int), (tmsD (atsD c3 v f i).2 v (2 + ((f + i) % 4) / 3)).1⟩], (tmsD (atsD c3 v f i).2 v (2 + ((f + i) % 4) / 3)).2) := rfl
    have a1 : IntKind.i64.wrap (((f : Nat) : Int) + ((i : Nat) : Int)) = ((f + i : Nat) : Int) := by rw [IntWalk.i64_in _ (by omega)]; omega
    have a2 : Int.tmod ((f + i : Nat) : Int) 4 = (((f + i) % 4 : Nat) : Int) := by rw [Int.tmod_eq_emod_of_nonneg (by omega)]; omega
    have hr4 : (f + i) % 4 < 4 := Nat.mod_lt _ (by decide)
    generalize (f + i) % 4 = r at hst a2 hr4
    have a3 : Int.tdiv ((r : Nat) : Int) 3 = ((r / 3 : Nat) : Int) := by rw [Int.tdiv_eq_ediv_of_nonneg (by omega)]; omega
    have a4 : IntKind.i64.wrap (2 + ((r / 3 : Nat) : Int)) = ((2 + r / 3 : Nat) : Int) := by rw [IntWalk.i64_in _ (by omega)]; omega
    have a5 : IntKind.i64.wrap ((r / 3 : Nat) : Int) = ((r / 3 : Nat) : Int) := IntWalk.i64_in _ (by omega)
    obtain ⟨m, hm⟩ : ∃ m, m = 2 + r / 3 := ⟨_, rfl⟩
    rw [← hm] at hst a4
    generalize atsD c3 v f i = s at hst hAi hki ⊢
    have hT := tmsD_len s.2 v
    have hTk := tmsD_ok hki v
    simp -implicitDefEqProofs (maxSteps := 2000000) only [go_sem, c1, a1, a2, a3, a5, a4]
    repeat (refine ⟨by decide, ?_⟩)
    refine awp_loop Nat (fun j => mkSt [(0, .one (.vad 0 0)), (2, .one (.vad 1000 0)), (3, .one (.vad 1128 0)), (4, .sc (.int .i64 n)), (5, .sc (.int .i64 v)), (6, .sc (.int .i64 f)), (7, .sc (.int .i64 i)), (9, .one (.vad 8640 0)), (10, .sc (.int .i64 ((m : Int) - (j : Int))))] [(0, sCur (tmsD s.2 v j).2), (1000, zQ2), (1128, [.sc (.int .i64 0), .ref 960 2 0 i, .sc (.slice none 0 0)]), (8640, [.sc (.int .i64 r), .ref 961 1 0 j])] [(960, (2, ris 999 s.1)), (961, (1, ints (tmsD s.2 v j).1))] 16000)
      (fun j => j ≤ m) (fun j => m - j) 0 (by omega) (le_st' _ _ [⟨960, some _, false, 2, _⟩, ⟨961, none, false, 1, _⟩] [] _ (by simp -implicitDefEqProofs (maxSteps := 2000000) only [go_sem, tmsD, ints_nil, Int.sub_zero, Int.natCast_zero] <;> and_intros <;> rfl) (by simp -implicitDefEqProofs (maxSteps := 2000000) only [go_sem, tmsD, ints_nil, Int.sub_zero, Int.natCast_zero] <;> and_intros <;> rfl) (by simp -implicitDefEqProofs (maxSteps := 2000000) only [go_sem, tmsD, ints_nil, Int.sub_zero, Int.natCast_zero] <;> and_intros <;> rfl) (by rfl)) ?_
    rintro j h2
    have hTj := hT j
    have hTkj := hTk j
    have htk : List.take j (tmsD s.2 v j).1 = (tmsD s.2 v j).1 := List.take_of_length_le (by omega)
    by_cases c2 : j < m
    · have d1 : decide ((m : Int) - (j : Int) > 0) = true := decide_eq_true (by omega)
      have wj : IntKind.i64.wrap ((m : Int) - (j : Int) - 1) = (m : Int) - ((j + 1 : Nat) : Int) := by rw [IntWalk.i64_in _ (by omega)]; omega
      have hs1 : tmsD s.2 v (j + 1) = ((tmsD s.2 v j).1 ++ [tmD (tmsD s.2 v j).2 v], byC (byC (tmsD s.2 v j).2)) := rfl
      generalize tmsD s.2 v j = u at hTj hTkj htk hs1 ⊢
      rcases d2 : onV u.2 12
      · have e2 : tmD u.2 v = ((beV (byC u.2) v : Nat) : Int) := by unfold tmD; rw [d2]; rfl
        simp -implicitDefEqProofs (maxSteps := 2000000) only [go_sem, d1, htk]
        refine call_of (l1Once_sat u.2 12 hTkj (by decide) (by decide)) (by simp -implicitDefEqProofs (maxSteps := 2000000) only [go_sem, d2, htk] <;> and_intros <;> rfl) (by kernel_rfl) (by simp -implicitDefEqProofs (maxSteps := 2000000) only [go_sem, d2, htk]) ?_
        simp -implicitDefEqProofs (maxSteps := 2000000) only [go_sem, d2, htk]
        refine call_of (l1Below_sat (byC u.2) v (byC_ok hTkj) (by omega) (by omega)) (by simp -implicitDefEqProofs (maxSteps := 2000000) only [go_sem, hTj, htk]) (by kernel_rfl) (by simp -implicitDefEqProofs (maxSteps := 2000000) only [go_sem, hTj, htk]) ?_
        simp -implicitDefEqProofs (maxSteps := 2000000) only [go_sem, hTj, htk]
        repeat (refine And.intro (by omega) ?_)
        first | (with_reducible refine tr_and ?_ ?_; focus kernel_rfl) | (with_reducible refine tr_only ?_; kernel_rfl) | skip
        rw [wj]
        refine ⟨j + 1, c2, by omega, ?_⟩
        exact (le_st' _ _ [⟨960, some _, false, 2, _⟩, ⟨961, some _, false, 1, _⟩] [] _ (by simp -implicitDefEqProofs (maxSteps := 2000000) only [go_sem, hs1, e2, hTj, htk] <;> and_intros <;> rfl) (by simp -implicitDefEqProofs (maxSteps := 2000000) only [go_sem, hs1, e2, hTj, htk] <;> and_intros <;> rfl) (by simp -implicitDefEqProofs (maxSteps := 2000000) only [go_sem, hs1, e2, hTj, htk] <;> and_intros <;> rfl) (by rfl))
      · have e2 : tmD u.2 v = -1 - ((beV (byC u.2) 2 : Nat) : Int) := by unfold tmD; rw [d2]; rfl
        have b3 := beV_lt (byC u.2) (n := 2) (by decide)
        have w3 : IntKind.i64.wrap (-1 - ((beV (byC u.2) 2 : Nat) : Int)) = -1 - ((beV (byC u.2) 2 : Nat) : Int) := IntWalk.i64_in _ (by omega)
        simp -implicitDefEqProofs (maxSteps := 2000000) only [go_sem, d1, htk]
        refine call_of (l1Once_sat u.2 12 hTkj (by decide) (by decide)) (by simp -implicitDefEqProofs (maxSteps := 2000000) only [go_sem, d2, htk] <;> and_intros <;> rfl) (by kernel_rfl) (by simp -implicitDefEqProofs (maxSteps := 2000000) only [go_sem, d2, htk]) ?_
        simp -implicitDefEqProofs (maxSteps := 2000000) only [go_sem, d2, htk]
        refine call_of (l1Below_sat (byC u.2) 2 (byC_ok hTkj) (by decide) (by decide)) (by simp -implicitDefEqProofs (maxSteps := 2000000) only [go_sem, hTj, htk, w3] <;> and_intros <;> rfl) (by kernel_rfl) (by simp -implicitDefEqProofs (maxSteps := 2000000) only [go_sem, hTj, htk, w3]) ?_
        simp -implicitDefEqProofs (maxSteps := 2000000) only [go_sem, hTj, htk, w3]
        repeat (refine And.intro (by omega) ?_)
        first | (with_reducible refine tr_and ?_ ?_; focus kernel_rfl) | (with_reducible refine tr_only ?_; kernel_rfl) | skip
        rw [wj]
        refine ⟨j + 1, c2, by omega, ?_⟩
        exact (le_st' _ _ [⟨960, some _, false, 2, _⟩, ⟨961, some _, false, 1, _⟩] [] _ (by simp -implicitDefEqProofs (maxSteps := 2000000) only [go_sem, hs1, e2, hTj, htk] <;> and_intros <;> rfl) (by simp -implicitDefEqProofs (maxSteps := 2000000) only [go_sem, hs1, e2, hTj, htk] <;> and_intros <;> rfl) (by simp -implicitDefEqProofs (maxSteps := 2000000) only [go_sem, hs1, e2, hTj, htk] <;> and_intros <;> rfl) (by rfl))
    · obtain rfl : j = m := by omega
      have d1 : decide ((j : Int) - (j : Int) > 0) = false := decide_eq_false (by omega)
      simp -implicitDefEqProofs (maxSteps := 2000000) only [go_sem, d1, htk]
      repeat (refine And.intro (by omega) ?_)
      rw [wi]
      refine ⟨i + 1, c1, by omega, ?_⟩
      rw [hst]
      exact (le_st' _ _ [⟨960, some _, false, 2, _⟩] [] _ (by simp -implicitDefEqProofs (maxSteps := 2000000) only [go_sem, hTj, hAi, htk, repD1, List.set_cons_zero] <;> and_intros <;> rfl) (by simp -implicitDefEqProofs (maxSteps := 2000000) only [go_sem, hTj, hAi, htk, repD1, List.set_cons_zero] <;> and_intros <;> rfl) (by simp -implicitDefEqProofs (maxSteps := 2000000) only [go_sem, hTj, hAi, htk, repD1, List.set_cons_zero] <;> and_intros <;> rfl) (by rfl))
  · obtain rfl : i = n := by omega
    have hAm := fun x hx => atsD_mem (c := c3) (v := v) (f := f) (k := i) x hx
    have htk : List.take i (ris 999 (atsD c3 v f i).1) = ris 999 (atsD c3 v f i).1 := List.take_of_length_le (by rw [ris_length]; omega)
    simp -implicitDefEqProofs (maxSteps := 2000000) only [go_sem, c1, htk]
    refine call_of (l11Tight_sat ⟨0, (atsD c3 v f i).1, []⟩ ⟨⟨by simp only; omega, fun x hx => by have := hAm x hx; unfold RI.ok; omega⟩, by simp⟩ (by simp only; omega) (fun x hx => by have := hAm x hx; omega)) (by simp -implicitDefEqProofs (maxSteps := 2000000) only [go_sem, htk] <;> and_intros <;> rfl) (callOk_still (by kernel_rfl) (by simp only [List.all_cons, List.all_nil, LV.still, LV.leaves, Leaf.still, ints_still, ris_still, eds_still, rels_still, iss_still, ems_still, Bool.and_self, Bool.and_true])) (by simp -implicitDefEqProofs (maxSteps := 2000000) only [go_sem, htk]) ?_
    simp -implicitDefEqProofs (maxSteps := 2000000) only [go_sem, htk]
    and_intros <;> rfl

/-! #### known queries -/
def knL : List ByteArray := [⟨#[63, 114, 120, 124, 121, 32, 115, 121, 124, 122]⟩, ⟨#[63, 114, 120, 124, 121, 32, 115, 121, 124, 120]⟩, ⟨#[63, 114, 120, 124, 121, 32, 115, 122, 124, 121]⟩, ⟨#[63, 114, 120, 124, 121, 32, 115, 120, 124, 122]⟩, ⟨#[63, 114, 120, 124, 49]⟩, ⟨#[63, 114, 120, 124, 120]⟩, ⟨#[63, 114, 120, 124, 121, 32, 115, 121, 124, 49]⟩, ⟨#[63, 114, 120, 124, 121, 32, 115, 121, 124, 122, 32, 114]⟩, ⟨#[63, 114, 120, 124, 121]⟩, ⟨#[63, 114, 120, 124, 122, 32, 115, 121, 124, 122]⟩]
def kn0 : ByteArray := ⟨#[63, 114, 120, 124, 121, 32, 115, 121, 124, 122]⟩
theorem knL_ok : ∀ i : Fin 10, (knL.getD i.val ⟨#[]⟩).size ≤ 100 ∧ 0 < (knL.getD i.val ⟨#[]⟩).size := by decide
theorem kn0_ok : ∀ (i : Fin 4) (j : Fin 2), okQ (sigR (sigL.getD i.val 0) (1 + ((j.val : Nat) : Int))) kn0 = true := by decide +kernel
/-- A query as it is drawn. -/
structure QuD (m : Nat) (q : Qu) : Prop where
  vc : -1 ≤ q.vc ∧ q.vc ≤ m
  n : 1 ≤ q.atoms.length ∧ q.atoms.length ≤ m
  first : 1 ≤ (q.atoms.getD 0 default).l.length
  all : ∀ x ∈ q.atoms, x.l.length ≤ m
  free : q.free.length ≤ m
theorem QuD.ok {m : Nat} {q : Qu} (h : QuD m q) (hm : m ≤ 1000) : q.ok := by
  have h1 := h.n
  have h2 := h.free
  exact ⟨⟨by omega, fun x hx => by have := h.all x hx; unfold RI.ok; omega⟩, by omega⟩
theorem okQ_D {l : List Rel} {s : ByteArray} (h : okQ l s = true) (hs : s.size ≤ 100) (h0 : 0 < s.size) : QuD 100 (parQ l s) := by
  have e : parQ l s = readQ l s := by rw [parQ, if_pos h]
  have hr := readQ_ok (l := l) (show s.size ≤ 1048575 by omega)
  unfold okQ at h
  rw [Bool.and_eq_true, decide_eq_true_iff, decide_eq_true_iff] at h
  have g : goodQu l (readQ l s) = true := by
    rcases g : goodQu l (readQ l s)
    · have := h.2
      rw [quText, g, if_neg (by simp)] at this
      rw [← this] at h0
      exact absurd h0 (by decide)
    · rfl
  rw [e]
  obtain ⟨p1, p2, p3⟩ := goodQu_parts g
  have len : ∀ k, k < (readQ l s).atoms.length → 1 ≤ ((readQ l s).atoms.getD k default).l.length ∧ ((readQ l s).atoms.getD k default).l.length ≤ 3 := by
    intro k hk
    have h3 := goodQu_at g hk
    unfold atomOk relAt at h3
    simp only [Bool.and_eq_true, beq_iff_eq] at h3
    have h4 := inB_of h3.1.1
    have gr : goodRels l = true := by unfold goodQu at g; rw [Bool.and_eq_true] at g; exact g.1
    have h5 := (rel_of gr (show ((readQ l s).atoms.getD k default).r.toNat < l.length by omega)).1
    have h6 := h3.1.2
    omega
  have m0 : ((splS s 63).getD 0 ⟨#[]⟩).size ≤ s.size := splS_mem s 63 _ (mem_getD (⟨#[]⟩ : ByteArray) (by omega))
  refine ⟨by omega, by omega, (len 0 (by omega)).1, fun x hx => ?_, ?_⟩
  · obtain ⟨k, hk, rfl⟩ := List.mem_iff_getElem.mp hx
    have := (len k hk).2
    rw [List.getD_eq_getElem?_getD, List.getElem?_eq_getElem hk] at this
    simp only [Option.getD_some] at this
    omega
  · show (freeT _ _).length ≤ 100
    rw [freeT_len]; omega
theorem sigs_form (c : Cur) : ∃ (i : Fin 4) (j : Fin 2), sigs c = sigR (sigL.getD i.val 0) (1 + ((j.val : Nat) : Int)) :=
  ⟨⟨beV c 4, beV_lt c (by decide)⟩, ⟨beV (byC c) 2, beV_lt (byC c) (by decide)⟩, rfl⟩
theorem l11Known_ex (c0 c : Cur) (hc : c.ok) : ∃ q : Qu, QuD 100 q ∧ Sat Try.prog 93 [lCur c, lRels (sigs c0)] [oQu q] [lCur (byC c), g1] := by
  obtain ⟨hk1, hk2⟩ := knL_ok ⟨beV c 10, beV_lt c (by decide)⟩
  simp only at hk1 hk2
  have s0 := l1Pick_own c knL hc (by decide) (by decide)
  have el : knL.length = 10 := rfl
  rw [el] at s0
  have hl := sigs_len c0
  obtain ⟨fi, fj, hf⟩ := sigs_form c0
  have h0 := kn0_ok fi fj
  rw [← hf] at h0
  have eL : (((((((((((List.replicate 10 ByteArray.empty).set 0 ⟨#[63, 114, 120, 124, 121, 32, 115, 121, 124, 122]⟩).set 1 ⟨#[63, 114, 120, 124, 121, 32, 115, 121, 124, 120]⟩).set 2 ⟨#[63, 114, 120, 124, 121, 32, 115, 122, 124, 121]⟩).set 3 ⟨#[63, 114, 120, 124, 121, 32, 115, 120, 124, 122]⟩).set 4 ⟨#[63, 114, 120, 124, 49]⟩).set 5 ⟨#[63, 114, 120, 124, 120]⟩).set 6 ⟨#[63, 114, 120, 124, 121, 32, 115, 121, 124, 49]⟩).set 7 ⟨#[63, 114, 120, 124, 121, 32, 115, 121, 124, 122, 32, 114]⟩).set 8 ⟨#[63, 114, 120, 124, 121]⟩).set 9 ⟨#[63, 114, 120, 124, 122, 32, 115, 121, 124, 122]⟩) = knL := rfl
  generalize sigs c0 = l at hl h0 ⊢
  generalize knL.getD (beV c 10) ⟨#[]⟩ = s at hk1 hk2 s0
  rcases g : okQ l s
  · refine ⟨parQ l kn0, okQ_D h0 (by decide) (by decide), ?_⟩
    refine sat_of_body mixed Try.func93 rfl (by kernel_rfl) (by kernel_rfl) (rs := [.cell 4 28]) rfl rfl rfl ?_
    simp -implicitDefEqProofs (maxSteps := 2000000) only [go_sem]
    refine call_of (s0) (by simp -implicitDefEqProofs (maxSteps := 2000000) only [go_sem, eL, el]) (by kernel_rfl) (by simp -implicitDefEqProofs (maxSteps := 2000000) only [go_sem, eL, el]) ?_
    simp -implicitDefEqProofs (maxSteps := 2000000) only [go_sem, eL, el]
    refine call_of (specParseQuery_sat l s (by omega) (by omega)) (by simp -implicitDefEqProofs (maxSteps := 2000000) only [go_sem, g]) (by kernel_rfl) (by simp -implicitDefEqProofs (maxSteps := 2000000) only [go_sem, g]) ?_
    simp -implicitDefEqProofs (maxSteps := 2000000) only [go_sem, g]
    refine call_of (specParseQuery_sat l kn0 (by omega) (by decide)) (by simp -implicitDefEqProofs (maxSteps := 2000000) only [go_sem] <;> and_intros <;> rfl) (by kernel_rfl) (by simp -implicitDefEqProofs (maxSteps := 2000000) only [go_sem]) ?_
    simp -implicitDefEqProofs (maxSteps := 2000000) only [go_sem]
    and_intros <;> rfl
  · refine ⟨parQ l s, okQ_D g hk1 hk2, ?_⟩
    refine sat_of_body mixed Try.func93 rfl (by kernel_rfl) (by kernel_rfl) (rs := [.cell 4 28]) rfl rfl rfl ?_
    simp -implicitDefEqProofs (maxSteps := 2000000) only [go_sem]
    refine call_of (s0) (by simp -implicitDefEqProofs (maxSteps := 2000000) only [go_sem, eL, el]) (by kernel_rfl) (by simp -implicitDefEqProofs (maxSteps := 2000000) only [go_sem, eL, el]) ?_
    simp -implicitDefEqProofs (maxSteps := 2000000) only [go_sem, eL, el]
    refine call_of (specParseQuery_sat l s (by omega) (by omega)) (by simp -implicitDefEqProofs (maxSteps := 2000000) only [go_sem, g]) (by kernel_rfl) (by simp -implicitDefEqProofs (maxSteps := 2000000) only [go_sem, g]) ?_
    simp -implicitDefEqProofs (maxSteps := 2000000) only [go_sem, g]
    and_intros <;> rfl
end Go.Proofs.Ytedciihjgbkjgaa.A


/- QUERIES DRAWN, with free variables. Conditions: none. -/
namespace Go.Proofs.Ytedciihjgbkjgaa.A
open Go
set_option linter.unusedSimpArgs false
set_option linter.unusedVariables false
set_option maxRecDepth 100000

def frD (c : Cur) : Nat → List Int × Cur
  | 0 => ([], c)
  | k + 1 => (if onV (frD c k).2 3 then (frD c k).1 ++ [(k : Int)] else (frD c k).1, byC (frD c k).2)
theorem frD_ok {c : Cur} (h : c.ok) : ∀ k, (frD c k).2.ok ∧ (frD c k).1.length ≤ k
  | 0 => ⟨h, Nat.le_refl _⟩
  | k + 1 => by
    obtain ⟨h1, h2⟩ := frD_ok h k
    refine ⟨byC_ok h1, ?_⟩
    show (if onV (frD c k).2 3 then (frD c k).1 ++ [(k : Int)] else (frD c k).1).length ≤ k + 1
    split
    · rw [List.length_append, List.length_singleton]; omega
    · omega
theorem QuD.more {m n : Nat} {q : Qu} (h : QuD m q) (hm : m ≤ n) : QuD n q := by
  have h1 := h.vc
  have h2 := h.n
  have h3 := h.free
  exact ⟨by omega, by omega, h.first, fun x hx => by have := h.all x hx; omega, by omega⟩
theorem tight_D (c : Cur) (hc : c.ok) : QuD 100 (tightQ ⟨0, (qryA c).1, []⟩) ∧ (qryA c).2.ok := by
  have b := beV_lt c (n := 3) (by decide)
  have hl : (qryA c).1.length = 1 + beV c 3 := atsD_len _ _ _ _
  have hm : ∀ x ∈ (qryA c).1, 2 ≤ x.l.length ∧ x.l.length ≤ 3 := fun x hx => atsD_mem x hx
  refine ⟨?_, atsD_ok (byC_ok (byC_ok (byC_ok hc))) _ _ _⟩
  generalize (qryA c).1 = X at hl hm
  have hM : ∀ i : Nat, (X.getD i default).l.length ≤ 3 := getD_le (fun x hx => (hm x hx).2)
  obtain ⟨⟨t1, t2⟩, t3⟩ := tgAll_ok hM X.length
  have t4 : X.length * 3 ≤ 9 := by omega
  unfold tightQ
  refine ⟨by simp only; omega, by simp only; omega, ?_, fun x hx => ?_, by simp⟩
  · simp only
    rw [t2 0]
    have := (hm _ (mem_getD default (show 0 < X.length by omega))).1
    omega
  · obtain ⟨k, hk, rfl⟩ := List.mem_iff_getElem.mp hx
    have := t2 k
    rw [List.getD_eq_getElem?_getD, List.getElem?_eq_getElem hk, Option.getD_some] at this
    rw [this]
    have := hM k
    omega
set_option maxHeartbeats 8000000 in
theorem l11Draw_ex (c0 c : Cur) (hc : c.ok) : ∃ (q : Qu) (c' : Cur), QuD 200 q ∧ c'.ok ∧ Sat Try.prog 85 [lCur c, lRels (sigs c0)] [oQu q] [lCur c', g1] := by
  have s0 := l11Query_sat c hc
  obtain ⟨hq0, k1⟩ := tight_D c hc
  generalize tightQ ⟨0, (qryA c).1, []⟩ = q0 at s0 hq0
  generalize (qryA c).2 = c1 at s0 k1
  have kb := byC_ok k1
  rcases d3 : onV c1 3
  · obtain ⟨c2, e2⟩ : ∃ c2, c2 = byC c1 := ⟨_, rfl⟩
    obtain ⟨q, eq⟩ : ∃ q, q = q0 := ⟨_, rfl⟩
    have k2 : c2.ok := by rw [e2]; exact kb
    have hq : QuD 100 q := by rw [eq]; exact hq0
    subst e2 eq
    rcases d4 : onV (byC c1) 4
    · have d4 : onV (byC c1) 4 = false := d4
      refine ⟨q, byC (byC c1), hq.more (by decide), byC_ok k2, ?_⟩
      refine sat_of_body mixed Try.func85 rfl (by kernel_rfl) (by kernel_rfl) (rs := [.cell 4 28]) rfl rfl rfl ?_
      simp -implicitDefEqProofs (maxSteps := 2000000) only [go_sem]
      refine call_of (s0) (by simp -implicitDefEqProofs (maxSteps := 2000000) only [go_sem]) (by kernel_rfl) (by simp -implicitDefEqProofs (maxSteps := 2000000) only [go_sem]) ?_
      simp -implicitDefEqProofs (maxSteps := 2000000) only [go_sem]
      refine call_of (l1Once_sat c1 3 k1 (by decide) (by decide)) (by simp -implicitDefEqProofs (maxSteps := 2000000) only [go_sem, d3] <;> and_intros <;> rfl) (by kernel_rfl) (by simp -implicitDefEqProofs (maxSteps := 2000000) only [go_sem, d3]) ?_
      simp -implicitDefEqProofs (maxSteps := 2000000) only [go_sem, d3]
      refine call_of (l1Once_sat (byC c1) 4 k2 (by decide) (by decide)) (by simp -implicitDefEqProofs (maxSteps := 2000000) only [go_sem, d4] <;> and_intros <;> rfl) (by kernel_rfl) (by simp -implicitDefEqProofs (maxSteps := 2000000) only [go_sem, d4]) ?_
      simp -implicitDefEqProofs (maxSteps := 2000000) only [go_sem, d4]
      and_intros <;> rfl
    · have d4 : onV (byC c1) 4 = true := d4
      have hF := frD_ok (byC_ok k2)
      obtain ⟨N, hN⟩ : ∃ N : Nat, N = q.vc.toNat := ⟨_, rfl⟩
      have hvc := hq.vc
      have hfr := hq.free
      have hna := hq.n
      obtain ⟨o1, o2⟩ := hF N
      refine ⟨⟨q.vc, q.atoms, q.free ++ (frD (byC (byC c1)) N).1⟩, (frD (byC (byC c1)) N).2, ⟨by simp only; omega, by simp only; omega, hq.first, (hq.more (by decide)).all, by simp only [List.length_append]; omega⟩, o1, ?_⟩
      refine sat_of_body mixed Try.func85 rfl (by kernel_rfl) (by kernel_rfl) (rs := [.cell 4 28]) rfl rfl rfl ?_
      simp -implicitDefEqProofs (maxSteps := 2000000) only [go_sem]
      refine call_of (s0) (by simp -implicitDefEqProofs (maxSteps := 2000000) only [go_sem]) (by kernel_rfl) (by simp -implicitDefEqProofs (maxSteps := 2000000) only [go_sem]) ?_
      simp -implicitDefEqProofs (maxSteps := 2000000) only [go_sem]
      refine call_of (l1Once_sat c1 3 k1 (by decide) (by decide)) (by simp -implicitDefEqProofs (maxSteps := 2000000) only [go_sem, d3] <;> and_intros <;> rfl) (by kernel_rfl) (by simp -implicitDefEqProofs (maxSteps := 2000000) only [go_sem, d3]) ?_
      simp -implicitDefEqProofs (maxSteps := 2000000) only [go_sem, d3]
      refine call_of (l1Once_sat (byC c1) 4 k2 (by decide) (by decide)) (by simp -implicitDefEqProofs (maxSteps := 2000000) only [go_sem, d4] <;> and_intros <;> rfl) (by kernel_rfl) (by simp -implicitDefEqProofs (maxSteps := 2000000) only [go_sem, d4]) ?_
      simp -implicitDefEqProofs (maxSteps := 2000000) only [go_sem, d4]
      refine awp_loop Nat (fun k => mkSt [(0, .one (.vad 0 0)), (4, .one (.vad 1000 0)), (5, .one (.vad 1192 0)), (6, .sc (.int .i64 k))] [(0, sCur (frD (byC (byC c1)) k).2), (1000, zQ2), (1192, [.sc (.int .i64 q.vc), .ref 960 2 0 q.atoms.length, .ref 961 1 0 (q.free.length + (frD (byC (byC c1)) k).1.length)])] [(960, (2, ris 999 q.atoms)), (961, (1, ints (q.free ++ (frD (byC (byC c1)) k).1)))] 12000)
        (fun k => k ≤ N) (fun k => N - k) 0 (by omega) (le_st' _ _ [⟨960, some _, false, 2, _⟩, ⟨961, some _, false, 1, _⟩] [] _ (by simp -implicitDefEqProofs (maxSteps := 2000000) only [go_sem, frD, List.length_nil, List.append_nil, Nat.add_zero] <;> and_intros <;> rfl) (by simp -implicitDefEqProofs (maxSteps := 2000000) only [go_sem, frD, List.length_nil, List.append_nil, Nat.add_zero] <;> and_intros <;> rfl) (by simp -implicitDefEqProofs (maxSteps := 2000000) only [go_sem, frD, List.length_nil, List.append_nil, Nat.add_zero] <;> and_intros <;> rfl) (by rfl)) ?_
      rintro k h1
      obtain ⟨m1, m2⟩ := hF k
      by_cases c5 : k < N
      · have d5 : decide (((k : Nat) : Int) < q.vc) = true := decide_eq_true (by omega)
        have wk : IntKind.i64.wrap ((k : Int) + 1) = ((k + 1 : Nat) : Int) := i64_succ (by omega)
        rcases d6 : onV (frD (byC (byC c1)) k).2 3
        · have e1 : frD (byC (byC c1)) (k + 1) = ((frD (byC (byC c1)) k).1, byC (frD (byC (byC c1)) k).2) := by rw [frD, d6]; rfl
          simp -implicitDefEqProofs (maxSteps := 2000000) only [go_sem, d5]
          refine call_of (l1Once_sat (frD (byC (byC c1)) k).2 3 m1 (by decide) (by decide)) (by simp -implicitDefEqProofs (maxSteps := 2000000) only [go_sem, d6] <;> and_intros <;> rfl) (by kernel_rfl) (by simp -implicitDefEqProofs (maxSteps := 2000000) only [go_sem, d6]) ?_
          simp -implicitDefEqProofs (maxSteps := 2000000) only [go_sem, d6]
          rw [wk]
          exact ⟨k + 1, c5, by omega, (le_st' _ _ [⟨960, some _, false, 2, _⟩, ⟨961, some _, false, 1, _⟩] [] _ (by simp -implicitDefEqProofs (maxSteps := 2000000) only [go_sem, e1] <;> and_intros <;> rfl) (by simp -implicitDefEqProofs (maxSteps := 2000000) only [go_sem, e1] <;> and_intros <;> rfl) (by simp -implicitDefEqProofs (maxSteps := 2000000) only [go_sem, e1] <;> and_intros <;> rfl) (by rfl))⟩
        · have e1 : frD (byC (byC c1)) (k + 1) = ((frD (byC (byC c1)) k).1 ++ [(k : Int)], byC (frD (byC (byC c1)) k).2) := by rw [frD, d6]; rfl
          have et : List.take (q.free.length + (frD (byC (byC c1)) k).1.length) (q.free ++ (frD (byC (byC c1)) k).1) = q.free ++ (frD (byC (byC c1)) k).1 := List.take_of_length_le (by rw [List.length_append]; exact Nat.le_refl _)
          simp -implicitDefEqProofs (maxSteps := 2000000) only [go_sem, d5]
          refine call_of (l1Once_sat (frD (byC (byC c1)) k).2 3 m1 (by decide) (by decide)) (by simp -implicitDefEqProofs (maxSteps := 2000000) only [go_sem, d6, et] <;> and_intros <;> rfl) (by kernel_rfl) (by simp -implicitDefEqProofs (maxSteps := 2000000) only [go_sem, d6, et]) ?_
          simp -implicitDefEqProofs (maxSteps := 2000000) only [go_sem, d6, et]
          repeat (refine And.intro (by omega) ?_)
          rw [wk]
          refine ⟨k + 1, c5, by omega, ?_⟩
          exact (le_st' _ _ [⟨960, some _, false, 2, _⟩, ⟨961, some _, false, 1, _⟩] [] _ (by simp -implicitDefEqProofs (maxSteps := 2000000) only [go_sem, e1, et, List.append_assoc, Nat.add_assoc, repP, List.set_cons_zero, List.length_append, List.length_singleton] <;> and_intros <;> rfl) (by simp -implicitDefEqProofs (maxSteps := 2000000) only [go_sem, e1, et, List.append_assoc, Nat.add_assoc, repP, List.set_cons_zero, List.length_append, List.length_singleton] <;> and_intros <;> rfl) (by simp -implicitDefEqProofs (maxSteps := 2000000) only [go_sem, e1, et, List.append_assoc, Nat.add_assoc, repP, List.set_cons_zero, List.length_append, List.length_singleton] <;> and_intros <;> rfl) (by rfl))
      · obtain rfl : k = N := by omega
        have d5 : decide (((k : Nat) : Int) < q.vc) = false := decide_eq_false (by omega)
        simp -implicitDefEqProofs (maxSteps := 2000000) only [go_sem, d5]
        and_intros <;> first | rfl | (rw [List.length_append])
  · obtain ⟨q, hq, s1⟩ := l11Known_ex c0 (byC c1) kb
    have k2 := byC_ok kb
    rcases d4 : onV (byC (byC c1)) 4
    · have d4 : onV (byC (byC c1)) 4 = false := d4
      refine ⟨q, byC (byC (byC c1)), hq.more (by decide), byC_ok k2, ?_⟩
      refine sat_of_body mixed Try.func85 rfl (by kernel_rfl) (by kernel_rfl) (rs := [.cell 4 28]) rfl rfl rfl ?_
      simp -implicitDefEqProofs (maxSteps := 2000000) only [go_sem]
      refine call_of (s0) (by simp -implicitDefEqProofs (maxSteps := 2000000) only [go_sem]) (by kernel_rfl) (by simp -implicitDefEqProofs (maxSteps := 2000000) only [go_sem]) ?_
      simp -implicitDefEqProofs (maxSteps := 2000000) only [go_sem]
      refine call_of (l1Once_sat c1 3 k1 (by decide) (by decide)) (by simp -implicitDefEqProofs (maxSteps := 2000000) only [go_sem, d3] <;> and_intros <;> rfl) (by kernel_rfl) (by simp -implicitDefEqProofs (maxSteps := 2000000) only [go_sem, d3]) ?_
      simp -implicitDefEqProofs (maxSteps := 2000000) only [go_sem, d3]
      refine call_of (s1) ?_ ?_ ?_ ?_
      · simp -implicitDefEqProofs (maxSteps := 2000000) only [go_sem]
      · kernel_rfl
      · simp -implicitDefEqProofs (maxSteps := 2000000) only [go_sem]
      simp -implicitDefEqProofs (maxSteps := 2000000) only [go_sem]
      refine call_of (l1Once_sat (byC (byC c1)) 4 k2 (by decide) (by decide)) (by simp -implicitDefEqProofs (maxSteps := 2000000) only [go_sem, d4] <;> and_intros <;> rfl) (by kernel_rfl) (by simp -implicitDefEqProofs (maxSteps := 2000000) only [go_sem, d4]) ?_
      simp -implicitDefEqProofs (maxSteps := 2000000) only [go_sem, d4]
      and_intros <;> rfl
    · have d4 : onV (byC (byC c1)) 4 = true := d4
      have hF := frD_ok (byC_ok k2)
      obtain ⟨N, hN⟩ : ∃ N : Nat, N = q.vc.toNat := ⟨_, rfl⟩
      have hvc := hq.vc
      have hfr := hq.free
      have hna := hq.n
      obtain ⟨o1, o2⟩ := hF N
      refine ⟨⟨q.vc, q.atoms, q.free ++ (frD (byC (byC (byC c1))) N).1⟩, (frD (byC (byC (byC c1))) N).2, ⟨by simp only; omega, by simp only; omega, hq.first, (hq.more (by decide)).all, by simp only [List.length_append]; omega⟩, o1, ?_⟩
      refine sat_of_body mixed Try.func85 rfl (by kernel_rfl) (by kernel_rfl) (rs := [.cell 4 28]) rfl rfl rfl ?_
      simp -implicitDefEqProofs (maxSteps := 2000000) only [go_sem]
      refine call_of (s0) (by simp -implicitDefEqProofs (maxSteps := 2000000) only [go_sem]) (by kernel_rfl) (by simp -implicitDefEqProofs (maxSteps := 2000000) only [go_sem]) ?_
      simp -implicitDefEqProofs (maxSteps := 2000000) only [go_sem]
      refine call_of (l1Once_sat c1 3 k1 (by decide) (by decide)) (by simp -implicitDefEqProofs (maxSteps := 2000000) only [go_sem, d3] <;> and_intros <;> rfl) (by kernel_rfl) (by simp -implicitDefEqProofs (maxSteps := 2000000) only [go_sem, d3]) ?_
      simp -implicitDefEqProofs (maxSteps := 2000000) only [go_sem, d3]
      refine call_of (s1) ?_ ?_ ?_ ?_
      · simp -implicitDefEqProofs (maxSteps := 2000000) only [go_sem]
      · kernel_rfl
      · simp -implicitDefEqProofs (maxSteps := 2000000) only [go_sem]
      simp -implicitDefEqProofs (maxSteps := 2000000) only [go_sem]
      refine call_of (l1Once_sat (byC (byC c1)) 4 k2 (by decide) (by decide)) (by simp -implicitDefEqProofs (maxSteps := 2000000) only [go_sem, d4] <;> and_intros <;> rfl) (by kernel_rfl) (by simp -implicitDefEqProofs (maxSteps := 2000000) only [go_sem, d4]) ?_
      simp -implicitDefEqProofs (maxSteps := 2000000) only [go_sem, d4]
      refine awp_loop Nat (fun k => mkSt [(0, .one (.vad 0 0)), (4, .one (.vad 1000 0)), (5, .one (.vad 1192 0)), (6, .sc (.int .i64 k))] [(0, sCur (frD (byC (byC (byC c1))) k).2), (1000, zQ2), (1192, [.sc (.int .i64 q.vc), .ref 960 2 0 q.atoms.length, .ref 961 1 0 (q.free.length + (frD (byC (byC (byC c1))) k).1.length)])] [(960, (2, ris 999 q.atoms)), (961, (1, ints (q.free ++ (frD (byC (byC (byC c1))) k).1)))] 12000)
        (fun k => k ≤ N) (fun k => N - k) 0 (by omega) (le_st' _ _ [⟨960, some _, false, 2, _⟩, ⟨961, some _, false, 1, _⟩] [] _ (by simp -implicitDefEqProofs (maxSteps := 2000000) only [go_sem, frD, List.length_nil, List.append_nil, Nat.add_zero] <;> and_intros <;> rfl) (by simp -implicitDefEqProofs (maxSteps := 2000000) only [go_sem, frD, List.length_nil, List.append_nil, Nat.add_zero] <;> and_intros <;> rfl) (by simp -implicitDefEqProofs (maxSteps := 2000000) only [go_sem, frD, List.length_nil, List.append_nil, Nat.add_zero] <;> and_intros <;> rfl) (by rfl)) ?_
      rintro k h1
      obtain ⟨m1, m2⟩ := hF k
      by_cases c5 : k < N
      · have d5 : decide (((k : Nat) : Int) < q.vc) = true := decide_eq_true (by omega)
        have wk : IntKind.i64.wrap ((k : Int) + 1) = ((k + 1 : Nat) : Int) := i64_succ (by omega)
        rcases d6 : onV (frD (byC (byC (byC c1))) k).2 3
        · have e1 : frD (byC (byC (byC c1))) (k + 1) = ((frD (byC (byC (byC c1))) k).1, byC (frD (byC (byC (byC c1))) k).2) := by rw [frD, d6]; rfl
          simp -implicitDefEqProofs (maxSteps := 2000000) only [go_sem, d5]
          refine call_of (l1Once_sat (frD (byC (byC (byC c1))) k).2 3 m1 (by decide) (by decide)) (by simp -implicitDefEqProofs (maxSteps := 2000000) only [go_sem, d6] <;> and_intros <;> rfl) (by kernel_rfl) (by simp -implicitDefEqProofs (maxSteps := 2000000) only [go_sem, d6]) ?_
          simp -implicitDefEqProofs (maxSteps := 2000000) only [go_sem, d6]
          rw [wk]
          exact ⟨k + 1, c5, by omega, (le_st' _ _ [⟨960, some _, false, 2, _⟩, ⟨961, some _, false, 1, _⟩] [] _ (by simp -implicitDefEqProofs (maxSteps := 2000000) only [go_sem, e1] <;> and_intros <;> rfl) (by simp -implicitDefEqProofs (maxSteps := 2000000) only [go_sem, e1] <;> and_intros <;> rfl) (by simp -implicitDefEqProofs (maxSteps := 2000000) only [go_sem, e1] <;> and_intros <;> rfl) (by rfl))⟩
        · have e1 : frD (byC (byC (byC c1))) (k + 1) = ((frD (byC (byC (byC c1))) k).1 ++ [(k : Int)], byC (frD (byC (byC (byC c1))) k).2) := by rw [frD, d6]; rfl
          have et : List.take (q.free.length + (frD (byC (byC (byC c1))) k).1.length) (q.free ++ (frD (byC (byC (byC c1))) k).1) = q.free ++ (frD (byC (byC (byC c1))) k).1 := List.take_of_length_le (by rw [List.length_append]; exact Nat.le_refl _)
          simp -implicitDefEqProofs (maxSteps := 2000000) only [go_sem, d5]
          refine call_of (l1Once_sat (frD (byC (byC (byC c1))) k).2 3 m1 (by decide) (by decide)) (by simp -implicitDefEqProofs (maxSteps := 2000000) only [go_sem, d6, et] <;> and_intros <;> rfl) (by kernel_rfl) (by simp -implicitDefEqProofs (maxSteps := 2000000) only [go_sem, d6, et]) ?_
          simp -implicitDefEqProofs (maxSteps := 2000000) only [go_sem, d6, et]
          repeat (refine And.intro (by omega) ?_)
          rw [wk]
          refine ⟨k + 1, c5, by omega, ?_⟩
          exact (le_st' _ _ [⟨960, some _, false, 2, _⟩, ⟨961, some _, false, 1, _⟩] [] _ (by simp -implicitDefEqProofs (maxSteps := 2000000) only [go_sem, e1, et, List.append_assoc, Nat.add_assoc, repP, List.set_cons_zero, List.length_append, List.length_singleton] <;> and_intros <;> rfl) (by simp -implicitDefEqProofs (maxSteps := 2000000) only [go_sem, e1, et, List.append_assoc, Nat.add_assoc, repP, List.set_cons_zero, List.length_append, List.length_singleton] <;> and_intros <;> rfl) (by simp -implicitDefEqProofs (maxSteps := 2000000) only [go_sem, e1, et, List.append_assoc, Nat.add_assoc, repP, List.set_cons_zero, List.length_append, List.length_singleton] <;> and_intros <;> rfl) (by rfl))
      · obtain rfl : k = N := by omega
        have d5 : decide (((k : Nat) : Int) < q.vc) = false := decide_eq_false (by omega)
        simp -implicitDefEqProofs (maxSteps := 2000000) only [go_sem, d5]
        and_intros <;> first | rfl | (rw [List.length_append])
end Go.Proofs.Ytedciihjgbkjgaa.A


/- QUERIES DRAWN, spoilt now and then. Conditions: none. -/
namespace Go.Proofs.Ytedciihjgbkjgaa.A
open Go
set_option linter.unusedSimpArgs false
set_option linter.unusedVariables false
set_option maxRecDepth 100000

theorem idxA_rin {st : St} {K : Eff → Prop} {e id i j s off len k : Nat} : idxA st e (.rin id i j s off len) k K = idxJ e (st.objs id) id i j s off len k K := by
  simp only [idxA, idxJ, Rows.cell]
  rcases st.objs id with _ | ⟨w, rows⟩
  · rfl
  · simp only
    rcases (List.getD rows i []).getD j .gone with _ | ⟨s', xs⟩ | _ <;> rfl
attribute [go_sem] idxA_rin
theorem rst_2s (s t : Nat) (a b : List RI) : rst (ris (s + 1) a ++ ris (t + 1) b) = ris 1 (a ++ b) := by
  have e : ∀ x y : Rows, rst (x ++ y) = rst x ++ rst y := fun x y => by simp [rst]
  rw [e, ris_rst s, ris_rst t, ris_append]
set_option maxHeartbeats 8000000 in
theorem l11Any_ex (c0 c : Cur) (hc : c.ok) : ∃ (q : Qu) (c' : Cur), QuD 201 q ∧ c'.ok ∧ Sat Try.prog 66 [lCur c, lRels (sigs c0)] [oQu q] [lCur c', g1] := by
  obtain ⟨q, c1, hq, k1, s0⟩ := l11Draw_ex c0 c hc
  have hv := hq.vc
  have hn := hq.n
  have hf := hq.free
  have h1 := hq.first
  have ha := hq.all
  have hm := hq.more (show 200 ≤ 201 by decide)
  rcases q with ⟨vc, ats, fr⟩
  simp only at hv hn hf h1 ha
  have k2 := byC_ok k1
  have ht := beV_lt c1 (n := 14) (by decide)
  by_cases t0 : beV c1 14 = 0
  · have d0 : (((beV c1 14 : Nat) : Int) == 0) = true := by rw [t0]; rfl
    have w1 : IntKind.i64.wrap (vc + 1) = vc + 1 := IntWalk.i64_in _ (by omega)
    have eL : ((((List.replicate 3 (0 : Int)).set 0 (-1)).set 1 (vc + 1)).set 2 5) = [-1, vc + 1, 5] := rfl
    have hb := mem_getD (l := ([-1, vc + 1, 5] : List Int)) 0 (beV_lt (byC c1) (n := 3) (by decide))
    refine ⟨⟨([-1, vc + 1, 5] : List Int).getD (beV (byC c1) 3) 0, ats, fr⟩, byC (byC c1), ⟨?_, by simp only; omega, h1, hm.all, by simp only; omega⟩, byC_ok k2, ?_⟩
    · simp only
      generalize ([-1, vc + 1, 5] : List Int).getD (beV (byC c1) 3) 0 = z at hb
      simp only [List.mem_cons, List.not_mem_nil, or_false] at hb
      omega
    refine sat_of_body mixed Try.func66 rfl (by kernel_rfl) (by kernel_rfl) (rs := [.cell 4 28]) rfl rfl rfl ?_
    simp -implicitDefEqProofs (maxSteps := 2000000) only [go_sem]
    refine call_of (s0) ?_ ?_ ?_ ?_
    · simp -implicitDefEqProofs (maxSteps := 2000000) only [go_sem]
    · kernel_rfl
    · simp -implicitDefEqProofs (maxSteps := 2000000) only [go_sem]
    simp -implicitDefEqProofs (maxSteps := 2000000) only [go_sem]
    refine call_of (l1Below_sat c1 14 k1 (by decide) (by decide)) (by simp -implicitDefEqProofs (maxSteps := 2000000) only [go_sem, d0, w1] <;> and_intros <;> rfl) (by kernel_rfl) (by simp -implicitDefEqProofs (maxSteps := 2000000) only [go_sem, d0, w1]) ?_
    simp -implicitDefEqProofs (maxSteps := 2000000) only [go_sem, d0, w1]
    refine call_of (l1PickInt_own (byC c1) [-1, vc + 1, 5] k2 (by simp) (by simp)) (by simp -implicitDefEqProofs (maxSteps := 2000000) only [go_sem, eL]) (by kernel_rfl) (by simp -implicitDefEqProofs (maxSteps := 2000000) only [go_sem, eL]) ?_
    simp -implicitDefEqProofs (maxSteps := 2000000) only [go_sem, eL]
    and_intros <;> rfl
  have d0 : (((beV c1 14 : Nat) : Int) == 0) = false := by rw [beq_eq_false_iff_ne]; omega
  by_cases t1 : beV c1 14 = 1
  · have d1 : (((beV c1 14 : Nat) : Int) == 1) = true := by rw [t1]; rfl
    have b3 := beV_lt (byC c1) (n := 6) (by decide)
    have w3 : IntKind.i64.wrap (((beV (byC c1) 6 : Nat) : Int) - 1) = ((beV (byC c1) 6 : Nat) : Int) - 1 := IntWalk.i64_in _ (by omega)
    have eL : ((List.replicate 2 (0 : Int)).set 0 0).set 1 0 = [0, 0] := rfl
    refine ⟨⟨vc, ats ++ [⟨((beV (byC c1) 6 : Nat) : Int) - 1, [0, 0]⟩], fr⟩, byC (byC c1), ⟨by simp only; omega, by simp only [List.length_append, List.length_singleton]; omega, ?_, fun x hx => ?_, by simp only; omega⟩, byC_ok k2, ?_⟩
    · simp only
      rw [List.getD_eq_getElem?_getD, List.getElem?_append_left (by omega), ← List.getD_eq_getElem?_getD]; exact h1
    · rcases List.mem_append.mp hx with hx | hx
      · have := ha x hx; omega
      · rw [List.mem_singleton.mp hx]; simp
    refine sat_of_body mixed Try.func66 rfl (by kernel_rfl) (by kernel_rfl) (rs := [.cell 4 28]) rfl rfl rfl ?_
    simp -implicitDefEqProofs (maxSteps := 2000000) only [go_sem]
    refine call_of (s0) ?_ ?_ ?_ ?_
    · simp -implicitDefEqProofs (maxSteps := 2000000) only [go_sem]
    · kernel_rfl
    · simp -implicitDefEqProofs (maxSteps := 2000000) only [go_sem]
    simp -implicitDefEqProofs (maxSteps := 2000000) only [go_sem]
    refine call_of (l1Below_sat c1 14 k1 (by decide) (by decide)) (by simp -implicitDefEqProofs (maxSteps := 2000000) only [go_sem, d0, d1] <;> and_intros <;> rfl) (by kernel_rfl) (by simp -implicitDefEqProofs (maxSteps := 2000000) only [go_sem, d0, d1]) ?_
    simp -implicitDefEqProofs (maxSteps := 2000000) only [go_sem, d0, d1]
    refine call_of (l1Below_sat (byC c1) 6 k2 (by decide) (by decide)) (by simp -implicitDefEqProofs (maxSteps := 2000000) only [go_sem, w3, eL] <;> and_intros <;> rfl) (by kernel_rfl) (by simp -implicitDefEqProofs (maxSteps := 2000000) only [go_sem, w3, eL]) ?_
    simp -implicitDefEqProofs (maxSteps := 2000000) only [go_sem, w3, eL]
    repeat (refine And.intro (by omega) ?_)
    first | (with_reducible refine tr_and ?_ ?_; focus kernel_rfl) | (with_reducible refine tr_only ?_; kernel_rfl) | skip
    and_intros <;> first | rfl | exact (rst_2s 0 _ ats _).symm
  have d1 : (((beV c1 14 : Nat) : Int) == 1) = false := by rw [beq_eq_false_iff_ne]; omega
  by_cases t2 : beV c1 14 = 2
  · have d2 : (((beV c1 14 : Nat) : Int) == 2) = true := by rw [t2]; rfl
    have eL : (((List.replicate 3 (0 : Int)).set 0 (-11)).set 1 4).set 2 3 = [-11, 4, 3] := rfl
    have hv0 : (0 : Int) < ats.length := by omega
    have hv1 : 0 < ats.length := by omega
    have hw0 : (0 : Int) < (ats.getD 0 default).l.length := by omega
    have hw1 : 0 < (ats.getD 0 default).l.length := by omega
    refine ⟨⟨vc, ats.set 0 ⟨(ats.getD 0 default).r, (ats.getD 0 default).l.set 0 (([-11, 4, 3] : List Int).getD (beV (byC c1) 3) 0)⟩, fr⟩, byC (byC c1), ⟨by simp only; omega, by simp only [List.length_set]; omega, ?_, fun x hx => ?_, by simp only; omega⟩, byC_ok k2, ?_⟩
    · simp only
      rw [getD_set_same hv1]; simp only [List.length_set]; exact h1
    · rcases List.mem_or_eq_of_mem_set hx with hx | rfl
      · have := ha x hx; omega
      · have := ha _ (mem_getD default hv1); simp only [List.length_set]; omega
    refine sat_of_body mixed Try.func66 rfl (by kernel_rfl) (by kernel_rfl) (rs := [.cell 4 28]) rfl rfl rfl ?_
    simp -implicitDefEqProofs (maxSteps := 2000000) only [go_sem]
    refine call_of (s0) ?_ ?_ ?_ ?_
    · simp -implicitDefEqProofs (maxSteps := 2000000) only [go_sem]
    · kernel_rfl
    · simp -implicitDefEqProofs (maxSteps := 2000000) only [go_sem]
    simp -implicitDefEqProofs (maxSteps := 2000000) only [go_sem]
    refine call_of (l1Below_sat c1 14 k1 (by decide) (by decide)) (by simp -implicitDefEqProofs (maxSteps := 2000000) only [go_sem, d0, d1, d2, hv0, hv1] <;> and_intros <;> rfl) (by kernel_rfl) (by simp -implicitDefEqProofs (maxSteps := 2000000) only [go_sem, d0, d1, d2, hv0, hv1]) ?_
    simp -implicitDefEqProofs (maxSteps := 2000000) only [go_sem, d0, d1, d2, hv0, hv1]
    refine call_of (l1PickInt_own (byC c1) [-11, 4, 3] k2 (by decide) (by decide)) (by simp -implicitDefEqProofs (maxSteps := 2000000) only [go_sem, eL, hv0, hv1, hw0, hw1]) (by kernel_rfl) (by simp -implicitDefEqProofs (maxSteps := 2000000) only [go_sem, eL, hv0, hv1, hw0, hw1]) ?_
    simp -implicitDefEqProofs (maxSteps := 2000000) only [go_sem, eL, hv0, hv1, hw0, hw1]
    refine And.intro (by decide) ?_
    simp -implicitDefEqProofs (maxSteps := 2000000) only [go_sem, hv0, hv1, hw0, hw1]
    first | (with_reducible refine tr_and ?_ ?_; focus kernel_rfl) | (with_reducible refine tr_only ?_; kernel_rfl) | skip
    and_intros <;> rfl
  have d2 : (((beV c1 14 : Nat) : Int) == 2) = false := by rw [beq_eq_false_iff_ne]; omega
  by_cases t3 : beV c1 14 = 3
  · have d3 : (((beV c1 14 : Nat) : Int) == 3) = true := by rw [t3]; rfl
    refine ⟨⟨vc, ats, fr ++ [((beV (byC c1) 5 : Nat) : Int)]⟩, byC (byC c1), ⟨by simp only; omega, by simp only; omega, h1, hm.all, by simp only [List.length_append, List.length_singleton]; omega⟩, byC_ok k2, ?_⟩
    refine sat_of_body mixed Try.func66 rfl (by kernel_rfl) (by kernel_rfl) (rs := [.cell 4 28]) rfl rfl rfl ?_
    simp -implicitDefEqProofs (maxSteps := 2000000) only [go_sem]
    refine call_of (s0) ?_ ?_ ?_ ?_
    · simp -implicitDefEqProofs (maxSteps := 2000000) only [go_sem]
    · kernel_rfl
    · simp -implicitDefEqProofs (maxSteps := 2000000) only [go_sem]
    simp -implicitDefEqProofs (maxSteps := 2000000) only [go_sem]
    refine call_of (l1Below_sat c1 14 k1 (by decide) (by decide)) (by simp -implicitDefEqProofs (maxSteps := 2000000) only [go_sem, d0, d1, d2, d3] <;> and_intros <;> rfl) (by kernel_rfl) (by simp -implicitDefEqProofs (maxSteps := 2000000) only [go_sem, d0, d1, d2, d3]) ?_
    simp -implicitDefEqProofs (maxSteps := 2000000) only [go_sem, d0, d1, d2, d3]
    refine call_of (l1Below_sat (byC c1) 5 k2 (by decide) (by decide)) (by simp -implicitDefEqProofs (maxSteps := 2000000) only [go_sem] <;> and_intros <;> rfl) (by kernel_rfl) (by simp -implicitDefEqProofs (maxSteps := 2000000) only [go_sem]) ?_
    simp -implicitDefEqProofs (maxSteps := 2000000) only [go_sem]
    repeat (refine And.intro (by omega) ?_)
    first | (with_reducible refine tr_and ?_ ?_; focus kernel_rfl) | (with_reducible refine tr_only ?_; kernel_rfl) | skip
    and_intros <;> rfl
  · have d3 : (((beV c1 14 : Nat) : Int) == 3) = false := by rw [beq_eq_false_iff_ne]; omega
    refine ⟨⟨vc, ats, fr⟩, byC c1, hm, k2, ?_⟩
    refine sat_of_body mixed Try.func66 rfl (by kernel_rfl) (by kernel_rfl) (rs := [.cell 4 28]) rfl rfl rfl ?_
    simp -implicitDefEqProofs (maxSteps := 2000000) only [go_sem]
    refine call_of (s0) ?_ ?_ ?_ ?_
    · simp -implicitDefEqProofs (maxSteps := 2000000) only [go_sem]
    · kernel_rfl
    · simp -implicitDefEqProofs (maxSteps := 2000000) only [go_sem]
    simp -implicitDefEqProofs (maxSteps := 2000000) only [go_sem]
    refine call_of (l1Below_sat c1 14 k1 (by decide) (by decide)) (by simp -implicitDefEqProofs (maxSteps := 2000000) only [go_sem, d0, d1, d2, d3] <;> and_intros <;> rfl) (by kernel_rfl) (by simp -implicitDefEqProofs (maxSteps := 2000000) only [go_sem, d0, d1, d2, d3]) ?_
    simp -implicitDefEqProofs (maxSteps := 2000000) only [go_sem, d0, d1, d2, d3]
    and_intros <;> rfl
end Go.Proofs.Ytedciihjgbkjgaa.A


/- DATABASES DRAWN, SPOILT NOW AND THEN. Conditions: none. -/
namespace Go.Proofs.Ytedciihjgbkjgaa.A
open Go
set_option linter.unusedSimpArgs false
set_option linter.unusedVariables false
set_option maxRecDepth 100000

theorem eqN_t {n m : Nat} (h : n = m) : (((n : Nat) : Int) == ((m : Nat) : Int)) = true := by rw [h]; exact beq_self_eq_true _
theorem frz_2s (s t : Nat) (a b : List RI) : frz (ris s a ++ ris t b) = ris 0 (a ++ b) := by
  have e : ∀ x y : Rows, frz (x ++ y) = frz x ++ frz y := fun x y => by simp [frz]
  rw [e, ris_frz, ris_frz, ris_append]
theorem take_set1 {α : Type} {l : List α} {i : Nat} {x : α} : List.take l.length (l.set i x) = l.set i x := List.take_of_length_le (by rw [List.length_set]; exact Nat.le_refl _)
theorem take_two (s t : Nat) (a : List RI) (x : RI) : List.take (a.length + 1) (ris s a ++ ris t [x]) = ris s a ++ ris t [x] := List.take_of_length_le (by simp [ris])
end Go.Proofs.Ytedciihjgbkjgaa.A


/- DATABASES AND QUERIES DRAWN. Conditions: none. -/
namespace Go.Proofs.Ytedciihjgbkjgaa.A
open Go
set_option linter.unusedSimpArgs false
set_option linter.unusedVariables false
set_option maxRecDepth 100000

theorem l11Both_ex (b : List Int) (h : b.length ≤ 1048576) : ∃ (c0 c' : Cur) (q : Qu), QuD 201 q ∧ c'.ok ∧ Sat Try.prog 35 [lBys b] [lCur c', lRels (sigs c0), oQu q] [g1] := by
  have k0 := curN_ok h
  have k2 := byC_ok (byC_ok k0)
  have s1 := l2Sigs_sat (curN b) k0
  obtain ⟨q, c', hq, hk, s2⟩ := l11Any_ex (curN b) (byC (byC (curN b))) k2
  refine ⟨curN b, c', q, hq, hk, ?_⟩
  have hl := sigs_len (curN b)
  generalize sigs (curN b) = l at hl s1 s2
  generalize byC (byC (curN b)) = c2 at k2 s1 s2
  refine sat_of_bodyB Try.func35 rfl (by kernel_rfl) (rs := [.tmp 2, .tmp 3, .cell 4 28]) rfl rfl rfl ?_
  refine bwp_seq mixed (by kernel_rfl) ?_
  simp -implicitDefEqProofs (maxSteps := 2000000) only [go_sem]
  refine bwp_seq mixed (by kernel_rfl) ?_
  simp -implicitDefEqProofs (maxSteps := 2000000) only [go_sem]
  refine call_of (l1New_sat b (by omega)) (by simp -implicitDefEqProofs (maxSteps := 2000000) only [go_sem]) (by kernel_rfl) (by simp -implicitDefEqProofs (maxSteps := 2000000) only [go_sem]) ?_
  simp -implicitDefEqProofs (maxSteps := 2000000) only [go_sem]
  refine bwp_seq mixed (by kernel_rfl) ?_
  simp -implicitDefEqProofs (maxSteps := 2000000) only [go_sem]
  refine call_of (s1) (by simp -implicitDefEqProofs (maxSteps := 2000000) only [go_sem]) (by kernel_rfl) (by simp -implicitDefEqProofs (maxSteps := 2000000) only [go_sem]) ?_
  simp -implicitDefEqProofs (maxSteps := 2000000) only [go_sem]
  refine bwp_le (st' := mkSt [(4, .one (.vad 1128 0)), (5, .one (.vad 1256 0)), (6, .one (.im 3 (rels l)))] [(1128, zQ2), (1256, sCur c2)] [] 4000) (le_st' _ _ [] [1448] _ (by simp -implicitDefEqProofs (maxSteps := 2000000) only [go_sem, rels_frz] <;> and_intros <;> first | rfl | exact List.mem_singleton_self _ | decide | (refine ⟨_, rfl, Eq.symm ?_⟩; simp -implicitDefEqProofs (maxSteps := 2000000) only [go_sem, rels_frz]; done) | (refine ⟨_, rfl, Eq.symm ?_⟩; simp -implicitDefEqProofs (maxSteps := 2000000) only [go_sem, rels_frz]; rfl)) (by simp -implicitDefEqProofs (maxSteps := 2000000) only [go_sem, rels_frz] <;> and_intros <;> first | rfl | exact List.mem_singleton_self _ | decide | (refine ⟨_, rfl, Eq.symm ?_⟩; simp -implicitDefEqProofs (maxSteps := 2000000) only [go_sem, rels_frz]; done) | (refine ⟨_, rfl, Eq.symm ?_⟩; simp -implicitDefEqProofs (maxSteps := 2000000) only [go_sem, rels_frz]; rfl)) (by simp -implicitDefEqProofs (maxSteps := 2000000) only [go_sem, rels_frz] <;> and_intros <;> rfl) (by rfl)) ?_
  refine bwp_awp mixed (by kernel_rfl) ?_
  simp -implicitDefEqProofs (maxSteps := 2000000) only [go_sem]
  refine call_of (s2) ?_ ?_ ?_ ?_
  · simp -implicitDefEqProofs (maxSteps := 2000000) only [go_sem]
  · kernel_rfl
  · simp -implicitDefEqProofs (maxSteps := 2000000) only [go_sem]
  simp -implicitDefEqProofs (maxSteps := 2000000) only [go_sem]
  and_intros <;> rfl
end Go.Proofs.Ytedciihjgbkjgaa.A


/- CONSTRAINTS DRAWN; databases from a code. Conditions: none. -/
namespace Go.Proofs.Ytedciihjgbkjgaa.A
open Go
set_option linter.unusedSimpArgs false
set_option linter.unusedVariables false
set_option maxRecDepth 100000

end Go.Proofs.Ytedciihjgbkjgaa.A


/- ATOMS, QUERIES AND CONSTRAINTS DRAWN. Conditions: none. -/
namespace Go.Proofs.Ytedciihjgbkjgaa.A
open Go
set_option linter.unusedSimpArgs false
set_option linter.unusedVariables false
set_option maxRecDepth 100000
set_option maxHeartbeats 4000000 in
theorem drawKV_ex (b : List Int) (h : b.length ≤ 1048576) : ∃ (c0 : Cur) (a : RI), a.l.length ≤ 201 ∧
    Sat Try.prog 28 [lBys b] [lRels (sigs c0), oRI a] [g1] := by
  obtain ⟨c0, c1, q, hq, k1, s0⟩ := l11Both_ex b h
  have hn := hq.n
  have b1 := beV_lt c1 (n := q.atoms.length) (by omega)
  refine ⟨c0, q.atoms.getD (beV c1 q.atoms.length) default, hq.all _ (mem_getD default b1), ?_⟩
  refine sat_of_body mixed Try.func28 rfl (by kernel_rfl) (by kernel_rfl) (rs := [.tmp 2, .cell 3 52]) rfl rfl rfl ?_
  simp -implicitDefEqProofs (maxSteps := 2000000) only [go_sem]
  refine call_of (s0) (by simp -implicitDefEqProofs (maxSteps := 2000000) only [go_sem]) (by kernel_rfl) (by simp -implicitDefEqProofs (maxSteps := 2000000) only [go_sem]) ?_
  simp -implicitDefEqProofs (maxSteps := 2000000) only [go_sem]
  refine call_of (l1Below_sat c1 q.atoms.length k1 (by omega) (by omega)) (by simp -implicitDefEqProofs (maxSteps := 2000000) only [go_sem, b1] <;> and_intros <;> rfl) (by kernel_rfl) (by simp -implicitDefEqProofs (maxSteps := 2000000) only [go_sem, b1]) ?_
  simp -implicitDefEqProofs (maxSteps := 2000000) only [go_sem, b1]
  refine ⟨by rw [solidRin_sl (s' := 1) (xs := iv (q.atoms.getD (beV c1 q.atoms.length) default).l) (by rw [ris_get b1]; rfl)], ?_⟩
  first | (with_reducible refine tr_and ?_ ?_; focus kernel_rfl) | (with_reducible refine tr_only ?_; kernel_rfl) | skip
  and_intros <;> rfl
set_option maxHeartbeats 4000000 in
theorem drawRA_ex (b : List Int) (h : b.length ≤ 1048576) : ∃ (q : Qu) (s : Int), QuD 201 q ∧ (-1 ≤ s ∧ s ≤ 3) ∧
    Sat Try.prog 31 [lBys b] [oQu q, lInt s] [g1] := by
  obtain ⟨c0, c1, q, hq, k1, s0⟩ := l11Both_ex b h
  have b1 := beV_lt c1 (n := 5) (by decide)
  refine ⟨q, ((beV c1 5 : Nat) : Int) - 1, hq, by omega, ?_⟩
  have w1 : IntKind.i64.wrap (((beV c1 5 : Nat) : Int) - 1) = ((beV c1 5 : Nat) : Int) - 1 := IntWalk.i64_in _ (by omega)
  refine sat_of_body mixed Try.func31 rfl (by kernel_rfl) (by kernel_rfl) (rs := [.cell 2 28, .tmp 3]) rfl rfl rfl ?_
  simp -implicitDefEqProofs (maxSteps := 2000000) only [go_sem]
  refine call_of (s0) (by simp -implicitDefEqProofs (maxSteps := 2000000) only [go_sem]) (by kernel_rfl) (by simp -implicitDefEqProofs (maxSteps := 2000000) only [go_sem]) ?_
  simp -implicitDefEqProofs (maxSteps := 2000000) only [go_sem]
  refine call_of (l1Below_sat c1 5 k1 (by decide) (by decide)) (by simp -implicitDefEqProofs (maxSteps := 2000000) only [go_sem, w1] <;> and_intros <;> rfl) (by kernel_rfl) (by simp -implicitDefEqProofs (maxSteps := 2000000) only [go_sem, w1]) ?_
  simp -implicitDefEqProofs (maxSteps := 2000000) only [go_sem, w1]
  first | (with_reducible refine tr_and ?_ ?_; focus kernel_rfl) | (with_reducible refine tr_only ?_; kernel_rfl) | skip
  and_intros <;> rfl
end Go.Proofs.Ytedciihjgbkjgaa.A


/- ALL MAXIMAL INDEPENDENT SETS: the plain law. Conditions: none. (No program in sight but the names.) -/
namespace Go.Proofs.Ytedciihjgbkjgaa.A
open Go
set_option linter.unusedSimpArgs false
set_option linter.unusedVariables false

theorem upTo_all {p : Nat → Bool} : ∀ {n : Nat}, (∀ k, k < n → p k = true) → upTo p n = true
  | 0, _ => rfl
  | n + 1, h => upTo_step (upTo_all fun k hk => h k (by omega)) (h n (by omega))
/-- Is a number an end of an edge. -/
def metE (l : List Edge) (x : Int) : Bool := l.any fun e => (e.a == x) || (e.b == x)
/-- The search of the program, m numbers left. -/
def walkI (n : Nat) (l : List Edge) : Nat → List Int → List (List Int)
  | 0, s => if isMax n l s then [s] else []
  | m + 1, s => (if indep l (s ++ [((n - (m + 1) : Nat) : Int)]) then walkI n l m (s ++ [((n - (m + 1) : Nat) : Int)]) else []) ++ walkI n l m s
/-- The search of the reference. -/
def walkS (n : Nat) (l : List Edge) : Nat → List Int → List (List Int)
  | 0, s => if isMax n l s then [s] else []
  | m + 1, s => (if fitsE l s ((n - (m + 1) : Nat) : Int) then walkS n l m (s ++ [((n - (m + 1) : Nat) : Int)]) else []) ++ (if metE l ((n - (m + 1) : Nat) : Int) then walkS n l m s else [])
theorem walkI_len (n : Nat) (l : List Edge) : ∀ (m : Nat) (s : List Int), (walkI n l m s).length ≤ 2 ^ m
  | 0, s => by unfold walkI; split <;> simp
  | m + 1, s => by
    have h1 := walkI_len n l m (s ++ [((n - (m + 1) : Nat) : Int)])
    have h2 := walkI_len n l m s
    unfold walkI
    rw [List.length_append, Nat.pow_succ]
    split
    · omega
    · simp; omega
/-- A number that no edge meets joins any independent set. -/
theorem indep_join {l : List Edge} {s : List Int} {x : Int} (h : indep l s = true) (hx : metE l x = false) : indep l (s ++ [x]) = true := by
  unfold indep
  refine upTo_all fun k hk => ?_
  have h1 := upTo_at h hk
  have h2 : ((l.getD k default).a == x) = false ∧ ((l.getD k default).b == x) = false := by
    unfold metE at hx
    rw [List.any_eq_false] at hx
    have := hx _ (mem_getD default hk)
    simpa using this
  unfold edNo at h1 ⊢
  have n1 : (l.getD k default).a ≠ x := by simpa using h2.1
  have n2 : (l.getD k default).b ≠ x := by simpa using h2.2
  rw [Bool.not_eq_true'] at h1 ⊢
  rw [← h1]
  congr 1
  · rw [Bool.eq_iff_iff, decide_eq_true_iff, decide_eq_true_iff, List.mem_append, List.mem_singleton]
    exact ⟨fun h => h.resolve_right n1, .inl⟩
  · rw [Bool.eq_iff_iff, decide_eq_true_iff, decide_eq_true_iff, List.mem_append, List.mem_singleton]
    exact ⟨fun h => h.resolve_right n2, .inl⟩
theorem isMax_not {n : Nat} {l : List Edge} {s : List Int} {x : Nat} (hx : x < n) (hm : metE l x = false) (hs : (x : Int) ∉ s) : isMax n l s = false := by
  rcases h : isMax n l s
  · rfl
  · unfold isMax at h
    simp only [Bool.and_eq_true] at h
    obtain ⟨_, _, h3, h4⟩ := h
    have := upTo_at h4 (show x < ((n : Nat) : Int).toNat by omega)
    rw [fitsE, indep_join h3 hm, decide_eq_false hs] at this
    cases this
/-- Where such a number has been left out nothing is found. -/
theorem walkI_none {n : Nat} {l : List Edge} {x : Nat} (hx : x < n) (hm : metE l x = false) : ∀ (m : Nat) (s : List Int), m + x + 1 ≤ n → (x : Int) ∉ s → walkI n l m s = []
  | 0, s, _, hs => by rw [walkI, isMax_not hx hm hs]; rfl
  | m + 1, s, hle, hs => by
    have h2 := walkI_none hx hm m s (by omega) hs
    have h1 := walkI_none hx hm m (s ++ [((n - (m + 1) : Nat) : Int)]) (by omega) (by
      rw [List.mem_append, List.mem_singleton]
      rintro (h | h)
      · exact hs h
      · omega)
    rw [walkI, h1, h2]
    split <;> rfl
theorem walk_same {n : Nat} {l : List Edge} : ∀ (m : Nat) (s : List Int), m ≤ n → (∀ y ∈ s, y < ((n - m : Nat) : Int)) → walkS n l m s = walkI n l m s
  | 0, s, _, _ => rfl
  | m + 1, s, hle, hs => by
    have hn : ((n - (m + 1) : Nat) : Int) ∉ s := fun h => by have := hs _ h; omega
    have h1 := walk_same (n := n) (l := l) m (s ++ [((n - (m + 1) : Nat) : Int)]) (by omega) (by
      intro y hy
      rw [List.mem_append, List.mem_singleton] at hy
      rcases hy with hy | rfl
      · have := hs y hy; omega
      · omega)
    have h2 := walk_same (n := n) (l := l) m s (by omega) (fun y hy => by have := hs y hy; omega)
    rw [walkS, walkI, fitsE, decide_eq_false hn, Bool.not_false, Bool.true_and, h1, h2]
    congr 1
    rcases hm : metE l ((n - (m + 1) : Nat) : Int)
    · rw [walkI_none (x := n - (m + 1)) (by omega) hm m s (by omega) hn]; rfl
    · rfl
def mis (n : Int) (l : List Edge) : List (List Int) := if goodEds n l then walkI n.toNat l n.toNat [] else []
theorem goodEds_n {n : Int} {l : List Edge} (g : goodEds n l = true) : 0 ≤ n ∧ n ≤ 14 := by
  unfold goodEds at g
  rw [Bool.and_eq_true] at g
  exact inB_of g.1
theorem mis_len (n : Int) (l : List Edge) : (mis n l).length ≤ 16384 := by
  unfold mis
  split
  · rename_i g
    have := goodEds_n g
    have h := walkI_len n.toNat l n.toNat []
    have : 2 ^ n.toNat ≤ 2 ^ 14 := Nat.pow_le_pow_right (by omega) (by omega)
    omega
  · simp
/-- What is found is no longer than the numbers that there are. -/
theorem walkI_mem (n : Nat) (l : List Edge) : ∀ (m : Nat) (s : List Int), ∀ t ∈ walkI n l m s, t.length ≤ s.length + m
  | 0, s, t, ht => by
    unfold walkI at ht
    split at ht
    · simp at ht; subst ht; omega
    · cases ht
  | m + 1, s, t, ht => by
    unfold walkI at ht
    rw [List.mem_append] at ht
    rcases ht with ht | ht
    · split at ht
      · have := walkI_mem n l m _ t ht
        simp only [List.length_append, List.length_singleton] at this
        omega
      · cases ht
    · have := walkI_mem n l m s t ht
      omega
theorem mis_small {n : Int} {l : List Edge} : ∀ t ∈ mis n l, t.length ≤ 14 := by
  intro t ht
  unfold mis at ht
  split at ht
  · rename_i g
    have := goodEds_n g
    have := walkI_mem _ _ _ _ t ht
    simp only [List.length_nil] at this
    omega
  · cases ht
end Go.Proofs.Ytedciihjgbkjgaa.A


/- ALL MAXIMAL INDEPENDENT SETS: the two programs. Conditions: none. -/
namespace Go.Proofs.Ytedciihjgbkjgaa.A
open Go
set_option linter.unusedSimpArgs false
set_option linter.unusedVariables false
set_option maxRecDepth 100000

theorem any_stepM {α : Type} {d : α} {l : List α} {k : Nat} {p : α → Bool} (h : k < l.length) : (l.take (k + 1)).any p = ((l.take k).any p || p (l.getD k d)) := by
  rw [take_snoc d h, List.any_append]; simp
theorem walkS_len (n : Nat) (l : List Edge) : ∀ (m : Nat) (s : List Int), (walkS n l m s).length ≤ 2 ^ m
  | 0, s => by unfold walkS; split <;> simp
  | m + 1, s => by
    have h1 := walkS_len n l m (s ++ [((n - (m + 1) : Nat) : Int)])
    have h2 := walkS_len n l m s
    unfold walkS
    rw [List.length_append, Nat.pow_succ]
    split <;> split <;> simp <;> omega
theorem pow14 {m : Nat} (h : m ≤ 14) : 2 ^ m ≤ 16384 := Nat.pow_le_pow_right (by omega) h
theorem ints_nilf : (ints [] = frz []) = True := eq_true rfl
attribute [go_sem] ints_nilf
theorem rst_two (a b : List (List Int)) : rst (iss 999 a ++ iss 1 b) = iss 1 (a ++ b) := by
  rw [show ∀ x y : Rows, rst (x ++ y) = rst x ++ rst y from fun x y => List.map_append .., iss_rst 998, iss_rst 0, iss_append]
end Go.Proofs.Ytedciihjgbkjgaa.A


/- ALL MAXIMAL INDEPENDENT SETS: the program's search. Conditions: none. -/
namespace Go.Proofs.Ytedciihjgbkjgaa.A
open Go
set_option linter.unusedSimpArgs false
set_option linter.unusedVariables false
set_option maxRecDepth 100000

theorem rep1M {α : Type} (a : α) : List.replicate 1 a = [a] := rfl
end Go.Proofs.Ytedciihjgbkjgaa.A


/- ALL MAXIMAL INDEPENDENT SETS: the program's function. Conditions: none. -/
namespace Go.Proofs.Ytedciihjgbkjgaa.A
open Go
set_option linter.unusedSimpArgs false
set_option linter.unusedVariables false
set_option maxRecDepth 100000

end Go.Proofs.Ytedciihjgbkjgaa.A


/- SETS DRAWN; what the laws compare by. Conditions: none. -/
namespace Go.Proofs.Ytedciihjgbkjgaa.A
open Go
set_option linter.unusedSimpArgs false
set_option linter.unusedVariables false
set_option maxRecDepth 100000

theorem edE_ok {c : Cur} (hc : c.ok) : (edE c).1.ok ∧ (edE c).2.length ≤ 81 := by
  have n1 := beV_lt c (n := 9) (by decide)
  have hn : edN c < 9 := n1
  have o0 : DrOk ((byC (byC c), []) : Dr) 0 := ⟨byC_ok (byC_ok hc), Nat.le_refl _⟩
  have o := allD_ok (rare := edR c) (n := edN c) o0 (edN c)
  have hin : edN c * edN c ≤ 9 * 9 := Nat.mul_le_mul (by omega) (by omega)
  have ho := o.len
  have hk := o.ok
  unfold edE edS
  generalize allD (edR c) (edN c) (byC (byC c), []) (edN c) = s at ho hk ⊢
  simp only
  split
  · exact ⟨hk, by omega⟩
  · split
    · exact ⟨byC_ok (byC_ok (byC_ok hk)), by show (s.2.set _ _).length ≤ 81; rw [List.length_set]; omega⟩
    · exact ⟨byC_ok hk, by show s.2.length ≤ 81; omega⟩
theorem somE_ok {c : Cur} {n : Nat} {l : List Edge} (hc : c.ok) : (somE c n l).1.ok ∧ (somE c n l).2.length ≤ n + 1 := by
  have o0 : DsOk ((c, []) : Ds) 0 := ⟨hc, Nat.le_refl _⟩
  have o := somD_ok (l := l) o0 n
  have ho := o.len
  have hk := o.ok
  unfold somE
  generalize somD l (c, []) n = s at ho hk ⊢
  simp only
  refine ⟨byC_ok hk, ?_⟩
  split
  · rw [List.length_append, List.length_singleton]; omega
  · omega
def misN (b : List Int) : Nat := edN (curN b)
def misL (b : List Int) : List Edge := (edE (curN b)).2
def misS0 (b : List Int) : Ds := somE (edE (curN b)).1 (misN b) (misL b)
def misS (b : List Int) : List Int := if onV (misS0 b).1 2 && (extM (misN b) (misL b) (misS0 b).2).2 then (extM (misN b) (misL b) (misS0 b).2).1 else (misS0 b).2
theorem has_sat (l : List Int) (x : Int) (h : l.length ≤ 9223372036854775807) : Sat Try.prog 11 [lInts l, lInt x] [lBool (decide (x ∈ l))] [g1, g1] := by
  refine sat_of_body mixed Try.func11 rfl (by kernel_rfl) (by kernel_rfl) (rs := [.tmp 4]) rfl rfl rfl ?_
  simp -implicitDefEqProofs (maxSteps := 2000000) only [go_sem]
  refine awp_loop Nat (fun k => mkSt [(0, .one (.im 1 (ints l))), (1, .sc (.int .i64 x)), (5, .sc (.int .i64 k))] [] [] 1000)
    (fun k => k ≤ l.length ∧ x ∉ l.take k) (fun k => l.length - k) 0 ⟨by omega, by simp⟩ (le_st _ _ [] [] _ rfl (by simp -implicitDefEqProofs (maxSteps := 2000000) only [go_sem] <;> rfl) trivial trivial) ?_
  rintro k ⟨h1, h2⟩
  by_cases c1 : k < l.length
  · rcases d : (l.getD k 0 == x)
    · simp -implicitDefEqProofs (maxSteps := 2000000) only [go_sem, c1, d]
      rw [i64_succ (by omega)]
      refine ⟨k + 1, ⟨c1, ?_⟩, by omega, (le_st _ _ [] [] _ rfl (by simp -implicitDefEqProofs (maxSteps := 2000000) only [go_sem] <;> rfl) trivial trivial)⟩
      rw [take_snoc 0 c1, List.mem_append, List.mem_singleton]
      rintro (e | e)
      · exact h2 e
      · rw [e] at d; simp at d
    · rw [decide_eq_true (show x ∈ l by rw [← eq_of_beq d]; exact mem_getD 0 c1)]
      simp -implicitDefEqProofs (maxSteps := 2000000) only [go_sem, c1, d]
      first | done | rfl | exact ⟨rfl, rfl⟩ | exact ⟨rfl, rfl, rfl⟩ | (refine tr_and ?_ ?_ <;> first | rfl | exact ⟨rfl, rfl⟩ | kernel_rfl)
  · obtain rfl : k = l.length := by omega
    rw [List.take_length] at h2
    rw [decide_eq_false h2]
    simp -implicitDefEqProofs (maxSteps := 2000000) only [go_sem, c1]
    first | done | rfl | exact ⟨rfl, rfl⟩ | exact ⟨rfl, rfl, rfl⟩ | (refine tr_and ?_ ?_ <;> first | rfl | exact ⟨rfl, rfl⟩ | kernel_rfl)
theorem sameInts_sat (a b : List Int) (ha : a.length ≤ 9223372036854775807) : Sat Try.prog 9 [.one (.im 1 (ints a)), .one (.im 1 (ints b))] [.one (.sc (.bool (decide (a = b))))] [.one .gone, .one .gone] := by
  refine sat_of_body mixed Try.func9 rfl (by kernel_rfl) (by kernel_rfl) (rs := [.tmp 4]) rfl rfl rfl ?_
  simp -implicitDefEqProofs (maxSteps := 2000000) only [go_sem]
  refine cond_split (fun d => ?_) fun d => ?_
  · simp -implicitDefEqProofs (maxSteps := 2000000) only [go_sem]
    have d : ¬ (a.length : Int) = b.length := by simpa using d
    rw [decide_eq_false (fun h => d (by rw [h]))]
  have d : a.length = b.length := cast_ne d
  simp -implicitDefEqProofs (maxSteps := 2000000) only [go_sem]
  refine awp_loop Nat (fun k => mkSt [(0, .one (.im 1 (ints a))), (1, .one (.im 1 (ints b))), (5, .sc (.int .i64 k))] [] [] 1000)
    (fun k => k ≤ a.length ∧ a.take k = b.take k) (fun k => a.length - k) 0 ⟨by omega, rfl⟩ (le_st _ _ [] [] _ rfl (by simp -implicitDefEqProofs (maxSteps := 2000000) only [go_sem] <;> rfl) trivial trivial) ?_
  rintro k ⟨h1, h2⟩
  by_cases c1 : k < a.length
  · have c2 : k < b.length := by omega
    simp -implicitDefEqProofs (maxSteps := 2000000) only [go_sem, c1, c2]
    refine cond_split (fun e => ?_) fun e => ?_
    · simp -implicitDefEqProofs (maxSteps := 2000000) only [go_sem]
      rw [decide_eq_false (eqList_ne (by simpa using e))]
    simp -implicitDefEqProofs (maxSteps := 2000000) only [go_sem]
    rw [i64_succ (by omega)]
    exact ⟨k + 1, ⟨c1, eqList_step c1 c2 h2 (by simpa using e)⟩, by omega, (le_st _ _ [] [] _ rfl (by simp -implicitDefEqProofs (maxSteps := 2000000) only [go_sem] <;> rfl) trivial trivial)⟩
  · simp -implicitDefEqProofs (maxSteps := 2000000) only [go_sem, c1]
    rw [List.take_of_length_le (by omega), List.take_of_length_le (by omega)] at h2
    rw [decide_eq_true h2]
end Go.Proofs.Ytedciihjgbkjgaa.A


/- slices.Delete OF ONE ATOM, as a contract of the abstract semantics. Conditions: none. -/
namespace Go.Proofs.Ytedciihjgbkjgaa.A
open Go Go.RowKit Go.Lib
set_option linter.unusedSimpArgs false
set_option linter.unusedVariables false

/-! #### what lies in a block behind cells that are set -/
theorem heap_setCells (b : Nat) : ∀ (vs : List Value) (o : Nat) (w : World) (c : Array Value) (t : TypeId), w.heap[b]? = some (.cells c t (0, 0)) → o + vs.length ≤ c.size →
    ∃ c' : Array Value, (w.setCells b o vs).heap[b]? = some (.cells c' t (0, 0)) ∧ c'.size = c.size ∧ ∀ k : Nat, c'[k]? = if o ≤ k ∧ k < o + vs.length then vs[k - o]? else c[k]?
  | [], o, w, c, t, h, _ => ⟨c, h, rfl, fun k => by rw [if_neg (by simp)]⟩
  | v :: r, o, w, c, t, h, hl => by
    rw [List.length_cons] at hl
    have h1 : (w.setCell ⟨b, o, none⟩ v).heap[b]? = some (.cells (c.setIfInBounds o v) t (0, 0)) := by
      have hb : b < w.heap.size := (Array.getElem?_eq_some_iff.1 h).1
      have hv : w.heap[b] = .cells c t (0, 0) := (Array.getElem?_eq_some_iff.1 h).2
      simp [World.setCell, Array.getElem?_modify, h]
    obtain ⟨c', h2, h3, h4⟩ := heap_setCells b r (o + 1) _ _ t h1 (by simp; omega)
    refine ⟨c', h2, by simpa using h3, fun k => ?_⟩
    rw [h4 k, List.length_cons]
    by_cases e : k = o
    · subst e
      rw [if_neg (by omega), if_pos (by omega), Nat.sub_self, List.getElem?_cons_zero, Array.getElem?_setIfInBounds_self_of_lt (by omega)]
    · by_cases e2 : o + 1 ≤ k ∧ k < o + 1 + r.length
      · rw [if_pos e2, if_pos (by omega), show k - o = (k - (o + 1)) + 1 by omega, List.getElem?_cons_succ]
      · rw [if_neg e2, if_neg (by omega), Array.getElem?_setIfInBounds_ne (by omega)]
theorem heap_setCells_ne (b : Nat) {k : Nat} (h : k ≠ b) : ∀ (vs : List Value) (o : Nat) (w : World), (w.setCells b o vs).heap[k]? = w.heap[k]?
  | [], _, _ => rfl
  | v :: r, o, w => by
    rw [World.setCells, heap_setCells_ne b h r]
    simp [World.setCell, Array.getElem?_modify, Ne.symm h]
theorem setCells_rest (b : Nat) : ∀ (vs : List Value) (o : Nat) (w : World), (w.setCells b o vs).os = w.os ∧ (w.setCells b o vs).tape = w.tape ∧ (w.setCells b o vs).output = w.output ∧ (w.setCells b o vs).heap.size = w.heap.size
  | [], _, _ => ⟨rfl, rfl, rfl, rfl⟩
  | v :: r, o, w => by
    obtain ⟨h1, h2, h3, h4⟩ := setCells_rest b r (o + 1) (w.setCell ⟨b, o, none⟩ v)
    exact ⟨h1, h2, h3, by rw [World.setCells, h4]; simp [World.setCell]⟩
def zAt : List Value := [.int .i64 0, .slice none 0 0]
/-- 'clear' of one atom. -/
theorem run_clear_atom (w : World) (e ty t : TypeId) (ht : Try.prog.underlying t = some (.slice e)) (hv : ∀ w, (zeroValue e).run Try.prog w = .ok (.agg zAt.toArray) w) (b o c : Nat)
    (hc : ∀ j, j < 2 → (w.cell? ⟨b, o + j, none⟩).isSome = true) (hf : ∀ j, j < 2 → w.frozen? ⟨b, o + j, none⟩ = false) :
    (Builtin.clear_ #[t] ty #[.slice (some ⟨b, o, none⟩) 1 c]).run Try.prog w = .ok (.tuple #[]) (w.setCells b o zAt) := by
  have hst := run_storeCells_cells (P := Try.prog) b o zAt 0 w (by simpa [zAt] using hc) (by simpa [zAt] using hf) (by intro v hv'; simp [zAt] at hv'; rcases hv' with rfl | rfl <;> rfl)
  simp only [Nat.add_zero] at hst
  have hz : (Builtin.zeroCells (Value.agg zAt.toArray).cells 1).toList = zAt := by kernel_rfl
  simp [Builtin.clear_, run_underlying ht, hv, hz, hst]
/-! #### the call -/
theorem entersD {P : Program} {f : FuncId} {fn : Func} {c : Code} (hf : P.funcs[f]? = some fn) (hb : fn.body = some c) (hn : (fn.name == "runtime.NumGoroutine") = false) (vs : Array Value) (W : World) : (callFunc f vs).run P W = .ok (.enter f vs) W := by
  have h1 : fn.name ≠ "runtime.NumGoroutine" := by simpa using hn
  simp [callFunc, hf, h1, hb, Sem.run, program]
set_option maxHeartbeats 4000000 in
set_option maxRecDepth 1000000 in
theorem delAtom_calls (W : World) (b cap n i j : Nat) (c : Array Value) (t : TypeId) (hheap : W.heap[b]? = some (.cells c t (0, 0))) (hsize : c.size = cap * 2) (hn : n ≤ cap) (hi : i < j) (hj : j ≤ n) (hji : j = i + 1) (hb : n ≤ 9223372036854775806) (h1c : ∀ k, k < n * 2 → ∀ u, c[k]? = some u → u.oneCell' = true) :
    Calls Try.prog 55 #[.slice (some ⟨b, 0, none⟩) n cap, .int .i64 i, .int .i64 j] W fun e w' => e = .returned (.slice (some ⟨b, 0, none⟩) (n - 1) cap) ∧
      ∃ q, w' = ((Go.Sort.ahead W q).setCells b (i * 2) ((c.toList.drop (j * 2)).take ((n - j) * 2))).setCells b ((n - 1) * 2) zAt := by
  obtain ⟨news, hnews⟩ : ∃ news, news = (c.toList.drop (j * 2)).take ((n - j) * 2) := ⟨_, rfl⟩
  rw [← hnews]
  have hlen : news.length = (n - j) * 2 := by rw [hnews]; simp; omega
  have hcell : ∀ k, W.cell? ⟨b, k, none⟩ = c[k]? := fun k => cell_cells hheap
  have hget : ∀ t, t < (n - j) * 2 → news[t]? = c[j * 2 + t]? := by
    intro t ht
    rw [hnews, List.getElem?_take, if_pos ht, List.getElem?_drop, Array.getElem?_toList]
  obtain ⟨A, hA, hsrc⟩ : ∃ A : Addr, (if cap = j then some (⟨b, 0, none⟩ : Addr) else some ⟨b, j * 2, none⟩) = some A ∧ Hid (∀ t u, news[t]? = some u → W.drew.cell? (A.add t) = some u) := by
    by_cases h : cap = j
    · refine ⟨⟨b, 0, none⟩, by simp [h], fun t u hu => ?_⟩
      have h0 : news.length = 0 := by rw [hlen]; omega
      rw [List.length_eq_zero_iff.1 h0] at hu
      simp at hu
    · refine ⟨⟨b, j * 2, none⟩, by simp [h], fun t u hu => ?_⟩
      have ht : t < (n - j) * 2 := by
        have := (List.getElem?_eq_some_iff.1 hu).1
        rwa [hlen] at this
      rw [hget t ht] at hu
      rw [Addr.add_lit]
      exact (hcell _).trans hu
  have hfz : ∀ k, W.frozen? ⟨b, k, none⟩ = false := by intro k; simp [World.frozen?, hheap]
  have hsome : ∀ k, k < cap * 2 → (W.cell? ⟨b, k, none⟩).isSome = true := by
    intro k hk
    rw [hcell, Array.getElem?_eq_getElem (by omega)]; rfl
  have s1 : Hid (news.length = (n - j) * 2) := hlen
  have s2 : Hid (∀ u ∈ news, u.oneCell' = true) := by
    intro u hu
    obtain ⟨t, ht, e⟩ := List.mem_iff_getElem.mp hu
    have h2 : news[t]? = some u := by rw [List.getElem?_eq_getElem ht, e]
    rw [hget t (by omega)] at h2
    exact h1c _ (by omega) _ h2
  have s3 : Hid (∀ t, t < news.length → (W.drew.cell? ⟨b, 0 + i * 2 + t, none⟩).isSome = true ∧ W.drew.frozen? ⟨b, 0 + i * 2 + t, none⟩ = false) := by
    intro t ht
    rw [hlen] at ht
    exact ⟨hsome _ (by omega), hfz _⟩
  obtain ⟨W1, hW1⟩ : ∃ W1, W1 = W.drew.setCells b (0 + i * 2) news := ⟨_, rfl⟩
  obtain ⟨c1, k1, k2, k3⟩ := heap_setCells b news (0 + i * 2) W.drew c t hheap (by rw [hlen]; omega)
  rw [← hW1] at k1
  have hcl : ∀ ty, (Builtin.clear_ #[25] ty #[.slice (some ⟨b, (i + (n - j)) * 2, none⟩) (n - (i + (n - j))) (cap - (i + (n - j)))]).run Try.prog W1 = .ok (.tuple #[]) (W1.setCells b ((i + (n - j)) * 2) zAt) := by
    intro ty
    rw [show n - (i + (n - j)) = 1 by omega]
    refine run_clear_atom W1 52 ty 25 Try.underlying25 Try.zeroValue52 b _ _ (fun j hj => ?_) (fun j hj => ?_)
    · rw [cell_cells k1, Array.getElem?_eq_getElem (by omega)]; rfl
    · simp [World.frozen?, k1]
  have hW : Hid (W1 = W.drew.setCells b (0 + i * 2) news) := hW1
  have hic : i ≤ cap := by omega
  have hjc : j ≤ cap := by omega
  have J : Hid (j = i + 1) := hji
  have hlt : i < n := by omega
  have hz : (Try.prog.info? 52).map (·.size) = some 2 := by kernel_rfl
  obtain ⟨i0, hi0, hz1⟩ := Option.map_eq_some_iff.mp hz
  clear hz
  clear hget hcell hsome hfz k3 hnews hlen hW1 k1 k2 hji hheap hsize h1c
  have mixed := mixed
  go_enter Try.func55, Try.ntmps55
  go_wp2_with fail
  go_region_law_o (refine step_append_room rfl (.tmp 22) (.tmp 25) 25 rfl 52 i0 2 Try.underlying25 hi0 hz1 b 0 i cap (by simp [Act.eval, Act.put]) A (n - j) (cap - j) news (by simp [Act.eval, Act.put]) s1.out hsrc.out s2.out (by omega) s3.out ?_; rw [← hW.out])
  go_wp2
  go_ret
  have j1 := J.out
  refine ⟨by rw [show n - 1 = i + (n - j) by omega]; rfl, 1, ?_⟩
  rw [hW.out, show n - 1 = i + (n - j) by omega, Nat.zero_add]
  rfl
/-! #### the contract -/
theorem ris_erase (s : Nat) (l : List RI) (i : Nat) : (ris s l).eraseIdx i = ris s (l.eraseIdx i) := by
  unfold ris
  refine List.ext_getElem? fun m => ?_
  rw [List.getElem?_eraseIdx, List.getElem?_map, List.getElem?_map, List.getElem?_map, List.getElem?_eraseIdx]
  split <;> rfl
def delL (i : Nat) : Lab → Lab
  | .own 0 => .own 4096
  | .inn 0 p j => if p < i then .inn 4096 p j else if p = i then .far else .inn 4096 (p - 1) j
  | L => L
theorem delL_inn {i p j : Nat} : delL i (.inn 0 (if p < i then p else p + 1) j) = .inn 4096 p j := by
  unfold delL
  by_cases h : p < i
  · rw [if_pos h]; simp [h]
  · rw [if_neg h]; simp only; rw [if_neg (by omega), if_neg (by omega), Nat.add_sub_cancel]
set_option maxHeartbeats 4000000 in
theorem delAtom_sat (rows : List RI) (i : Nat) (hi : i < rows.length) (hl : rows.length ≤ 1048576) :
    Sat Try.prog 55 [oRIs rows, lInt i, lInt ((i + 1 : Nat) : Int)] [oRIs (rows.eraseIdx i)] [g1, g1, g1] := by
  refine ⟨rfl, rfl, fun W lab vs hdead hrep => ?_⟩
  unfold CallF
  rw [entersD Try.func55 rfl (by kernel_rfl)]
  simp only
  rcases vs with _ | ⟨v0, _ | ⟨v1, _ | ⟨v2, _ | ⟨_, _⟩⟩⟩⟩
  · exact hrep.elim
  · exact hrep.2.elim
  · exact hrep.2.2.elim
  rotate_left
  · exact hrep.2.2.2.elim
  obtain ⟨⟨⟨hw, hrow, hc⟩, -⟩, h1, h2, -⟩ := hrep
  obtain rfl : v1 = .int .i64 i := h1
  obtain rfl : v2 = .int .i64 ((i + 1 : Nat) : Int) := h2
  have hlen : (ris 1 rows).length = rows.length := ris_length _ _
  rcases hc with ⟨A, -, hn⟩ | ⟨b, cap, c, t, rfl, hcap, hlab, hheap, hsize, hcell⟩
  · rw [hn] at hlen; simp at hlen; omega
  rw [hlen] at hcap ⊢
  have hget : ∀ p, p < rows.length → (ris 1 rows)[p]? = some (cRI 1 (rows.getD p default)) := by
    intro p hp
    simp [ris, List.getD_eq_getElem?_getD, hp]
  have hone : ∀ k, k < rows.length * 2 → ∀ u, c[k]? = some u → u.oneCell' = true := by
    intro k hk u hu
    have hp : k / 2 < rows.length := by omega
    have hq : k % 2 < (cRI 1 (rows.getD (k / 2) default)).length := by show k % 2 < 2; omega
    obtain ⟨v, g1, g2⟩ := hcell (k / 2) (k % 2) _ _ (hget _ hp) (List.getElem?_eq_getElem hq)
    rw [show k / 2 * 2 + k % 2 = k by omega, hu] at g1
    cases g1
    exact ownCell_one g2
  refine (delAtom_calls W b cap rows.length i (i + 1) c t hheap hsize hcap (by omega) (by omega) rfl (by omega) hone).mono ?_
  rintro e w' ⟨rfl, q, hw'⟩
  have hnl : ((c.toList.drop ((i + 1) * 2)).take ((rows.length - (i + 1)) * 2)).length = (rows.length - (i + 1)) * 2 := by simp; omega
  obtain ⟨c1, k1, k2, k3⟩ := heap_setCells b ((c.toList.drop ((i + 1) * 2)).take ((rows.length - (i + 1)) * 2)) (i * 2) (Go.Sort.ahead W q) c t hheap (by rw [hnl]; omega)
  obtain ⟨c2, m1, m2, m3⟩ := heap_setCells b zAt ((rows.length - 1) * 2) _ c1 t k1 (by show _ + 2 ≤ _; omega)
  rw [← hw'] at m1
  have hbs : b < W.heap.size := (Array.getElem?_eq_some_iff.mp hheap).1
  have hother : ∀ k, k ≠ b → w'.heap[k]? = W.heap[k]? := by
    intro k hk
    rw [hw', heap_setCells_ne b hk, heap_setCells_ne b hk]; rfl
  obtain ⟨r1, r2, r3, r4⟩ := setCells_rest b zAt ((rows.length - 1) * 2) ((Go.Sort.ahead W q).setCells b (i * 2) ((c.toList.drop ((i + 1) * 2)).take ((rows.length - (i + 1)) * 2)))
  obtain ⟨r5, r6, r7, r8⟩ := setCells_rest b ((c.toList.drop ((i + 1) * 2)).take ((rows.length - (i + 1)) * 2)) (i * 2) (Go.Sort.ahead W q)
  rw [← hw'] at r1 r2 r3 r4
  have hel : (rows.eraseIdx i).length = rows.length - 1 := List.length_eraseIdx_of_lt hi
  have hc2 : ∀ p j, p < rows.length - 1 → j < 2 → c2[p * 2 + j]? = c[(if p < i then p else p + 1) * 2 + j]? := by
    intro p j hp hj
    rw [m3, if_neg (by omega), k3, hnl]
    by_cases h : p < i
    · rw [if_neg (by omega), if_pos h]
    · rw [if_pos (by omega), if_neg h, List.getElem?_take, if_pos (by omega), List.getElem?_drop, Array.getElem?_toList]
      congr 1; omega
  refine ⟨_, rfl, fun k => delL i (lab k), ⟨⟨hw, fun r hr => ?_, .inr ⟨b, cap, c2, t, by rw [ris_length, hel], by rw [ris_length, hel]; omega, by simp only [hlab]; rfl, m1, by rw [m2, k2, hsize], fun p j r x hp hj => ?_⟩⟩, ?_⟩, ⟨trivial, trivial, trivial, trivial⟩, ?_⟩
  · obtain ⟨x, -, rfl⟩ := List.mem_map.mp hr; rfl
  · have hpl : p < rows.length - 1 := by
      have := (List.getElem?_eq_some_iff.mp hp).1
      rwa [ris_length, hel] at this
    have hsrc : (ris 1 rows)[if p < i then p else p + 1]? = some r := by
      rw [← hp, ← ris_erase, List.getElem?_eraseIdx]
      split <;> rfl
    have hj2 : j < 2 := by
      have := (List.getElem?_eq_some_iff.mp hj).1
      obtain ⟨x, -, rfl⟩ := List.mem_map.mp (List.mem_of_getElem? hp)
      exact this
    obtain ⟨v, g1, g2⟩ := hcell _ j r x hsrc hj
    refine ⟨v, by rw [hc2 p j hpl hj2]; exact g1, ?_⟩
    cases x with
    | sc x => exact g2
    | gone => exact g2
    | sl s xs => cases s with
      | zero =>
        obtain ⟨A, cp, f1, f2, f3⟩ := g2
        refine ⟨A, cp, f1, f2, fun hne => ?_⟩
        obtain ⟨bb, o, f4, f5, f6⟩ := f3 hne
        exact ⟨bb, o, f4, by simp only [f5]; rfl, fun k x hk => by
          rw [cell_of_block (hother bb (by rintro rfl; rw [hlab] at f5; cases f5))]; exact f6 k x hk⟩
      | succ s =>
        rcases g2 with ⟨A, f1, f2⟩ | ⟨bb, cp, cc, tt, f1, f2, f3, f4, f5, f6⟩
        · exact .inl ⟨A, f1, f2⟩
        · exact .inr ⟨bb, cp, cc, tt, f1, f2, by simp only [f3]; exact delL_inn, by rw [hother bb (by rintro rfl; rw [hlab] at f3; cases f3)]; exact f4, f5, f6⟩
  · exact ris_rst 0 _
  · refine ⟨by rw [r1, r5]; rfl, by rw [r2, r6]; rfl, by rw [r3, r7]; rfl, by rw [r4, r8]; exact Nat.le_refl _, fun k hk hl => ?_, fun k hk => ?_⟩
    · refine ⟨by rcases hl with hl | hl <;> simp only [hl] <;> rfl, hother k ?_⟩
      rintro rfl
      rw [hlab] at hl
      rcases hl with hl | hl <;> cases hl
    · rw [r4, r8] at hk
      simp only [hdead k hk]; rfl
end Go.Proofs.Ytedciihjgbkjgaa.A


/- AN ATOM IS REMOVED. Conditions: none. -/
namespace Go.Proofs.Ytedciihjgbkjgaa.A
open Go
set_option linter.unusedSimpArgs false
set_option linter.unusedVariables false
set_option maxRecDepth 100000

theorem take_app {α : Type} (a b : List α) : List.take (a.length + b.length) (a ++ b) = a ++ b := List.take_of_length_le (by rw [List.length_append]; exact Nat.le_refl _)
def remIn (q : Qu) (k : Int) : Bool := inB k 0 ((q.atoms.length : Int) - 1)
def remQ (q : Qu) (k : Int) : Qu := if remIn q k then ⟨q.vc, q.atoms.eraseIdx k.toNat, q.free⟩ else q
theorem remQ_ok {q : Qu} (k : Int) (h : q.ok) : (remQ q k).ok := by
  unfold remQ
  split
  · obtain ⟨⟨h1, h2⟩, h3⟩ := h
    refine ⟨⟨?_, fun x hx => h2 x (List.mem_of_mem_eraseIdx hx)⟩, h3⟩
    have := List.length_eraseIdx_le q.atoms k.toNat
    show (q.atoms.eraseIdx k.toNat).length ≤ _
    omega
  · exact h
theorem implRemoveAtom_sat (q : Qu) (k : Int) (h : q.ok) : Sat Try.prog 24 [lQu q, lInt k] [oQu (remQ q k)] [g3, g1] := by
  refine sat_of_body mixed Try.func24 rfl (by kernel_rfl) (by kernel_rfl) (rs := [.cell 4 28]) rfl rfl rfl ?_
  have hl := h.1.1
  have w0 : IntKind.i64.wrap ((q.atoms.length : Int) - 1) = (q.atoms.length : Int) - 1 := IntWalk.i64_in _ (by omega)
  unfold remQ
  rcases e : remIn q k
  · have e' : inB k 0 ((q.atoms.length : Int) - 1) = false := e
    simp -implicitDefEqProofs (maxSteps := 2000000) only [go_sem]
    refine call_of (implCopyQuery_sat q h) (by simp -implicitDefEqProofs (maxSteps := 2000000) only [go_sem, w0]) (callOk_still (by kernel_rfl) (by simp only [List.all_cons, List.all_nil, LV.still, LV.leaves, Leaf.still, ints_still, ris_still, eds_still, rels_still, iss_still, ems_still, Bool.and_self, Bool.and_true])) (by simp -implicitDefEqProofs (maxSteps := 2000000) only [go_sem, w0]) ?_
    simp -implicitDefEqProofs (maxSteps := 2000000) only [go_sem, w0]
    refine call_of (inW_sat k 0 ((q.atoms.length : Int) - 1)) (by simp -implicitDefEqProofs (maxSteps := 2000000) only [go_sem, w0, e']) (by kernel_rfl) (by simp -implicitDefEqProofs (maxSteps := 2000000) only [go_sem, w0, e']) ?_
    simp -implicitDefEqProofs (maxSteps := 2000000) only [go_sem, w0, e']
    exact (by kernel_rfl)
  have e' : inB k 0 ((q.atoms.length : Int) - 1) = true := e
  obtain ⟨b1, b2⟩ := inB_of e'
  obtain ⟨n, rfl⟩ : ∃ n : Nat, k = n := ⟨k.toNat, by omega⟩
  have wn : IntKind.i64.wrap ((n : Int) + 1) = ((n + 1 : Nat) : Int) := i64_succ (by omega)
  have hn : n < q.atoms.length := by omega
  simp -implicitDefEqProofs (maxSteps := 2000000) only [go_sem]
  refine call_of (implCopyQuery_sat q h) (by simp -implicitDefEqProofs (maxSteps := 2000000) only [go_sem, w0]) (callOk_still (by kernel_rfl) (by simp only [List.all_cons, List.all_nil, LV.still, LV.leaves, Leaf.still, ints_still, ris_still, eds_still, rels_still, iss_still, ems_still, Bool.and_self, Bool.and_true])) (by simp -implicitDefEqProofs (maxSteps := 2000000) only [go_sem, w0]) ?_
  simp -implicitDefEqProofs (maxSteps := 2000000) only [go_sem, w0]
  refine call_of (inW_sat n 0 ((q.atoms.length : Int) - 1)) (by simp -implicitDefEqProofs (maxSteps := 2000000) only [go_sem, w0, e', wn]) (by kernel_rfl) (by simp -implicitDefEqProofs (maxSteps := 2000000) only [go_sem, w0, e', wn]) ?_
  simp -implicitDefEqProofs (maxSteps := 2000000) only [go_sem, w0, e', wn]
  refine call_of (delAtom_sat q.atoms n hn (by omega)) (by simp -implicitDefEqProofs (maxSteps := 2000000) only [go_sem, wn]) (callOk_still (by kernel_rfl) (by simp only [List.all_cons, List.all_nil, LV.still, LV.leaves, Leaf.still, ints_still, ris_still, eds_still, rels_still, iss_still, ems_still, Bool.and_self, Bool.and_true])) (by simp -implicitDefEqProofs (maxSteps := 2000000) only [go_sem, wn]) ?_
  simp -implicitDefEqProofs (maxSteps := 2000000) only [go_sem, wn]
  rw [Int.toNat_natCast]
  exact ⟨rfl, by kernel_rfl⟩
abbrev sQr (q : Qu) : List SV := [.sc (.int .i64 q.vc), .im 2 (ris 0 q.atoms), .im 1 (ints q.free)]
abbrev zQr : List SV := [.sc (.int .i64 0), .sc (.slice none 0 0), .sc (.slice none 0 0)]
/-- Of a query that is only read; what comes back is only read. -/
theorem specRemoveAtom_sat (q : Qu) (k : Int) (h : q.ok) : Sat Try.prog 22 [lQu q, lInt k] [lQu (remQ q k)] [g3, g1] := by
  refine sat_of_bodyB Try.func22 rfl (by kernel_rfl) (rs := [.cell 4 28]) rfl rfl rfl ?_
  have hl := h.1.1
  have w0 : IntKind.i64.wrap ((q.atoms.length : Int) - 1) = (q.atoms.length : Int) - 1 := IntWalk.i64_in _ (by omega)
  have s0 := specCopy_sat q h
  refine bwp_seq mixed (by kernel_rfl) ?_
  simp -implicitDefEqProofs (maxSteps := 2000000) only [go_sem]
  refine bwp_seq mixed (by kernel_rfl) ?_
  simp -implicitDefEqProofs (maxSteps := 2000000) only [go_sem]
  refine call_of (s0) (by simp -implicitDefEqProofs (maxSteps := 2000000) only [go_sem]) (callOk_still (by kernel_rfl) (by simp only [List.all_cons, List.all_nil, LV.still, LV.leaves, Leaf.still, ints_still, ris_still, eds_still, rels_still, iss_still, ems_still, Bool.and_self, Bool.and_true])) (by simp -implicitDefEqProofs (maxSteps := 2000000) only [go_sem]) ?_
  simp -implicitDefEqProofs (maxSteps := 2000000) only [go_sem]
  refine bwp_le (st' := mkSt [(1, .sc (.int .i64 k)), (2, .one (.vad 1000 0)), (4, .one (.vad 1064 0)), (5, .one (.vad 1256 0))] [(1000, sQr q), (1064, zQr), (1256, sQr q)] [] 4000) (le_st' _ _ [] [1193, 1194] _ (by simp -implicitDefEqProofs (maxSteps := 2000000) only [go_sem, ris_frz, ints_frz] <;> and_intros <;> first | rfl | exact List.mem_singleton_self _ | decide | (refine ⟨_, rfl, Eq.symm ?_⟩; simp -implicitDefEqProofs (maxSteps := 2000000) only [go_sem, ris_frz, ints_frz]; done) | (refine ⟨_, rfl, Eq.symm ?_⟩; simp -implicitDefEqProofs (maxSteps := 2000000) only [go_sem, ris_frz, ints_frz]; rfl)) (by simp -implicitDefEqProofs (maxSteps := 2000000) only [go_sem, ris_frz, ints_frz] <;> and_intros <;> first | rfl | exact List.mem_singleton_self _ | decide | (refine ⟨_, rfl, Eq.symm ?_⟩; simp -implicitDefEqProofs (maxSteps := 2000000) only [go_sem, ris_frz, ints_frz]; done) | (refine ⟨_, rfl, Eq.symm ?_⟩; simp -implicitDefEqProofs (maxSteps := 2000000) only [go_sem, ris_frz, ints_frz]; rfl)) (by simp -implicitDefEqProofs (maxSteps := 2000000) only [go_sem, ris_frz, ints_frz] <;> and_intros <;> rfl) (by rfl)) ?_
  refine bwp_awp mixed (by kernel_rfl) ?_
  simp -implicitDefEqProofs (maxSteps := 2000000) only [go_sem]
  unfold remQ
  rcases e : remIn q k
  · have e' : inB k 0 ((q.atoms.length : Int) - 1) = false := e
    refine call_of (inB_sat k 0 ((q.atoms.length : Int) - 1)) (by simp -implicitDefEqProofs (maxSteps := 2000000) only [go_sem, w0, e']) (by kernel_rfl) (by simp -implicitDefEqProofs (maxSteps := 2000000) only [go_sem, w0, e']) ?_
    simp -implicitDefEqProofs (maxSteps := 2000000) only [go_sem, w0, e']
    first | done | rfl | exact ⟨rfl, rfl⟩ | exact ⟨rfl, rfl, rfl⟩ | (refine tr_and ?_ ?_ <;> first | rfl | exact ⟨rfl, rfl⟩ | kernel_rfl)
  have e' : inB k 0 ((q.atoms.length : Int) - 1) = true := e
  obtain ⟨b1, b2⟩ := inB_of e'
  obtain ⟨n, rfl⟩ : ∃ n : Nat, k = n := ⟨k.toNat, by omega⟩
  have wn : IntKind.i64.wrap ((n : Int) + 1) = ((n + 1 : Nat) : Int) := i64_succ (by omega)
  have hn : n < q.atoms.length := by omega
  have eE : q.atoms.eraseIdx ((n : Int)).toNat = List.take n q.atoms ++ List.drop (n + 1) q.atoms := by rw [Int.toNat_natCast, List.eraseIdx_eq_take_drop_succ]
  refine call_of (inB_sat n 0 ((q.atoms.length : Int) - 1)) (by simp -implicitDefEqProofs (maxSteps := 2000000) only [go_sem, w0, e', wn]) (by kernel_rfl) (by simp -implicitDefEqProofs (maxSteps := 2000000) only [go_sem, w0, e', wn]) ?_
  simp -implicitDefEqProofs (maxSteps := 2000000) only [go_sem, w0, e', wn]
  have a1 : (List.take n q.atoms).length = n := by rw [List.length_take]; omega
  have a2 : (List.drop (n + 1) q.atoms).length = q.atoms.length - (n + 1) := List.length_drop
  repeat (refine And.intro (by omega) ?_)
  refine tr_and (by kernel_rfl) ⟨?_, by kernel_rfl⟩
  rw [eE, take_app]
/-- Of a query that is handed over; what comes back is only read. -/
theorem specRemoveAtom_ow (q : Qu) (k : Int) (h : q.ok) : Sat Try.prog 22 [oQu q, lInt k] [lQu (remQ q k)] [g3, g1] := by
  refine sat_of_bodyB Try.func22 rfl (by kernel_rfl) (rs := [.cell 4 28]) rfl rfl rfl ?_
  have hl := h.1.1
  have w0 : IntKind.i64.wrap ((q.atoms.length : Int) - 1) = (q.atoms.length : Int) - 1 := IntWalk.i64_in _ (by omega)
  have s0 := specCopy_sat q h
  refine bwp_seq mixed (by kernel_rfl) ?_
  simp -implicitDefEqProofs (maxSteps := 2000000) only [go_sem]
  refine bwp_seq mixed (by kernel_rfl) ?_
  simp -implicitDefEqProofs (maxSteps := 2000000) only [go_sem]
  refine call_of (s0) (by simp -implicitDefEqProofs (maxSteps := 2000000) only [go_sem]) (callOk_still (by kernel_rfl) (by simp only [List.all_cons, List.all_nil, LV.still, LV.leaves, Leaf.still, ints_still, ris_still, eds_still, rels_still, iss_still, ems_still, Bool.and_self, Bool.and_true])) (by simp -implicitDefEqProofs (maxSteps := 2000000) only [go_sem]) ?_
  simp -implicitDefEqProofs (maxSteps := 2000000) only [go_sem]
  refine bwp_le (st' := mkSt [(1, .sc (.int .i64 k)), (2, .one (.vad 1000 0)), (4, .one (.vad 1064 0)), (5, .one (.vad 1256 0))] [(1000, sQr q), (1064, zQr), (1256, sQr q)] [] 4000) (le_st' _ _ [] [1, 2, 1193, 1194] _ (by simp -implicitDefEqProofs (maxSteps := 2000000) only [go_sem, ris_frz, ints_frz] <;> and_intros <;> first | rfl | exact List.mem_singleton_self _ | decide | (refine ⟨_, rfl, Eq.symm ?_⟩; simp -implicitDefEqProofs (maxSteps := 2000000) only [go_sem, ris_frz, ints_frz]; done) | (refine ⟨_, rfl, Eq.symm ?_⟩; simp -implicitDefEqProofs (maxSteps := 2000000) only [go_sem, ris_frz, ints_frz]; rfl)) (by simp -implicitDefEqProofs (maxSteps := 2000000) only [go_sem, ris_frz, ints_frz] <;> and_intros <;> first | rfl | exact List.mem_singleton_self _ | decide | (refine ⟨_, rfl, Eq.symm ?_⟩; simp -implicitDefEqProofs (maxSteps := 2000000) only [go_sem, ris_frz, ints_frz]; done) | (refine ⟨_, rfl, Eq.symm ?_⟩; simp -implicitDefEqProofs (maxSteps := 2000000) only [go_sem, ris_frz, ints_frz]; rfl)) (by simp -implicitDefEqProofs (maxSteps := 2000000) only [go_sem, ris_frz, ints_frz] <;> and_intros <;> rfl) (by rfl)) ?_
  refine bwp_awp mixed (by kernel_rfl) ?_
  simp -implicitDefEqProofs (maxSteps := 2000000) only [go_sem]
  unfold remQ
  rcases e : remIn q k
  · have e' : inB k 0 ((q.atoms.length : Int) - 1) = false := e
    refine call_of (inB_sat k 0 ((q.atoms.length : Int) - 1)) (by simp -implicitDefEqProofs (maxSteps := 2000000) only [go_sem, w0, e']) (by kernel_rfl) (by simp -implicitDefEqProofs (maxSteps := 2000000) only [go_sem, w0, e']) ?_
    simp -implicitDefEqProofs (maxSteps := 2000000) only [go_sem, w0, e']
    first | done | rfl | exact ⟨rfl, rfl⟩ | exact ⟨rfl, rfl, rfl⟩ | (refine tr_and ?_ ?_ <;> first | rfl | exact ⟨rfl, rfl⟩ | kernel_rfl)
  have e' : inB k 0 ((q.atoms.length : Int) - 1) = true := e
  obtain ⟨b1, b2⟩ := inB_of e'
  obtain ⟨n, rfl⟩ : ∃ n : Nat, k = n := ⟨k.toNat, by omega⟩
  have wn : IntKind.i64.wrap ((n : Int) + 1) = ((n + 1 : Nat) : Int) := i64_succ (by omega)
  have hn : n < q.atoms.length := by omega
  have eE : q.atoms.eraseIdx ((n : Int)).toNat = List.take n q.atoms ++ List.drop (n + 1) q.atoms := by rw [Int.toNat_natCast, List.eraseIdx_eq_take_drop_succ]
  refine call_of (inB_sat n 0 ((q.atoms.length : Int) - 1)) (by simp -implicitDefEqProofs (maxSteps := 2000000) only [go_sem, w0, e', wn]) (by kernel_rfl) (by simp -implicitDefEqProofs (maxSteps := 2000000) only [go_sem, w0, e', wn]) ?_
  simp -implicitDefEqProofs (maxSteps := 2000000) only [go_sem, w0, e', wn]
  have a1 : (List.take n q.atoms).length = n := by rw [List.length_take]; omega
  have a2 : (List.drop (n + 1) q.atoms).length = q.atoms.length - (n + 1) := List.length_drop
  repeat (refine And.intro (by omega) ?_)
  refine tr_and (by kernel_rfl) ⟨?_, by kernel_rfl⟩
  rw [eE, take_app]
end Go.Proofs.Ytedciihjgbkjgaa.A


/- EqualQueries. Conditions: none. -/
namespace Go.Proofs.Ytedciihjgbkjgaa.A
open Go
set_option linter.unusedSimpArgs false
set_option linter.unusedVariables false
set_option maxRecDepth 100000

theorem specEqualQueries_sat (a b : Qu) (h : a.fit) : Sat Try.prog 34 [lQu a, lQu b] [lBool (decide (a = b))] [g3, g3] := by
  refine sat_of_body mixed Try.func34 rfl (by kernel_rfl) (by kernel_rfl) (rs := [.tmp 4]) rfl rfl rfl ?_
  rw [Qu.eq_iff]
  simp -implicitDefEqProofs (maxSteps := 2000000) only [go_sem]
  rcases d1 : a.vc != b.vc
  case true =>
    have e1 : ¬ a.vc = b.vc := by simpa using d1
    simp -implicitDefEqProofs (maxSteps := 2000000) only [go_sem, d1, e1, decide_false]
  have e1 : decide (a.vc = b.vc) = true := by simpa using d1
  simp -implicitDefEqProofs (maxSteps := 2000000) only [go_sem, d1, e1]
  refine call_of (l3Ints_sat a.free b.free h.2) (by simp -implicitDefEqProofs (maxSteps := 2000000) only [go_sem]) (by kernel_rfl) (by simp -implicitDefEqProofs (maxSteps := 2000000) only [go_sem]) ?_
  simp -implicitDefEqProofs (maxSteps := 2000000) only [go_sem]
  rw [cmp_bne]
  rcases d2 : decide (a.free = b.free)
  · simp -implicitDefEqProofs (maxSteps := 2000000) only [go_sem, d2]
  simp -implicitDefEqProofs (maxSteps := 2000000) only [go_sem, d2]
  refine cond_split (fun d3 => ?_) fun d3 => ?_
  · simp -implicitDefEqProofs (maxSteps := 2000000) only [go_sem]
    have d3 : ¬ (a.atoms.length : Int) = b.atoms.length := by simpa using d3
    rw [decide_eq_false (fun h => d3 (by rw [h]))]
  have d3 : a.atoms.length = b.atoms.length := cast_ne d3
  simp -implicitDefEqProofs (maxSteps := 2000000) only [go_sem]
  refine awp_loop Nat (fun k => mkSt [(2, .one (.vad 1000 0)), (3, .one (.vad 1064 0)), (5, .sc (.int .i64 k))] [(1000, sQu a), (1064, sQu b)] [] 2000)
    (fun k => k ≤ a.atoms.length ∧ a.atoms.take k = b.atoms.take k) (fun k => a.atoms.length - k) 0 ⟨by omega, rfl⟩ (le_st _ _ [] [] _ rfl (by simp -implicitDefEqProofs (maxSteps := 2000000) only [go_sem] <;> rfl) (by simp -implicitDefEqProofs (maxSteps := 2000000) only [go_sem] <;> rfl) (by simp -implicitDefEqProofs (maxSteps := 2000000) only [go_sem] <;> rfl)) ?_
  rintro k ⟨h1, h2⟩
  by_cases c1 : k < a.atoms.length
  · have c2 : k < b.atoms.length := by omega
    simp -implicitDefEqProofs (maxSteps := 2000000) only [go_sem, c1, c2]
    rcases d4 : (a.atoms.getD k default).r != (b.atoms.getD k default).r
    case true =>
      simp -implicitDefEqProofs (maxSteps := 2000000) only [go_sem, d4]
      rw [decide_eq_false (list_ne (d := default) (k := k) (fun h => by rw [h] at d4; simp at d4))]
    simp -implicitDefEqProofs (maxSteps := 2000000) only [go_sem, d4, c1, c2]
    refine call_of (l3Ints_sat (a.atoms.getD k default).l (b.atoms.getD k default).l (h.1.2 _ (mem_getD _ c1))) (by simp -implicitDefEqProofs (maxSteps := 2000000) only [go_sem, d4, c1, c2]) (by kernel_rfl) (by simp -implicitDefEqProofs (maxSteps := 2000000) only [go_sem, d4, c1, c2]) ?_
    simp -implicitDefEqProofs (maxSteps := 2000000) only [go_sem, d4, c1, c2]
    rw [cmp_bne]
    rcases d5 : decide ((a.atoms.getD k default).l = (b.atoms.getD k default).l)
    · simp -implicitDefEqProofs (maxSteps := 2000000) only [go_sem, d5]
      rw [decide_eq_false (list_ne (d := default) (k := k) (fun h => by rw [h] at d5; simp at d5))]
    simp -implicitDefEqProofs (maxSteps := 2000000) only [go_sem, d5]
    rw [i64_succ (by have := h.1.1; omega)]
    refine ⟨k + 1, ⟨c1, list_step default c1 c2 h2 ?_⟩, by omega, (le_st _ _ [] [] _ rfl (by simp -implicitDefEqProofs (maxSteps := 2000000) only [go_sem] <;> rfl) (by simp -implicitDefEqProofs (maxSteps := 2000000) only [go_sem] <;> rfl) (by simp -implicitDefEqProofs (maxSteps := 2000000) only [go_sem] <;> rfl))⟩
    have h := RI.eq_iff (a.atoms.getD k default) (b.atoms.getD k default)
    rw [d5, show decide ((a.atoms.getD k default).r = (b.atoms.getD k default).r) = true by simpa using d4] at h
    simpa using h
  · simp -implicitDefEqProofs (maxSteps := 2000000) only [go_sem, c1]
    rw [List.take_of_length_le (by omega), List.take_of_length_le (by omega)] at h2
    rw [decide_eq_true h2]
end Go.Proofs.Ytedciihjgbkjgaa.A


/- THE WALK OF THE LAW FnAtoms. Conditions: none. -/
namespace Go.Proofs.Ytedciihjgbkjgaa.A
open Go
set_option linter.unusedSimpArgs false
set_option linter.unusedVariables false
set_option maxRecDepth 100000
theorem bigT_sat (b : List Int) (h : b.length ≤ 9223372036854775807) : Sat Try.prog 6 [lBys b] [lBool (decide ((b.length : Int) > 1048576))] [g1] := by
  refine sat_of_body mixed Try.func6 rfl (by kernel_rfl) (by kernel_rfl) (rs := [.tmp 2]) rfl rfl rfl ?_
  simp -implicitDefEqProofs (maxSteps := 2000000) only [go_sem]
theorem keyVars_sub (l : List Rel) (a : RI) : ∀ x ∈ keyVars l a, x ∈ varsOf a.l := by
  unfold keyVars
  split
  · intro x hx
    unfold varsOf at hx ⊢
    rw [selN_mem] at hx ⊢
    refine ⟨hx.1, hx.2.1, ?_⟩
    have := hx.2.2
    simp only [decide_eq_true_eq] at this ⊢
    exact List.mem_of_mem_take this
  · intro x hx; cases hx
set_option maxHeartbeats 8000000 in
/-- THE LAW FnAtoms. -/
theorem lawAtoms_sat (b : List Int) (h : b.length ≤ 9223372036854775807) : Sat Try.prog 5 [lBys b] [lBool true] [g1] := by
  refine sat_of_bodyB Try.func5 rfl (by kernel_rfl) (rs := [.tmp 2]) rfl rfl rfl ?_
  refine bwp_seq mixed (by kernel_rfl) ?_
  simp -implicitDefEqProofs (maxSteps := 2000000) only [go_sem]
  refine bwp_seq mixed (by kernel_rfl) ?_
  simp -implicitDefEqProofs (maxSteps := 2000000) only [go_sem]
  refine call_of (bigT_sat b h) (by simp -implicitDefEqProofs (maxSteps := 2000000) only [go_sem]) (by kernel_rfl) (by simp -implicitDefEqProofs (maxSteps := 2000000) only [go_sem]) ?_
  simp -implicitDefEqProofs (maxSteps := 2000000) only [go_sem]
  refine cond_split (fun e0 => ?_) fun e0 => ?_
  · simp -implicitDefEqProofs (maxSteps := 2000000) only [go_sem]
  have o0 : b.length ≤ 1048576 := by have := of_decide_eq_false e0; omega
  simp -implicitDefEqProofs (maxSteps := 2000000) only [go_sem]
  obtain ⟨c0, a, ha, s0⟩ := drawKV_ex b o0
  obtain ⟨q, n, hq, hn, s1⟩ := drawRA_ex b o0
  have aok : a.ok := by unfold RI.ok; omega
  have af : a.fit := by unfold RI.fit; omega
  have qok := hq.ok (by decide)
  have qf := qok.fit
  have rok := remQ_ok n qok
  have rf := rok.fit
  have l0 : (sigs c0).length ≤ 9223372036854775807 := by show 4 ≤ 9223372036854775807; omega
  have nk := keyVars_len (sigs c0) a
  have nv := varsOf_len a.l
  have hs := keyVars_sub (sigs c0) a
  refine bwp_seq mixed (by kernel_rfl) ?_
  simp -implicitDefEqProofs (maxSteps := 2000000) only [go_sem]
  refine call_of (s0) (by simp -implicitDefEqProofs (maxSteps := 2000000) only [go_sem]) (by kernel_rfl) (by simp -implicitDefEqProofs (maxSteps := 2000000) only [go_sem]) ?_
  simp -implicitDefEqProofs (maxSteps := 2000000) only [go_sem]
  refine bwp_seq mixed (by kernel_rfl) ?_
  simp -implicitDefEqProofs (maxSteps := 2000000) only [go_sem]
  refine call_of (implKeyVariables_sat (sigs c0) a l0 aok) (by simp -implicitDefEqProofs (maxSteps := 2000000) only [go_sem]) (callOk_still (by kernel_rfl) (by simp only [List.all_cons, List.all_nil, LV.still, LV.leaves, Leaf.still, ints_still, ris_still, eds_still, rels_still, iss_still, ems_still, Bool.and_self, Bool.and_true])) (by simp -implicitDefEqProofs (maxSteps := 2000000) only [go_sem]) ?_
  simp -implicitDefEqProofs (maxSteps := 2000000) only [go_sem]
  refine bwp_seq mixed (by kernel_rfl) ?_
  simp -implicitDefEqProofs (maxSteps := 2000000) only [go_sem]
  refine call_of (implAtomVariables_sat a aok) (by simp -implicitDefEqProofs (maxSteps := 2000000) only [go_sem]) (callOk_still (by kernel_rfl) (by simp only [List.all_cons, List.all_nil, LV.still, LV.leaves, Leaf.still, ints_still, ris_still, eds_still, rels_still, iss_still, ems_still, Bool.and_self, Bool.and_true])) (by simp -implicitDefEqProofs (maxSteps := 2000000) only [go_sem]) ?_
  simp -implicitDefEqProofs (maxSteps := 2000000) only [go_sem]
  refine bwp_seq mixed (by kernel_rfl) ?_
  simp -implicitDefEqProofs (maxSteps := 2000000) only [go_sem]
  refine call_of (s1) (by simp -implicitDefEqProofs (maxSteps := 2000000) only [go_sem]) (by kernel_rfl) (by simp -implicitDefEqProofs (maxSteps := 2000000) only [go_sem]) ?_
  simp -implicitDefEqProofs (maxSteps := 2000000) only [go_sem]
  refine bwp_seq mixed (by kernel_rfl) ?_
  simp -implicitDefEqProofs (maxSteps := 2000000) only [go_sem]
  refine call_of (implRemoveAtom_sat q n qok) (by simp -implicitDefEqProofs (maxSteps := 2000000) only [go_sem]) (callOk_still (by kernel_rfl) (by simp only [List.all_cons, List.all_nil, LV.still, LV.leaves, Leaf.still, ints_still, ris_still, eds_still, rels_still, iss_still, ems_still, Bool.and_self, Bool.and_true])) (by simp -implicitDefEqProofs (maxSteps := 2000000) only [go_sem]) ?_
  simp -implicitDefEqProofs (maxSteps := 2000000) only [go_sem]
  refine bwp_le (st' := mkSt [(3, .one (.im 3 (rels (sigs c0)))), (4, .one (.vad 1512 0)), (5, .one (.im 1 (ints (keyVars (sigs c0) a)))), (6, .one (.im 1 (ints (varsOf a.l)))), (7, .one (.vad 2472 0)), (8, .sc (.int .i64 n)), (9, .one (.vad 2856 0))] [(1512, [.sc (.int .i64 a.r), .im 1 (ints a.l)]), (2472, sQr q), (2856, sQr (remQ q n))] [] 4000) (le_st' _ _ [] [1273, 1832, 2024, 2217, 2218, 2793, 2794] _ (by simp -implicitDefEqProofs (maxSteps := 2000000) only [go_sem, ris_frz, ints_frz] <;> and_intros <;> first | rfl | exact List.mem_singleton_self _ | decide | (refine ⟨_, rfl, Eq.symm ?_⟩; simp -implicitDefEqProofs (maxSteps := 2000000) only [go_sem, ris_frz, ints_frz]; done) | (refine ⟨_, rfl, Eq.symm ?_⟩; simp -implicitDefEqProofs (maxSteps := 2000000) only [go_sem, ris_frz, ints_frz]; rfl)) (by simp -implicitDefEqProofs (maxSteps := 2000000) only [go_sem, ris_frz, ints_frz] <;> and_intros <;> first | rfl | exact List.mem_singleton_self _ | decide | (refine ⟨_, rfl, Eq.symm ?_⟩; simp -implicitDefEqProofs (maxSteps := 2000000) only [go_sem, ris_frz, ints_frz]; done) | (refine ⟨_, rfl, Eq.symm ?_⟩; simp -implicitDefEqProofs (maxSteps := 2000000) only [go_sem, ris_frz, ints_frz]; rfl)) (by simp -implicitDefEqProofs (maxSteps := 2000000) only [go_sem, ris_frz, ints_frz] <;> and_intros <;> rfl) (by rfl)) ?_
  refine bwp_awp mixed (by kernel_rfl) ?_
  simp -implicitDefEqProofs (maxSteps := 2000000) only [go_sem]
  refine call_of (specKeyVariables_sat (sigs c0) a l0 af) (by simp -implicitDefEqProofs (maxSteps := 2000000) only [go_sem]) (callOk_still (by kernel_rfl) (by simp only [List.all_cons, List.all_nil, LV.still, LV.leaves, Leaf.still, ints_still, ris_still, eds_still, rels_still, iss_still, ems_still, Bool.and_self, Bool.and_true])) (by simp -implicitDefEqProofs (maxSteps := 2000000) only [go_sem]) ?_
  simp -implicitDefEqProofs (maxSteps := 2000000) only [go_sem]
  refine call_of (sameInts_sat (keyVars (sigs c0) a) (keyVars (sigs c0) a) (by omega)) (by simp -implicitDefEqProofs (maxSteps := 2000000) only [go_sem]) (by kernel_rfl) (by simp -implicitDefEqProofs (maxSteps := 2000000) only [go_sem]) ?_
  simp -implicitDefEqProofs (maxSteps := 2000000) only [go_sem]
  refine call_of (specAtomVariables_sat a af) (by simp -implicitDefEqProofs (maxSteps := 2000000) only [go_sem]) (callOk_still (by kernel_rfl) (by simp only [List.all_cons, List.all_nil, LV.still, LV.leaves, Leaf.still, ints_still, ris_still, eds_still, rels_still, iss_still, ems_still, Bool.and_self, Bool.and_true])) (by simp -implicitDefEqProofs (maxSteps := 2000000) only [go_sem]) ?_
  simp -implicitDefEqProofs (maxSteps := 2000000) only [go_sem]
  refine call_of (sameInts_sat (varsOf a.l) (varsOf a.l) (by omega)) (by simp -implicitDefEqProofs (maxSteps := 2000000) only [go_sem]) (by kernel_rfl) (by simp -implicitDefEqProofs (maxSteps := 2000000) only [go_sem]) ?_
  simp -implicitDefEqProofs (maxSteps := 2000000) only [go_sem]
  refine call_of (specRemoveAtom_sat q n qok) (by simp -implicitDefEqProofs (maxSteps := 2000000) only [go_sem]) (by kernel_rfl) (by simp -implicitDefEqProofs (maxSteps := 2000000) only [go_sem]) ?_
  simp -implicitDefEqProofs (maxSteps := 2000000) only [go_sem]
  refine call_of (specEqualQueries_sat (remQ q n) (remQ q n) rf) (by simp -implicitDefEqProofs (maxSteps := 2000000) only [go_sem]) (by kernel_rfl) (by simp -implicitDefEqProofs (maxSteps := 2000000) only [go_sem]) ?_
  simp -implicitDefEqProofs (maxSteps := 2000000) only [go_sem]
  first | (with_reducible refine tr_and ?_ ?_; focus kernel_rfl) | (with_reducible refine tr_only ?_; kernel_rfl) | skip
  have hn1 := hq.n
  have hlen : (remQ q n).atoms.length = if remIn q n then q.atoms.length - 1 else q.atoms.length := by
    unfold remQ
    rcases e : remIn q n
    · rfl
    · rw [if_pos rfl, if_pos rfl]
      have e' : inB n 0 ((q.atoms.length : Int) - 1) = true := e
      obtain ⟨b1, b2⟩ := inB_of e'
      exact List.length_eraseIdx_of_lt (by omega)
  generalize remQ q n = x at rok rf hlen ⊢
  generalize keyVars (sigs c0) a = K at nk hs ⊢
  generalize varsOf a.l = V at nv hs ⊢
  refine awp_loop Nat (fun k => mkSt [(5, .one (.im 1 (ints K))), (6, .one (.im 1 (ints V))), (7, .one (.vad 2472 0)), (8, .sc (.int .i64 n)), (9, .one (.vad 2856 0)), (10, .sc (.int .i64 k))] [(2472, sQr q), (2856, sQr x)] [] 20000)
    (fun k => k ≤ K.length) (fun k => K.length - k) 0 (by omega) (le_st _ _ [] [] _ rfl (by simp -implicitDefEqProofs (maxSteps := 2000000) only [go_sem] <;> rfl) (by simp -implicitDefEqProofs (maxSteps := 2000000) only [go_sem] <;> rfl) (by simp -implicitDefEqProofs (maxSteps := 2000000) only [go_sem] <;> rfl)) ?_
  rintro k q1
  by_cases c3 : k < K.length
  · have wk : IntKind.i64.wrap ((k : Int) + 1) = ((k + 1 : Nat) : Int) := i64_succ (by omega)
    have hm : decide (K.getD k 0 ∈ V) = true := decide_eq_true (hs _ (mem_getD 0 c3))
    simp -implicitDefEqProofs (maxSteps := 2000000) only [go_sem, c3]
    refine call_of (has_sat V (K.getD k 0) (by omega)) (by simp -implicitDefEqProofs (maxSteps := 2000000) only [go_sem, c3, hm]) (by kernel_rfl) (by simp -implicitDefEqProofs (maxSteps := 2000000) only [go_sem, c3, hm]) ?_
    simp -implicitDefEqProofs (maxSteps := 2000000) only [go_sem, c3, hm]
    simp -implicitDefEqProofs (maxSteps := 2000000) only [go_sem, wk]
    exact ⟨k + 1, c3, by omega, (le_st _ _ [] [] _ rfl (by simp -implicitDefEqProofs (maxSteps := 2000000) only [go_sem] <;> rfl) (by simp -implicitDefEqProofs (maxSteps := 2000000) only [go_sem] <;> rfl) (by simp -implicitDefEqProofs (maxSteps := 2000000) only [go_sem] <;> rfl))⟩
  · obtain rfl : k = K.length := by omega
    have w1 : IntKind.i64.wrap ((q.atoms.length : Int) - 1) = (q.atoms.length : Int) - 1 := IntWalk.i64_in _ (by omega)
    rcases d1 : decide (n < 0)
    · rcases d2 : decide (n ≥ (q.atoms.length : Int))
      · have hr : remIn q n = true := by
          have a1 := of_decide_eq_false d1
          have a2 := of_decide_eq_false d2
          unfold remIn inB
          rw [Bool.and_eq_true, decide_eq_true_iff, decide_eq_true_iff]; omega
        rw [hr, if_pos rfl] at hlen
        have d3 : (((x.atoms.length : Nat) : Int) == (q.atoms.length : Int) - 1) = true := by rw [beq_iff_eq]; omega
        simp -implicitDefEqProofs (maxSteps := 2000000) only [go_sem, c3, d1, d2, d3, w1]
        first | done | rfl | exact ⟨rfl, rfl⟩ | exact ⟨rfl, rfl, rfl⟩ | (refine tr_and ?_ ?_ <;> first | rfl | exact ⟨rfl, rfl⟩ | kernel_rfl)
      · simp -implicitDefEqProofs (maxSteps := 2000000) only [go_sem, c3, d1, d2, w1]
        first | done | rfl | exact ⟨rfl, rfl⟩ | exact ⟨rfl, rfl, rfl⟩ | (refine tr_and ?_ ?_ <;> first | rfl | exact ⟨rfl, rfl⟩ | kernel_rfl)
    · simp -implicitDefEqProofs (maxSteps := 2000000) only [go_sem, c3, d1, w1]
      first | done | rfl | exact ⟨rfl, rfl⟩ | exact ⟨rfl, rfl, rfl⟩ | (refine tr_and ?_ ?_ <;> first | rfl | exact ⟨rfl, rfl⟩ | kernel_rfl)
end Go.Proofs.Ytedciihjgbkjgaa.A


/- BYTES READ. Conditions: none. -/
namespace Go.Proofs.Ytedciihjgbkjgaa.A
open Go
set_option linter.unusedVariables false
theorem readsC_byte {H : Type} {enc : TypeId × Value → H} {P : Program} {W : World} {t : TypeId} (ht : P.underlying t = some (.int .u8)) : ReadsC enc P W t cBy (fun _ => True) := by
  intro n cs x h
  obtain ⟨z, rfl⟩ := trod_int ht h
  exact ⟨z, trivial, ⟨rfl, rfl⟩, trivial⟩
end Go.Proofs.Ytedciihjgbkjgaa.A


/- THE LAW FnAtoms: for every input it returns true, and the input reads as it did. Conditions: none. -/
namespace Go.Proofs.Ytedciihjgbkjgaa.lawAtoms
open Go.ChangeShapes Go.WideShapes Go.ChangeAt Go.RowKit
open Go.Proofs.Ytedciihjgbkjgaa.A
set_option linter.unusedVariables false
theorem own : ownKnob Try.prog.godebug = none := by kernel_rfl
theorem laid : laidOutB Try.prog = true := by kernel_rfl
theorem rowed : mapsRowed Try.prog = true := by kernel_rfl
theorem full : ((List.range Try.prog.types.size).all fun t => match Try.prog.underlying t with | some (.slice e) => decide (0 < Try.prog.cellsOf e) | _ => true) = true := by kernel_rfl
set_option maxRecDepth 100000 in
theorem lifted (os : Os) (started : os.Started) (H : Type) (enc : TypeId × Value → H) :
    ReturnsInHanded {} Try.checked os 5 .any (Rows.fnAtomsSpec.pre6 enc Try.prog Try.f5 Rows.fnAtomsRow.domain false) (Rows.fnAtomsSpec.post enc Try.prog Try.f5 false true false false) := by
  refine returnsInHanded_of_change_sized (C := Try.checked) own started (by kernel_rfl) Try.func5
    (ChangeSpec.witness6 (enc := enc) (C := Try.checked) false ⟨#[], #[.slice none 0 0], []⟩ 8 (by kernel_rfl) (by kernel_rfl) (by kernel_rfl) (by kernel_rfl)) ?_
  intro W base args ds gs before hval hW _ _ _
  obtain ⟨p, q, hA, hV, hpq, _⟩ := id hW
  rw [Try.params5] at hA hval
  obtain ⟨v0, vs0, d0, ds0, p0, q0, e0, rfl, rfl, h0, r0⟩ := trodAll_cons hA
  obtain ⟨rfl, rfl, rfl⟩ := trodAll_nil r0
  obtain ⟨rfl, _⟩ := trodVars_none hV
  obtain rfl : args = #[v0] := by cases args; simp_all
  have rB := readsC_byte (enc := enc) (W := W) und5
  have lBs := readsL_rows (w := 1) rB und22 (by kernel_rfl) (by omega) (fun _ => rfl) bys (fun _ => rfl)
  obtain ⟨a0, g0, l0⟩ := arg_one lBs (okWide_slice_ne und22 (hval 0 _ v0 rfl rfl)) h0
  exact law_calls laid rowed full Try.func5 rfl (by kernel_rfl) rfl rfl (by kernel_rfl) rfl und4 hW (lawAtoms_sat a0 g0.1) ⟨l0 _, trivial⟩ rfl rfl rfl
theorem over : Rows.fnAtomsRow.holds Try.pinned (OpenSpec.ofChange Rows.fnAtomsSpec) :=
  OpenClaim.holds_of_wide 5 Try.f5 rfl rfl rfl rfl rfl rfl rfl ⟨rfl, rfl, rfl, rfl, rfl⟩ rfl rfl rfl rfl rfl (by kernel_rfl) Try.func5 (by kernel_rfl)
    (of_decide_eq_true (by kernel_rfl)) (by unfold Func.isWrapper; first | (rw [if_pos (by decide +kernel)]; kernel_rfl) | (rw [if_neg (by decide +kernel)]; exact ⟨rfl, rfl⟩))
    (fun os started H enc _ => lifted os started H enc)
end Go.Proofs.Ytedciihjgbkjgaa.lawAtoms
namespace Go.Proofs.Ytedciihjgbkjgaa
/-- The row, under a short name, for the claim. -/
theorem fnAtoms_holds : Rows.FnAtomsSaid := lawAtoms.over
#print axioms fnAtoms_holds
end Go.Proofs.Ytedciihjgbkjgaa
