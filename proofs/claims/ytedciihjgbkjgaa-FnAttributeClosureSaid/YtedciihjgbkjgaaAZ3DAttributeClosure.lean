/- Packed by pack.py: FPq FDraw13 FDraw14 FDraw15 FDraw17 FDraw9 FDraw16 FDraw18 FMis FMis2 FMis3 FMis4 FDraw4 FCl2 FCl3 FAclP FKy F5 -/
import Derived.Test.YtedciihjgbkjgaaAZ1DAttributeClosure
import Derived.Test.YtedciihjgbkjgaaAZ2DAttributeClosure
import Derived.Test.YtedciihjgbkjgaaA44

/- A QUERY READ FROM A TEXT: the reference. Conditions: none. -/
namespace Go.Proofs.Ytedciihjgbkjgaa.A
open Go
set_option linter.unusedSimpArgs false
set_option linter.unusedVariables false
set_option maxRecDepth 100000

/-! #### a text cut at a sign -/
abbrev byA (s : ByteArray) (i : Nat) : Nat := (s.data.toList.getD i 0).toNat
def splA (s : ByteArray) (c : Nat) : Nat → Nat
  | 0 => 0
  | i + 1 => if byA s i = c then i + 1 else splA s c i
def splO (s : ByteArray) (c : Nat) : Nat → List ByteArray
  | 0 => []
  | i + 1 => if byA s i = c then splO s c i ++ [s.extract (splA s c i) i] else splO s c i
def splS (s : ByteArray) (c : Nat) : List ByteArray := splO s c s.size ++ [s.extract (splA s c s.size) s.size]
theorem splA_le (s : ByteArray) (c : Nat) : ∀ i, splA s c i ≤ i
  | 0 => Nat.le_refl _
  | i + 1 => by
    have := splA_le s c i
    rw [splA]; split <;> omega
theorem splO_len (s : ByteArray) (c : Nat) : ∀ i, (splO s c i).length ≤ i
  | 0 => Nat.le_refl _
  | i + 1 => by
    have := splO_len s c i
    rw [splO]; split
    · rw [List.length_append, List.length_singleton]; omega
    · omega
theorem splS_len (s : ByteArray) (c : Nat) : (splS s c).length ≤ s.size + 1 := by
  have := splO_len s c s.size
  unfold splS
  rw [List.length_append, List.length_singleton]; omega
theorem ext_size (s : ByteArray) (a b : Nat) : (s.extract a b).size ≤ s.size := by
  rw [ByteArray.size_extract]; omega
theorem splO_mem (s : ByteArray) (c : Nat) : ∀ (i : Nat), ∀ x ∈ splO s c i, x.size ≤ s.size
  | 0, x, hx => by cases hx
  | i + 1, x, hx => by
    rw [splO] at hx
    split at hx
    · rcases List.mem_append.mp hx with h | h
      · exact splO_mem s c i x h
      · rw [List.mem_singleton.mp h]; exact ext_size _ _ _
    · exact splO_mem s c i x hx
theorem splS_mem (s : ByteArray) (c : Nat) : ∀ x ∈ splS s c, x.size ≤ s.size := by
  intro x hx
  rcases List.mem_append.mp hx with h | h
  · exact splO_mem s c _ x h
  · rw [List.mem_singleton.mp h]; exact ext_size _ _ _
theorem txs_one (s : ByteArray) : [[Cell.sc (.string s)]] = txs [s] := rfl
theorem txs_append (a b : List ByteArray) : txs a ++ txs b = txs (a ++ b) := by simp [txs]
theorem txs_flat (a : List ByteArray) : flatB (txs a) = true := by simp [flatB, txs, cTx, Cell.flatB]
theorem txs_stm (n : Nat) (a : List ByteArray) : stm n (txs a) = txs a := stm_map n _ _ (fun _ => rfl) a
theorem txs_still (a : List ByteArray) : stillRows (txs a) = true := by simp [stillRows, txs, cTx, Cell.still]
theorem txs_nil : txs [] = [] := rfl
attribute [go_sem] txs_append txs_flat txs_stm
theorem repP {α : Type} (a : α) : List.replicate 1 a = [a] := rfl
theorem u8_eq {a b : Nat} : (((a : Nat) : Int) == ((b : Nat) : Int)) = decide (a = b) := by
  rw [Bool.eq_iff_iff, beq_iff_eq, decide_eq_true_iff]; omega
theorem l6Cut_sat (s : ByteArray) (c : Nat) (h : s.size ≤ 1048576) : Sat Try.prog 114 [lStr s, .one (.sc (.int .u8 c))] [.one (.ow 1 (txs (splS s c)))] [g1, g1] := by
  refine sat_of_body mixed Try.func114 rfl (by kernel_rfl) (by kernel_rfl) (rs := [.tmp 4]) rfl rfl rfl ?_
  simp -implicitDefEqProofs (maxSteps := 2000000) only [go_sem]
  refine awp_loop Nat (fun i => mkSt [(0, .sc (.string s)), (1, .sc (.int .u8 c)), (5, .one (.ref 960 1 0 (splO s c i).length)), (6, .sc (.int .i64 (splA s c i))), (7, .sc (.int .i64 i))] [] [(960, (1, txs (splO s c i)))] 4000)
    (fun i => i ≤ s.size) (fun i => s.size - i) 0 (by omega) (le_st' _ _ [⟨960, some _, false, 1, _⟩] [] _ (by simp -implicitDefEqProofs (maxSteps := 2000000) only [go_sem, splO, splA, txs_nil, List.length_nil] <;> and_intros <;> rfl) (by simp -implicitDefEqProofs (maxSteps := 2000000) only [go_sem, splO, splA, txs_nil, List.length_nil] <;> and_intros <;> rfl) (by simp -implicitDefEqProofs (maxSteps := 2000000) only [go_sem, splO, splA, txs_nil, List.length_nil] <;> and_intros <;> rfl) (by rfl)) ?_
  rintro i h1
  have hl := splO_len s c i
  have ha := splA_le s c i
  by_cases c1 : i < s.size
  · have wi : IntKind.i64.wrap ((i : Int) + 1) = ((i + 1 : Nat) : Int) := i64_succ (by omega)
    rcases d : decide (byA s i = c)
    · have e1 : splO s c (i + 1) = splO s c i := by rw [splO, if_neg (of_decide_eq_false d)]
      have e2 : splA s c (i + 1) = splA s c i := by rw [splA, if_neg (of_decide_eq_false d)]
      simp -implicitDefEqProofs (maxSteps := 2000000) only [go_sem, c1, u8_eq, d, wi]
      exact ⟨i + 1, c1, by omega, (le_st' _ _ [⟨960, some _, false, 1, _⟩] [] _ (by simp -implicitDefEqProofs (maxSteps := 2000000) only [go_sem, e1, e2] <;> and_intros <;> rfl) (by simp -implicitDefEqProofs (maxSteps := 2000000) only [go_sem, e1, e2] <;> and_intros <;> rfl) (by simp -implicitDefEqProofs (maxSteps := 2000000) only [go_sem, e1, e2] <;> and_intros <;> rfl) (by rfl))⟩
    · have e1 : splO s c (i + 1) = splO s c i ++ [s.extract (splA s c i) i] := by rw [splO, if_pos (of_decide_eq_true d)]
      have e2 : splA s c (i + 1) = i + 1 := by rw [splA, if_pos (of_decide_eq_true d)]
      simp -implicitDefEqProofs (maxSteps := 2000000) only [go_sem, c1, u8_eq, d, wi]
      repeat (refine And.intro (by omega) ?_)
      exact ⟨i + 1, c1, by omega, (le_st' _ _ [⟨960, some _, false, 1, _⟩] [] _ (by simp -implicitDefEqProofs (maxSteps := 2000000) only [go_sem, e1, e2, repP, List.set_cons_zero] <;> and_intros <;> rfl) (by simp -implicitDefEqProofs (maxSteps := 2000000) only [go_sem, e1, e2, repP, List.set_cons_zero] <;> and_intros <;> rfl) (by simp -implicitDefEqProofs (maxSteps := 2000000) only [go_sem, e1, e2, repP, List.set_cons_zero] <;> and_intros <;> rfl) (by rfl))⟩
  · obtain rfl : i = s.size := by omega
    simp -implicitDefEqProofs (maxSteps := 2000000) only [go_sem, c1]
    repeat (refine And.intro (by omega) ?_)
    exact ⟨rfl, rfl⟩
/-! #### where a name stands -/
def nameNo (l : List Rel) (s : ByteArray) (i : Nat) : Bool := !decide ((l.getD i default).name = s)
def relIx (l : List Rel) (s : ByteArray) : Int := firstNo (nameNo l s) l.length 0
theorem specRelationIndex_sat (l : List Rel) (s : ByteArray) (h : l.length ≤ 9223372036854775807) : Sat Try.prog 116 [lRels l, lStr s] [lInt (relIx l s)] [g1, g1] := by
  refine sat_of_body mixed Try.func116 rfl (by kernel_rfl) (by kernel_rfl) (rs := [.tmp 4]) rfl rfl rfl ?_
  unfold relIx
  generalize hp : nameNo l s = p
  have hp' : ∀ i, p i = !decide ((l.getD i default).name = s) := fun i => by rw [← hp]; rfl
  simp -implicitDefEqProofs (maxSteps := 2000000) only [go_sem]
  refine awp_loop Nat (fun k => mkSt [(0, .one (.im 3 (rels l))), (1, .sc (.string s)), (5, .sc (.int .i64 k))] [] [] 3000)
    (fun k => k ≤ l.length ∧ firstNo p (l.length - k) k = firstNo p l.length 0) (fun k => l.length - k) 0 ⟨by omega, by rw [Nat.sub_zero]⟩ (le_st _ _ [] [] _ rfl (by simp -implicitDefEqProofs (maxSteps := 2000000) only [go_sem] <;> rfl) trivial trivial) ?_
  rintro k ⟨h1, h2⟩
  by_cases c1 : k < l.length
  · rw [show l.length - k = (l.length - (k + 1)) + 1 by omega, firstNo, hp'] at h2
    rcases e : decide ((l.getD k default).name = s)
    · rw [e, Bool.not_false, if_pos rfl] at h2
      simp -implicitDefEqProofs (maxSteps := 2000000) only [go_sem, c1, e]
      rw [i64_succ (by omega)]
      exact ⟨k + 1, ⟨c1, h2⟩, by omega, (le_st _ _ [] [] _ rfl (by simp -implicitDefEqProofs (maxSteps := 2000000) only [go_sem] <;> rfl) trivial trivial)⟩
    · rw [e, Bool.not_true, if_neg (by simp)] at h2
      simp -implicitDefEqProofs (maxSteps := 2000000) only [go_sem, c1, e]
      rw [← h2]
  · obtain rfl : k = l.length := by omega
    rw [Nat.sub_self, firstNo] at h2
    simp -implicitDefEqProofs (maxSteps := 2000000) only [go_sem, c1]
    rw [← h2]
/-! #### the parts of a query's text -/
def t1 (s : ByteArray) (i : Nat) : Int := (pT (s.extract i (i + 1))).1
def freeT (w : ByteArray) : Nat → List Int
  | 0 => []
  | i + 1 => freeT w i ++ [t1 w i]
def skipT (p : ByteArray) (k : Nat) : Bool := decide (k = 0) || decide (byA p k = 124)
def wordT (p : ByteArray) : Nat → List Int
  | 0 => []
  | k + 1 => if skipT p k then wordT p k else wordT p k ++ [t1 p k]
def wordV (p : ByteArray) (m : Int) : Nat → Int
  | 0 => m
  | k + 1 => if skipT p k then wordV p m k else if t1 p k + 1 > wordV p m k then t1 p k + 1 else wordV p m k
def wordR (l : List Rel) (p : ByteArray) : Nat → Int
  | 0 => 0
  | k + 1 => if k = 0 then relIx l (p.extract 0 1) else wordR l p k
def wordA (l : List Rel) (p : ByteArray) : RI := ⟨wordR l p p.size, wordT p p.size⟩
def allV (ps : List ByteArray) : Nat → Int
  | 0 => 0
  | i + 1 => wordV (ps.getD i ⟨#[]⟩) (allV ps i) (ps.getD i ⟨#[]⟩).size
def allA (l : List Rel) (ps : List ByteArray) (n : Nat) : List RI := (ps.take n).map (wordA l)
def readQ (l : List Rel) (s : ByteArray) : Qu := ⟨allV (splS ((splS s 63).getD 1 ⟨#[]⟩) 32) (splS ((splS s 63).getD 1 ⟨#[]⟩) 32).length, allA l (splS ((splS s 63).getD 1 ⟨#[]⟩) 32) (splS ((splS s 63).getD 1 ⟨#[]⟩) 32).length, freeT ((splS s 63).getD 0 ⟨#[]⟩) ((splS s 63).getD 0 ⟨#[]⟩).size⟩
def noQ : Qu := ⟨0, [], []⟩
def okQ (l : List Rel) (s : ByteArray) : Bool := decide ((splS s 63).length = 2) && decide (quText l (readQ l s) = s)
def parQ (l : List Rel) (s : ByteArray) : Qu := if okQ l s then readQ l s else noQ
theorem freeT_len (w : ByteArray) : ∀ i, (freeT w i).length = i
  | 0 => rfl
  | i + 1 => by rw [freeT, List.length_append, freeT_len w i]; rfl
theorem wordT_len (p : ByteArray) : ∀ i, (wordT p i).length ≤ i
  | 0 => Nat.le_refl _
  | i + 1 => by
    have := wordT_len p i
    rw [wordT]; split
    · omega
    · rw [List.length_append, List.length_singleton]; omega
theorem pT_lo (s : ByteArray) : -10 ≤ (pT s).1 ∧ (pT s).1 ≤ 3 := by
  unfold pT
  split
  · unfold p1
    split
    · simp
    split
    · simp
    split
    · simp
    split
    · simp
    split
    · simp only; omega
    · simp
  · simp
theorem wordV_lo {p : ByteArray} {m : Int} (h : 0 ≤ m ∧ m ≤ 4) : ∀ k, 0 ≤ wordV p m k ∧ wordV p m k ≤ 4
  | 0 => h
  | k + 1 => by
    have h1 := wordV_lo (p := p) h k
    have h2 := pT_lo (p.extract k (k + 1))
    rw [wordV]; split
    · exact h1
    · unfold t1; split <;> omega
theorem allV_lo (ps : List ByteArray) : ∀ i, 0 ≤ allV ps i ∧ allV ps i ≤ 4
  | 0 => by simp [allV]
  | i + 1 => wordV_lo (allV_lo ps i) _
theorem readQ_ok {l : List Rel} {s : ByteArray} (h : s.size ≤ 1048575) : (readQ l s).ok := by
  have m1 : ∀ i, ((splS s 63).getD i ⟨#[]⟩).size ≤ s.size := by
    intro i
    rcases Nat.lt_or_ge i (splS s 63).length with hi | hi
    · exact splS_mem s 63 _ (mem_getD (⟨#[]⟩ : ByteArray) hi)
    · rw [List.getD_eq_getElem?_getD, List.getElem?_eq_none hi]; exact Nat.zero_le _
  have a0 := m1 0
  have a1 := m1 1
  unfold readQ Qu.ok
  generalize (splS s 63).getD 1 ⟨#[]⟩ = w at a1
  have b1 := splS_len w 32
  refine ⟨⟨?_, fun x hx => ?_⟩, ?_⟩
  · show (allA l (splS w 32) (splS w 32).length).length ≤ _
    unfold allA
    rw [List.length_map, List.length_take]; omega
  · unfold allA at hx
    obtain ⟨p, hp, rfl⟩ := List.mem_map.mp hx
    have b2 := splS_mem w 32 p (List.mem_of_mem_take hp)
    have b3 := wordT_len p p.size
    unfold RI.ok wordA
    simp only
    omega
  · show (freeT _ _).length ≤ _
    rw [freeT_len]; omega
theorem wordA_step {l : List Rel} {ps : List ByteArray} {k : Nat} (h : k < ps.length) : allA l ps (k + 1) = allA l ps k ++ [wordA l (ps.getD k ⟨#[]⟩)] := by
  unfold allA
  rw [take_snoc (⟨#[]⟩ : ByteArray) h, List.map_append]; rfl
theorem allA_len (l : List Rel) (ps : List ByteArray) {k : Nat} (h : k ≤ ps.length) : (allA l ps k).length = k := by
  unfold allA
  rw [List.length_map, List.length_take]; omega
abbrev zQ3 : List SV := [.sc (.int .i64 0), .sc (.slice none 0 0), .sc (.slice none 0 0)]
set_option maxHeartbeats 8000000 in
theorem specParseQuery_sat (l : List Rel) (s : ByteArray) (hl : l.length ≤ 9223372036854775807) (h : s.size ≤ 1048575) : Sat Try.prog 106 [lRels l, lStr s] [oQu (parQ l s), lBool (okQ l s)] [g1, g1] := by
  refine sat_of_body mixed Try.func106 rfl (by kernel_rfl) (by kernel_rfl) (rs := [.cell 4 28, .tmp 5]) rfl rfl rfl ?_
  have hq := readQ_ok (l := l) h
  have hcl := splS_len s 63
  by_cases h2 : (splS s 63).length = 2
  case neg =>
    have e1 : parQ l s = noQ := by rw [parQ, okQ, decide_eq_false h2]; rfl
    have e2 : okQ l s = false := by rw [okQ, decide_eq_false h2]; rfl
    have d2 : ((((splS s 63).length : Nat) : Int) != 2) = true := by rw [bne_iff_ne]; omega
    rw [e1, e2]
    simp -implicitDefEqProofs (maxSteps := 2000000) only [go_sem]
    refine call_of (l6Cut_sat s 63 (by omega)) (by simp -implicitDefEqProofs (maxSteps := 2000000) only [go_sem, d2] <;> and_intros <;> rfl) (by kernel_rfl) (by simp -implicitDefEqProofs (maxSteps := 2000000) only [go_sem, d2]) ?_
    simp -implicitDefEqProofs (maxSteps := 2000000) only [go_sem, d2]
    and_intros <;> rfl
  have d2 : (((2 : Nat) : Int) != 2) = false := rfl
  have hrd : readQ l s = readQ l s := rfl
  obtain ⟨w0, w1, hw⟩ : ∃ w0 w1, splS s 63 = [w0, w1] := by
    rcases e : splS s 63 with _ | ⟨a, _ | ⟨b, _ | ⟨c, r⟩⟩⟩
    · rw [e] at h2; simp at h2
    · rw [e] at h2; simp at h2
    · exact ⟨a, b, rfl⟩
    · rw [e] at h2; simp at h2
  have hs0 : w0.size ≤ s.size := splS_mem s 63 w0 (by rw [hw]; simp)
  have hs1 : w1.size ≤ s.size := splS_mem s 63 w1 (by rw [hw]; simp)
  have s1 := l6Cut_sat s 63 (by omega)
  rw [hw] at s1
  have hR : readQ l s = ⟨allV (splS w1 32) (splS w1 32).length, allA l (splS w1 32) (splS w1 32).length, freeT w0 w0.size⟩ := by unfold readQ; rw [hw]; rfl
  have hpl := splS_len w1 32
  have hpm := splS_mem w1 32
  have e0 : (txs [w0, w1]).getD 0 [] = [.sc (.string w0)] := rfl
  have e1 : (txs [w0, w1]).getD 1 [] = [.sc (.string w1)] := rfl
  have e2 : okQ l s = decide (quText l (readQ l s) = s) := by rw [okQ, decide_eq_true h2, Bool.true_and]
  have s2 := l6Cut_sat w1 32 (by omega)
  rw [parQ, e2]
  rw [hR] at hq ⊢
  generalize splS w1 32 = ps at hpl hpm s2 hq ⊢
  simp -implicitDefEqProofs (maxSteps := 2000000) only [go_sem]
  refine call_of (s1) (by simp -implicitDefEqProofs (maxSteps := 2000000) only [go_sem, d2] <;> and_intros <;> rfl) (by kernel_rfl) (by simp -implicitDefEqProofs (maxSteps := 2000000) only [go_sem, d2]) ?_
  simp -implicitDefEqProofs (maxSteps := 2000000) only [go_sem, d2]
  refine awp_loop Nat (fun i => mkSt [(0, .one (.im 3 (rels l))), (1, .sc (.string s)), (4, .one (.vad 1000 0)), (5, .sc (.bool false)), (6, .one (.ref 960 1 0 2)), (7, .one (.vad 1576 0)), (8, .sc (.int .i64 i))] [(1000, zQ3), (1576, [.sc (.int .i64 0), .sc (.slice none 0 0), .ref 961 1 0 i])] [(960, (1, txs [w0, w1])), (961, (1, ints (freeT w0 i)))] 4000)
    (fun i => i ≤ w0.size) (fun i => w0.size - i) 0 (by omega) (le_st' _ _ [⟨960, some _, false, 1, _⟩, ⟨961, none, false, 1, _⟩] [] _ (by simp -implicitDefEqProofs (maxSteps := 2000000) only [go_sem, freeT, ints_nil] <;> and_intros <;> rfl) (by simp -implicitDefEqProofs (maxSteps := 2000000) only [go_sem, freeT, ints_nil] <;> and_intros <;> rfl) (by simp -implicitDefEqProofs (maxSteps := 2000000) only [go_sem, freeT, ints_nil] <;> and_intros <;> rfl) (by rfl)) ?_
  rintro i h1
  have hfl := freeT_len w0 i
  by_cases c1 : i < w0.size
  · have wi : IntKind.i64.wrap ((i : Int) + 1) = ((i + 1 : Nat) : Int) := i64_succ (by omega)
    have hc1 : i + 1 ≤ w0.size := c1
    have hst : freeT w0 (i + 1) = freeT w0 i ++ [t1 w0 i] := rfl
    simp -implicitDefEqProofs (maxSteps := 2000000) only [go_sem, e0, c1, wi, hc1, Nat.le_add_right]
    refine call_of (specParseTerm_sat (w0.extract i (i + 1))) (by simp -implicitDefEqProofs (maxSteps := 2000000) only [go_sem]) (by kernel_rfl) (by simp -implicitDefEqProofs (maxSteps := 2000000) only [go_sem]) ?_
    simp -implicitDefEqProofs (maxSteps := 2000000) only [go_sem]
    repeat (refine And.intro (by omega) ?_)
    rw [show (pT (w0.extract i (i + 1))).1 = t1 w0 i from rfl, wi]
    refine ⟨i + 1, c1, by omega, ?_⟩
    rw [hst]
    exact (le_st' _ _ [⟨960, some _, false, 1, _⟩, ⟨961, some _, false, 1, _⟩] [] _ (by simp -implicitDefEqProofs (maxSteps := 2000000) only [go_sem, hfl, repP, List.set_cons_zero] <;> and_intros <;> rfl) (by simp -implicitDefEqProofs (maxSteps := 2000000) only [go_sem, hfl, repP, List.set_cons_zero] <;> and_intros <;> rfl) (by simp -implicitDefEqProofs (maxSteps := 2000000) only [go_sem, hfl, repP, List.set_cons_zero] <;> and_intros <;> rfl) (by rfl))
  obtain rfl : i = w0.size := by omega
  simp -implicitDefEqProofs (maxSteps := 2000000) only [go_sem, e0, e1, c1]
  refine call_of (s2) (by simp -implicitDefEqProofs (maxSteps := 2000000) only [go_sem] <;> and_intros <;> rfl) (by kernel_rfl) (by simp -implicitDefEqProofs (maxSteps := 2000000) only [go_sem]) ?_
  simp -implicitDefEqProofs (maxSteps := 2000000) only [go_sem]
  have hA := fun k (hk : k ≤ ps.length) => allA_len l ps hk
  refine awp_loop Nat (fun i => mkSt [(0, .one (.im 3 (rels l))), (1, .sc (.string s)), (4, .one (.vad 1000 0)), (5, .sc (.bool false)), (7, .one (.vad 1576 0)), (11, .one (.ref 960 1 0 ps.length)), (12, .sc (.int .i64 i))] [(1000, zQ3), (1576, [.sc (.int .i64 (allV ps i)), .ref 962 2 0 i, .ref 961 1 0 w0.size])] [(960, (1, txs ps)), (961, (1, ints (freeT w0 w0.size))), (962, (2, ris 999 (allA l ps i)))] 20000)
    (fun i => i ≤ ps.length) (fun i => ps.length - i) 0 (by omega) (le_st' _ _ [⟨960, some _, false, 1, _⟩, ⟨961, some _, false, 1, _⟩, ⟨962, none, false, 2, _⟩] [] _ (by simp -implicitDefEqProofs (maxSteps := 2000000) only [go_sem, hfl, allV, allA, List.take_zero, List.map_nil, ris_nil] <;> and_intros <;> rfl) (by simp -implicitDefEqProofs (maxSteps := 2000000) only [go_sem, hfl, allV, allA, List.take_zero, List.map_nil, ris_nil] <;> and_intros <;> rfl) (by simp -implicitDefEqProofs (maxSteps := 2000000) only [go_sem, hfl, allV, allA, List.take_zero, List.map_nil, ris_nil] <;> and_intros <;> rfl) (by rfl)) ?_
  rintro i h3
  have hAi := hA i h3
  have hVi := allV_lo ps i
  by_cases c2 : i < ps.length
  · have wi : IntKind.i64.wrap ((i : Int) + 1) = ((i + 1 : Nat) : Int) := i64_succ (by omega)
    have hstA := wordA_step (l := l) c2
    have hstV : allV ps (i + 1) = wordV (ps.getD i ⟨#[]⟩) (allV ps i) (ps.getD i ⟨#[]⟩).size := rfl
    have hpz := hpm _ (mem_getD (⟨#[]⟩ : ByteArray) c2)
    have eg := txs_get c2
    have hwA : wordA l (ps.getD i ⟨#[]⟩) = ⟨wordR l (ps.getD i ⟨#[]⟩) (ps.getD i ⟨#[]⟩).size, wordT (ps.getD i ⟨#[]⟩) (ps.getD i ⟨#[]⟩).size⟩ := rfl
    rw [hwA] at hstA
    clear hwA
    generalize ps.getD i ⟨#[]⟩ = p at hstA hstV hpz eg
    generalize allV ps i = m0 at hVi hstV
    simp -implicitDefEqProofs (maxSteps := 2000000) only [go_sem, c2, eg]
    refine awp_loop Nat (fun k => mkSt [(0, .one (.im 3 (rels l))), (1, .sc (.string s)), (4, .one (.vad 1000 0)), (5, .sc (.bool false)), (7, .one (.vad 1576 0)), (11, .one (.ref 960 1 0 ps.length)), (12, .sc (.int .i64 i)), (13, .one (.vad 20320 0)), (14, .sc (.int .i64 k))] [(1000, zQ3), (1576, [.sc (.int .i64 (wordV p m0 k)), .ref 962 2 0 i, .ref 961 1 0 w0.size]), (20320, [.sc (.int .i64 (wordR l p k)), .ref 963 1 0 (wordT p k).length])] [(960, (1, txs ps)), (961, (1, ints (freeT w0 w0.size))), (962, (2, ris 999 (allA l ps i))), (963, (1, ints (wordT p k)))] 40000)
      (fun k => k ≤ p.size) (fun k => p.size - k) 0 (by omega) (le_st' _ _ [⟨960, some _, false, 1, _⟩, ⟨961, some _, false, 1, _⟩, ⟨962, some _, false, 2, _⟩, ⟨963, none, false, 1, _⟩] [] _ (by simp -implicitDefEqProofs (maxSteps := 2000000) only [go_sem, wordV, wordR, wordT, ints_nil, List.length_nil] <;> and_intros <;> rfl) (by simp -implicitDefEqProofs (maxSteps := 2000000) only [go_sem, wordV, wordR, wordT, ints_nil, List.length_nil] <;> and_intros <;> rfl) (by simp -implicitDefEqProofs (maxSteps := 2000000) only [go_sem, wordV, wordR, wordT, ints_nil, List.length_nil] <;> and_intros <;> rfl) (by rfl)) ?_
    rintro k h4
    have hTl := wordT_len p k
    have hVk := wordV_lo (p := p) hVi k
    by_cases c3 : k < p.size
    · have wk : IntKind.i64.wrap ((k : Int) + 1) = ((k + 1 : Nat) : Int) := i64_succ (by omega)
      have c4 : k + 1 ≤ p.size := c3
      by_cases k0 : k = 0
      · have d0 : (((k : Nat) : Int) == 0) = true := by rw [k0]; rfl
        have hp1 : 1 ≤ p.size := by omega
        have hs : skipT p k = true := by unfold skipT; rw [decide_eq_true k0]; rfl
        have q1 : wordV p m0 (k + 1) = wordV p m0 k := by rw [wordV, if_pos hs]
        have q2 : wordT p (k + 1) = wordT p k := by rw [wordT, if_pos hs]
        have q3 : wordR l p (k + 1) = relIx l (p.extract 0 1) := by rw [wordR, if_pos k0]
        simp -implicitDefEqProofs (maxSteps := 2000000) only [go_sem, c2, eg, c3, d0, hp1]
        repeat (refine And.intro (by first | omega | decide) ?_)
        simp -implicitDefEqProofs (maxSteps := 2000000) only [go_sem]
        refine call_of (specRelationIndex_sat l (p.extract 0 1) hl) (by simp -implicitDefEqProofs (maxSteps := 2000000) only [go_sem]) (by kernel_rfl) (by simp -implicitDefEqProofs (maxSteps := 2000000) only [go_sem]) ?_
        simp -implicitDefEqProofs (maxSteps := 2000000) only [go_sem]
        rw [wk]
        exact ⟨k + 1, c3, by omega, (le_st' _ _ [⟨960, some _, false, 1, _⟩, ⟨961, some _, false, 1, _⟩, ⟨962, some _, false, 2, _⟩, ⟨963, some _, false, 1, _⟩] [] _ (by simp -implicitDefEqProofs (maxSteps := 2000000) only [go_sem, q1, q2, q3] <;> and_intros <;> rfl) (by simp -implicitDefEqProofs (maxSteps := 2000000) only [go_sem, q1, q2, q3] <;> and_intros <;> rfl) (by simp -implicitDefEqProofs (maxSteps := 2000000) only [go_sem, q1, q2, q3] <;> and_intros <;> rfl) (by rfl))⟩
      have d0 : (((k : Nat) : Int) == 0) = false := by rw [beq_eq_false_iff_ne]; omega
      have q3 : wordR l p (k + 1) = wordR l p k := by rw [wordR, if_neg k0]
      by_cases k1 : byA p k = 124
      · have d1 : (((byA p k : Nat) : Int) == 124) = true := by rw [k1]; rfl
        have hs : skipT p k = true := by unfold skipT; rw [decide_eq_true k1, Bool.or_true]
        have q1 : wordV p m0 (k + 1) = wordV p m0 k := by rw [wordV, if_pos hs]
        have q2 : wordT p (k + 1) = wordT p k := by rw [wordT, if_pos hs]
        simp -implicitDefEqProofs (maxSteps := 2000000) only [go_sem, c2, eg, c3, d0, d1]
        rw [wk]
        exact ⟨k + 1, c3, by omega, (le_st' _ _ [⟨960, some _, false, 1, _⟩, ⟨961, some _, false, 1, _⟩, ⟨962, some _, false, 2, _⟩, ⟨963, some _, false, 1, _⟩] [] _ (by simp -implicitDefEqProofs (maxSteps := 2000000) only [go_sem, q1, q2, q3] <;> and_intros <;> rfl) (by simp -implicitDefEqProofs (maxSteps := 2000000) only [go_sem, q1, q2, q3] <;> and_intros <;> rfl) (by simp -implicitDefEqProofs (maxSteps := 2000000) only [go_sem, q1, q2, q3] <;> and_intros <;> rfl) (by rfl))⟩
      have d1 : (((byA p k : Nat) : Int) == 124) = false := by rw [beq_eq_false_iff_ne]; omega
      have hs : skipT p k = false := by unfold skipT; rw [decide_eq_false k0, decide_eq_false k1]; rfl
      have q2 : wordT p (k + 1) = wordT p k ++ [t1 p k] := by rw [wordT, hs, if_neg (by simp)]
      have q1 : wordV p m0 (k + 1) = if t1 p k + 1 > wordV p m0 k then t1 p k + 1 else wordV p m0 k := by rw [wordV, hs, if_neg (by simp)]
      have htl := pT_lo (p.extract k (k + 1))
      have wt : IntKind.i64.wrap (t1 p k + 1) = t1 p k + 1 := by unfold t1; exact IntWalk.i64_in _ (by omega)
      have etk : List.take (wordT p k).length (wordT p k) = wordT p k := List.take_length
      simp -implicitDefEqProofs (maxSteps := 2000000) only [go_sem, c2, eg, c3, d0, d1, wk, c4, Nat.le_add_right]
      refine call_of (specParseTerm_sat (p.extract k (k + 1))) (by simp -implicitDefEqProofs (maxSteps := 2000000) only [go_sem]) (by kernel_rfl) (by simp -implicitDefEqProofs (maxSteps := 2000000) only [go_sem]) ?_
      simp -implicitDefEqProofs (maxSteps := 2000000) only [go_sem]
      rw [show (pT (p.extract k (k + 1))).1 = t1 p k from rfl, wt]
      repeat (refine And.intro (by omega) ?_)
      rw [wk]
      refine ⟨k + 1, c3, by omega, ?_⟩
      exact (le_st' _ _ [⟨960, some _, false, 1, _⟩, ⟨961, some _, false, 1, _⟩, ⟨962, some _, false, 2, _⟩, ⟨963, some _, false, 1, _⟩] [] _ (by simp -implicitDefEqProofs (maxSteps := 2000000) only [go_sem, q1, q2, q3, repP, List.set_cons_zero, List.length_append, List.length_singleton] <;> and_intros <;> rfl) (by simp -implicitDefEqProofs (maxSteps := 2000000) only [go_sem, q1, q2, q3, repP, List.set_cons_zero, List.length_append, List.length_singleton] <;> and_intros <;> rfl) (by simp -implicitDefEqProofs (maxSteps := 2000000) only [go_sem, q1, q2, q3, repP, List.set_cons_zero, List.length_append, List.length_singleton] <;> and_intros <;> rfl) (by rfl))
    · obtain rfl : k = p.size := by omega
      simp -implicitDefEqProofs (maxSteps := 2000000) only [go_sem, c2, eg, c3]
      repeat (refine And.intro (by omega) ?_)
      rw [wi]
      refine ⟨i + 1, c2, by omega, ?_⟩
      exact (le_st' _ _ [⟨960, some _, false, 1, _⟩, ⟨961, some _, false, 1, _⟩, ⟨962, some _, false, 2, _⟩] [] _ (by simp -implicitDefEqProofs (maxSteps := 2000000) only [go_sem, hstA, hstV, hAi, repP, List.set_cons_zero] <;> and_intros <;> rfl) (by simp -implicitDefEqProofs (maxSteps := 2000000) only [go_sem, hstA, hstV, hAi, repP, List.set_cons_zero] <;> and_intros <;> rfl) (by simp -implicitDefEqProofs (maxSteps := 2000000) only [go_sem, hstA, hstV, hAi, repP, List.set_cons_zero] <;> and_intros <;> rfl) (by rfl))
  obtain rfl : i = ps.length := by omega
  have rtk : List.take ps.length (allA l ps ps.length) = allA l ps ps.length := List.take_of_length_le (by omega)
  have ftk : List.take w0.size (freeT w0 w0.size) = freeT w0 w0.size := List.take_of_length_le (by omega)
  rcases g : decide (quText l ⟨allV ps ps.length, allA l ps ps.length, freeT w0 w0.size⟩ = s)
  · simp -implicitDefEqProofs (maxSteps := 2000000) only [go_sem, c2, rtk, ftk]
    refine call_of (specFormatQuery_sat l ⟨allV ps ps.length, allA l ps ps.length, freeT w0 w0.size⟩ hl hq) (by simp -implicitDefEqProofs (maxSteps := 2000000) only [go_sem, g, rtk, ftk]) (callOk_still (by kernel_rfl) (by simp only [List.all_cons, List.all_nil, LV.still, LV.leaves, Leaf.still, ints_still, ris_still, eds_still, rels_still, iss_still, ems_still, Bool.and_self, Bool.and_true])) (by simp -implicitDefEqProofs (maxSteps := 2000000) only [go_sem, g, rtk, ftk]) ?_
    simp -implicitDefEqProofs (maxSteps := 2000000) only [go_sem, g, rtk, ftk]
    and_intros <;> rfl
  · simp -implicitDefEqProofs (maxSteps := 2000000) only [go_sem, c2, rtk, ftk]
    refine call_of (specFormatQuery_sat l ⟨allV ps ps.length, allA l ps ps.length, freeT w0 w0.size⟩ hl hq) (by simp -implicitDefEqProofs (maxSteps := 2000000) only [go_sem, g, rtk, ftk]) (callOk_still (by kernel_rfl) (by simp only [List.all_cons, List.all_nil, LV.still, LV.leaves, Leaf.still, ints_still, ris_still, eds_still, rels_still, iss_still, ems_still, Bool.and_self, Bool.and_true])) (by simp -implicitDefEqProofs (maxSteps := 2000000) only [go_sem, g, rtk, ftk]) ?_
    simp -implicitDefEqProofs (maxSteps := 2000000) only [go_sem, g, rtk, ftk]
    exact ⟨⟨by omega, by omega⟩, rfl⟩
end Go.Proofs.Ytedciihjgbkjgaa.A


/- QUERIES DRAWN: more walks. Conditions: none. -/
namespace Go.Proofs.Ytedciihjgbkjgaa.A
open Go
set_option linter.unusedSimpArgs false
set_option linter.unusedVariables false
set_option maxRecDepth 100000

def qryA (c : Cur) : List RI × Cur := atsD (byC (byC (byC c))) (1 + beV (byC c) 4) (beV (byC (byC c)) 4) (1 + beV c 3)
set_option maxHeartbeats 4000000 in
theorem l11Query_sat (c : Cur) (hc : c.ok) : Sat Try.prog 92 [lCur c] [oQu (tightQ ⟨0, (qryA c).1, []⟩)] [lCur (qryA c).2] := by
  refine sat_of_body mixed Try.func92 rfl (by kernel_rfl) (by kernel_rfl) (rs := [.cell 2 28]) rfl rfl rfl ?_
  have k1 := byC_ok hc
  have k2 := byC_ok k1
  have k3 := byC_ok k2
  have s0 := l1Below_sat c 3 hc (by decide) (by decide)
  have s1 := l1Below_sat (byC c) 4 k1 (by decide) (by decide)
  have s2 := l1Below_sat (byC (byC c)) 4 k2 (by decide) (by decide)
  have b0 := beV_lt c (n := 3) (by decide)
  have b1 := beV_lt (byC c) (n := 4) (by decide)
  have b2 := beV_lt (byC (byC c)) (n := 4) (by decide)
  have hq : qryA c = atsD (byC (byC (byC c))) (1 + beV (byC c) 4) (beV (byC (byC c)) 4) (1 + beV c 3) := rfl
  rw [hq]
  clear hq
  generalize beV c 3 = n0 at s0 b0 ⊢
  generalize beV (byC c) 4 = v0 at s1 b1 ⊢
  generalize beV (byC (byC c)) 4 = f at s2 b2 ⊢
  generalize byC c = c1 at *
  generalize byC c1 = c2 at *
  generalize byC c2 = c3 at *
  obtain ⟨n, hn⟩ : ∃ n, n = 1 + n0 := ⟨_, rfl⟩
  obtain ⟨v, hv⟩ : ∃ v, v = 1 + v0 := ⟨_, rfl⟩
  have w1 : IntKind.i64.wrap (1 + ((n0 : Nat) : Int)) = ((n : Nat) : Int) := by rw [IntWalk.i64_in _ (by omega)]; omega
  have w2 : IntKind.i64.wrap (1 + ((v0 : Nat) : Int)) = ((v : Nat) : Int) := by rw [IntWalk.i64_in _ (by omega)]; omega
  rw [← hn, ← hv]
  have hA := atsD_len c3 v f
  have hAk := atsD_ok k3 v f
  simp -implicitDefEqProofs (maxSteps := 2000000) only [go_sem]
  refine call_of (s0) (by simp -implicitDefEqProofs (maxSteps := 2000000) only [go_sem, w1] <;> and_intros <;> rfl) (by kernel_rfl) (by simp -implicitDefEqProofs (maxSteps := 2000000) only [go_sem, w1]) ?_
  simp -implicitDefEqProofs (maxSteps := 2000000) only [go_sem, w1]
  refine call_of (s1) (by simp -implicitDefEqProofs (maxSteps := 2000000) only [go_sem, w2] <;> and_intros <;> rfl) (by kernel_rfl) (by simp -implicitDefEqProofs (maxSteps := 2000000) only [go_sem, w2]) ?_
  simp -implicitDefEqProofs (maxSteps := 2000000) only [go_sem, w2]
  refine call_of (s2) (by simp -implicitDefEqProofs (maxSteps := 2000000) only [go_sem] <;> and_intros <;> rfl) (by kernel_rfl) (by simp -implicitDefEqProofs (maxSteps := 2000000) only [go_sem]) ?_
  simp -implicitDefEqProofs (maxSteps := 2000000) only [go_sem]
  refine awp_loop Nat (fun i => mkSt [(0, .one (.vad 0 0)), (2, .one (.vad 1000 0)), (3, .one (.vad 1128 0)), (4, .sc (.int .i64 n)), (5, .sc (.int .i64 v)), (6, .sc (.int .i64 f)), (7, .sc (.int .i64 i))] [(0, sCur (atsD c3 v f i).2), (1000, zQ2), (1128, [.sc (.int .i64 0), .ref 960 2 0 i, .sc (.slice none 0 0)])] [(960, (2, ris 999 (atsD c3 v f i).1))] 8000)
    (fun i => i ≤ n) (fun i => n - i) 0 (by omega) (le_st _ _ [⟨960, none, false, 2, _⟩] [] _ rfl (by simp -implicitDefEqProofs (maxSteps := 2000000) only [go_sem, atsD, ris_nil] <;> rfl) (by simp -implicitDefEqProofs (maxSteps := 2000000) only [go_sem, atsD, ris_nil] <;> rfl) (by simp -implicitDefEqProofs (maxSteps := 2000000) only [go_sem, atsD, ris_nil] <;> rfl)) ?_
  rintro i h1
  have hAi := hA i
  have hki := hAk i
  by_cases c1 : i < n
  · have wi : IntKind.i64.wrap ((i : Int) + 1) = ((i + 1 : Nat) : Int) := i64_succ (by omega)
    have hst : atsD c3 v f (i + 1) = ((atsD c3 v f i).1 ++ [⟨(((f + i) % 4 : Nat) : Int), (tmsD (atsD c3 v f i).2 v (2 + ((f + i) % 4) / 3)).1⟩], (tmsD (atsD c3 v f i).2 v (2 + ((f + i) % 4) / 3)).2) := rfl
    have a1 : IntKind.i64.wrap (((f : Nat) : Int) + ((i : Nat) : Int)) = ((f + i : Nat) : Int) := by rw [IntWalk.i64_in _ (by omega)]; omega
    have a2 : Int.tmod ((f + i : Nat) : Int) 4 = (((f + i) % 4 : Nat) : Int) := by rw [Int.tmod_eq_emod_of_nonneg (by omega)]; omega
    have hr4 : (f + i) % 4 < 4 := Nat.mod_lt _ (by decide)
    generalize (f + i) % 4 = r at hst a2 hr4
    have a3 : Int.tdiv ((r : Nat) : Int) 3 = ((r / 3 : Nat) : Int) := by rw [Int.tdiv_eq_ediv_of_nonneg (by omega)]; omega
    have a4 : IntKind.i64.wrap (2 + ((r / 3 : Nat) : Int)) = ((2 + r / 3 : Nat) : Int) := by rw [IntWalk.i64_in _ (by omega)]; omega
    have a5 : IntKind.i64.wrap ((r / 3 : Nat) : Int) = ((r / 3 : Nat) : Int) := IntWalk.i64_in _ (by omega)
    obtain ⟨m, hm⟩ : ∃ m, m = 2 + r / 3 := ⟨_, rfl⟩
    rw [← hm] at hst a4
    generalize atsD c3 v f i = s at hst hAi hki ⊢
    have hT := tmsD_len s.2 v
    have hTk := tmsD_ok hki v
    simp -implicitDefEqProofs (maxSteps := 2000000) only [go_sem, c1, a1, a2, a3, a5, a4]
    repeat (refine ⟨by decide, ?_⟩)
    refine awp_loop Nat (fun j => mkSt [(0, .one (.vad 0 0)), (2, .one (.vad 1000 0)), (3, .one (.vad 1128 0)), (4, .sc (.int .i64 n)), (5, .sc (.int .i64 v)), (6, .sc (.int .i64 f)), (7, .sc (.int .i64 i)), (9, .one (.vad 8640 0)), (10, .sc (.int .i64 ((m : Int) - (j : Int))))] [(0, sCur (tmsD s.2 v j).2), (1000, zQ2), (1128, [.sc (.int .i64 0), .ref 960 2 0 i, .sc (.slice none 0 0)]), (8640, [.sc (.int .i64 r), .ref 961 1 0 j])] [(960, (2, ris 999 s.1)), (961, (1, ints (tmsD s.2 v j).1))] 16000)
      (fun j => j ≤ m) (fun j => m - j) 0 (by omega) (le_st' _ _ [⟨960, some _, false, 2, _⟩, ⟨961, none, false, 1, _⟩] [] _ (by simp -implicitDefEqProofs (maxSteps := 2000000) only [go_sem, tmsD, ints_nil, Int.sub_zero, Int.natCast_zero] <;> and_intros <;> rfl) (by simp -implicitDefEqProofs (maxSteps := 2000000) only [go_sem, tmsD, ints_nil, Int.sub_zero, Int.natCast_zero] <;> and_intros <;> rfl) (by simp -implicitDefEqProofs (maxSteps := 2000000) only [go_sem, tmsD, ints_nil, Int.sub_zero, Int.natCast_zero] <;> and_intros <;> rfl) (by rfl)) ?_
    rintro j h2
    have hTj := hT j
    have hTkj := hTk j
    have htk : List.take j (tmsD s.2 v j).1 = (tmsD s.2 v j).1 := List.take_of_length_le (by omega)
    by_cases c2 : j < m
    · have d1 : decide ((m : Int) - (j : Int) > 0) = true := decide_eq_true (by omega)
      have wj : IntKind.i64.wrap ((m : Int) - (j : Int) - 1) = (m : Int) - ((j + 1 : Nat) : Int) := by rw [IntWalk.i64_in _ (by omega)]; omega
      have hs1 : tmsD s.2 v (j + 1) = ((tmsD s.2 v j).1 ++ [tmD (tmsD s.2 v j).2 v], byC (byC (tmsD s.2 v j).2)) := rfl
      generalize tmsD s.2 v j = u at hTj hTkj htk hs1 ⊢
      rcases d2 : onV u.2 12
      · have e2 : tmD u.2 v = ((beV (byC u.2) v : Nat) : Int) := by unfold tmD; rw [d2]; rfl
        simp -implicitDefEqProofs (maxSteps := 2000000) only [go_sem, d1, htk]
        refine call_of (l1Once_sat u.2 12 hTkj (by decide) (by decide)) (by simp -implicitDefEqProofs (maxSteps := 2000000) only [go_sem, d2, htk] <;> and_intros <;> rfl) (by kernel_rfl) (by simp -implicitDefEqProofs (maxSteps := 2000000) only [go_sem, d2, htk]) ?_
        simp -implicitDefEqProofs (maxSteps := 2000000) only [go_sem, d2, htk]
        refine call_of (l1Below_sat (byC u.2) v (byC_ok hTkj) (by omega) (by omega)) (by simp -implicitDefEqProofs (maxSteps := 2000000) only [go_sem, hTj, htk]) (by kernel_rfl) (by simp -implicitDefEqProofs (maxSteps := 2000000) only [go_sem, hTj, htk]) ?_
        simp -implicitDefEqProofs (maxSteps := 2000000) only [go_sem, hTj, htk]
        repeat (refine And.intro (by omega) ?_)
        first | (with_reducible refine tr_and ?_ ?_; focus kernel_rfl) | (with_reducible refine tr_only ?_; kernel_rfl) | skip
        rw [wj]
        refine ⟨j + 1, c2, by omega, ?_⟩
        exact (le_st' _ _ [⟨960, some _, false, 2, _⟩, ⟨961, some _, false, 1, _⟩] [] _ (by simp -implicitDefEqProofs (maxSteps := 2000000) only [go_sem, hs1, e2, hTj, htk] <;> and_intros <;> rfl) (by simp -implicitDefEqProofs (maxSteps := 2000000) only [go_sem, hs1, e2, hTj, htk] <;> and_intros <;> rfl) (by simp -implicitDefEqProofs (maxSteps := 2000000) only [go_sem, hs1, e2, hTj, htk] <;> and_intros <;> rfl) (by rfl))
      · have e2 : tmD u.2 v = -1 - ((beV (byC u.2) 2 : Nat) : Int) := by unfold tmD; rw [d2]; rfl
        have b3 := beV_lt (byC u.2) (n := 2) (by decide)
        have w3 : IntKind.i64.wrap (-1 - ((beV (byC u.2) 2 : Nat) : Int)) = -1 - ((beV (byC u.2) 2 : Nat) : Int) := IntWalk.i64_in _ (by omega)
        simp -implicitDefEqProofs (maxSteps := 2000000) only [go_sem, d1, htk]
        refine call_of (l1Once_sat u.2 12 hTkj (by decide) (by decide)) (by simp -implicitDefEqProofs (maxSteps := 2000000) only [go_sem, d2, htk] <;> and_intros <;> rfl) (by kernel_rfl) (by simp -implicitDefEqProofs (maxSteps := 2000000) only [go_sem, d2, htk]) ?_
        simp -implicitDefEqProofs (maxSteps := 2000000) only [go_sem, d2, htk]
        refine call_of (l1Below_sat (byC u.2) 2 (byC_ok hTkj) (by decide) (by decide)) (by simp -implicitDefEqProofs (maxSteps := 2000000) only [go_sem, hTj, htk, w3] <;> and_intros <;> rfl) (by kernel_rfl) (by simp -implicitDefEqProofs (maxSteps := 2000000) only [go_sem, hTj, htk, w3]) ?_
        simp -implicitDefEqProofs (maxSteps := 2000000) only [go_sem, hTj, htk, w3]
        repeat (refine And.intro (by omega) ?_)
        first | (with_reducible refine tr_and ?_ ?_; focus kernel_rfl) | (with_reducible refine tr_only ?_; kernel_rfl) | skip
        rw [wj]
        refine ⟨j + 1, c2, by omega, ?_⟩
        exact (le_st' _ _ [⟨960, some _, false, 2, _⟩, ⟨961, some _, false, 1, _⟩] [] _ (by simp -implicitDefEqProofs (maxSteps := 2000000) only [go_sem, hs1, e2, hTj, htk] <;> and_intros <;> rfl) (by simp -implicitDefEqProofs (maxSteps := 2000000) only [go_sem, hs1, e2, hTj, htk] <;> and_intros <;> rfl) (by simp -implicitDefEqProofs (maxSteps := 2000000) only [go_sem, hs1, e2, hTj, htk] <;> and_intros <;> rfl) (by rfl))
    · obtain rfl : j = m := by omega
      have d1 : decide ((j : Int) - (j : Int) > 0) = false := decide_eq_false (by omega)
      simp -implicitDefEqProofs (maxSteps := 2000000) only [go_sem, d1, htk]
      repeat (refine And.intro (by omega) ?_)
      rw [wi]
      refine ⟨i + 1, c1, by omega, ?_⟩
      rw [hst]
      exact (le_st' _ _ [⟨960, some _, false, 2, _⟩] [] _ (by simp -implicitDefEqProofs (maxSteps := 2000000) only [go_sem, hTj, hAi, htk, repD1, List.set_cons_zero] <;> and_intros <;> rfl) (by simp -implicitDefEqProofs (maxSteps := 2000000) only [go_sem, hTj, hAi, htk, repD1, List.set_cons_zero] <;> and_intros <;> rfl) (by simp -implicitDefEqProofs (maxSteps := 2000000) only [go_sem, hTj, hAi, htk, repD1, List.set_cons_zero] <;> and_intros <;> rfl) (by rfl))
  · obtain rfl : i = n := by omega
    have hAm := fun x hx => atsD_mem (c := c3) (v := v) (f := f) (k := i) x hx
    have htk : List.take i (ris 999 (atsD c3 v f i).1) = ris 999 (atsD c3 v f i).1 := List.take_of_length_le (by rw [ris_length]; omega)
    simp -implicitDefEqProofs (maxSteps := 2000000) only [go_sem, c1, htk]
    refine call_of (l11Tight_sat ⟨0, (atsD c3 v f i).1, []⟩ ⟨⟨by simp only; omega, fun x hx => by have := hAm x hx; unfold RI.ok; omega⟩, by simp⟩ (by simp only; omega) (fun x hx => by have := hAm x hx; omega)) (by simp -implicitDefEqProofs (maxSteps := 2000000) only [go_sem, htk] <;> and_intros <;> rfl) (callOk_still (by kernel_rfl) (by simp only [List.all_cons, List.all_nil, LV.still, LV.leaves, Leaf.still, ints_still, ris_still, eds_still, rels_still, iss_still, ems_still, Bool.and_self, Bool.and_true])) (by simp -implicitDefEqProofs (maxSteps := 2000000) only [go_sem, htk]) ?_
    simp -implicitDefEqProofs (maxSteps := 2000000) only [go_sem, htk]
    and_intros <;> rfl

/-! #### known queries -/
def knL : List ByteArray := [⟨#[63, 114, 120, 124, 121, 32, 115, 121, 124, 122]⟩, ⟨#[63, 114, 120, 124, 121, 32, 115, 121, 124, 120]⟩, ⟨#[63, 114, 120, 124, 121, 32, 115, 122, 124, 121]⟩, ⟨#[63, 114, 120, 124, 121, 32, 115, 120, 124, 122]⟩, ⟨#[63, 114, 120, 124, 49]⟩, ⟨#[63, 114, 120, 124, 120]⟩, ⟨#[63, 114, 120, 124, 121, 32, 115, 121, 124, 49]⟩, ⟨#[63, 114, 120, 124, 121, 32, 115, 121, 124, 122, 32, 114]⟩, ⟨#[63, 114, 120, 124, 121]⟩, ⟨#[63, 114, 120, 124, 122, 32, 115, 121, 124, 122]⟩]
def kn0 : ByteArray := ⟨#[63, 114, 120, 124, 121, 32, 115, 121, 124, 122]⟩
theorem knL_ok : ∀ i : Fin 10, (knL.getD i.val ⟨#[]⟩).size ≤ 100 ∧ 0 < (knL.getD i.val ⟨#[]⟩).size := by decide
theorem kn0_ok : ∀ (i : Fin 4) (j : Fin 2), okQ (sigR (sigL.getD i.val 0) (1 + ((j.val : Nat) : Int))) kn0 = true := by decide +kernel
/-- A query as it is drawn. -/
structure QuD (m : Nat) (q : Qu) : Prop where
  vc : -1 ≤ q.vc ∧ q.vc ≤ m
  n : 1 ≤ q.atoms.length ∧ q.atoms.length ≤ m
  first : 1 ≤ (q.atoms.getD 0 default).l.length
  all : ∀ x ∈ q.atoms, x.l.length ≤ m
  free : q.free.length ≤ m
theorem QuD.ok {m : Nat} {q : Qu} (h : QuD m q) (hm : m ≤ 1000) : q.ok := by
  have h1 := h.n
  have h2 := h.free
  exact ⟨⟨by omega, fun x hx => by have := h.all x hx; unfold RI.ok; omega⟩, by omega⟩
theorem okQ_D {l : List Rel} {s : ByteArray} (h : okQ l s = true) (hs : s.size ≤ 100) (h0 : 0 < s.size) : QuD 100 (parQ l s) := by
  have e : parQ l s = readQ l s := by rw [parQ, if_pos h]
  have hr := readQ_ok (l := l) (show s.size ≤ 1048575 by omega)
  unfold okQ at h
  rw [Bool.and_eq_true, decide_eq_true_iff, decide_eq_true_iff] at h
  have g : goodQu l (readQ l s) = true := by
    rcases g : goodQu l (readQ l s)
    · have := h.2
      rw [quText, g, if_neg (by simp)] at this
      rw [← this] at h0
      exact absurd h0 (by decide)
    · rfl
  rw [e]
  obtain ⟨p1, p2, p3⟩ := goodQu_parts g
  have len : ∀ k, k < (readQ l s).atoms.length → 1 ≤ ((readQ l s).atoms.getD k default).l.length ∧ ((readQ l s).atoms.getD k default).l.length ≤ 3 := by
    intro k hk
    have h3 := goodQu_at g hk
    unfold atomOk relAt at h3
    simp only [Bool.and_eq_true, beq_iff_eq] at h3
    have h4 := inB_of h3.1.1
    have gr : goodRels l = true := by unfold goodQu at g; rw [Bool.and_eq_true] at g; exact g.1
    have h5 := (rel_of gr (show ((readQ l s).atoms.getD k default).r.toNat < l.length by omega)).1
    have h6 := h3.1.2
    omega
  have m0 : ((splS s 63).getD 0 ⟨#[]⟩).size ≤ s.size := splS_mem s 63 _ (mem_getD (⟨#[]⟩ : ByteArray) (by omega))
  refine ⟨by omega, by omega, (len 0 (by omega)).1, fun x hx => ?_, ?_⟩
  · obtain ⟨k, hk, rfl⟩ := List.mem_iff_getElem.mp hx
    have := (len k hk).2
    rw [List.getD_eq_getElem?_getD, List.getElem?_eq_getElem hk] at this
    simp only [Option.getD_some] at this
    omega
  · show (freeT _ _).length ≤ 100
    rw [freeT_len]; omega
theorem sigs_form (c : Cur) : ∃ (i : Fin 4) (j : Fin 2), sigs c = sigR (sigL.getD i.val 0) (1 + ((j.val : Nat) : Int)) :=
  ⟨⟨beV c 4, beV_lt c (by decide)⟩, ⟨beV (byC c) 2, beV_lt (byC c) (by decide)⟩, rfl⟩
theorem l11Known_ex (c0 c : Cur) (hc : c.ok) : ∃ q : Qu, QuD 100 q ∧ Sat Try.prog 93 [lCur c, lRels (sigs c0)] [oQu q] [lCur (byC c), g1] := by
  obtain ⟨hk1, hk2⟩ := knL_ok ⟨beV c 10, beV_lt c (by decide)⟩
  simp only at hk1 hk2
  have s0 := l1Pick_own c knL hc (by decide) (by decide)
  have el : knL.length = 10 := rfl
  rw [el] at s0
  have hl := sigs_len c0
  obtain ⟨fi, fj, hf⟩ := sigs_form c0
  have h0 := kn0_ok fi fj
  rw [← hf] at h0
  have eL : (((((((((((List.replicate 10 ByteArray.empty).set 0 ⟨#[63, 114, 120, 124, 121, 32, 115, 121, 124, 122]⟩).set 1 ⟨#[63, 114, 120, 124, 121, 32, 115, 121, 124, 120]⟩).set 2 ⟨#[63, 114, 120, 124, 121, 32, 115, 122, 124, 121]⟩).set 3 ⟨#[63, 114, 120, 124, 121, 32, 115, 120, 124, 122]⟩).set 4 ⟨#[63, 114, 120, 124, 49]⟩).set 5 ⟨#[63, 114, 120, 124, 120]⟩).set 6 ⟨#[63, 114, 120, 124, 121, 32, 115, 121, 124, 49]⟩).set 7 ⟨#[63, 114, 120, 124, 121, 32, 115, 121, 124, 122, 32, 114]⟩).set 8 ⟨#[63, 114, 120, 124, 121]⟩).set 9 ⟨#[63, 114, 120, 124, 122, 32, 115, 121, 124, 122]⟩) = knL := rfl
  generalize sigs c0 = l at hl h0 ⊢
  generalize knL.getD (beV c 10) ⟨#[]⟩ = s at hk1 hk2 s0
  rcases g : okQ l s
  · refine ⟨parQ l kn0, okQ_D h0 (by decide) (by decide), ?_⟩
    refine sat_of_body mixed Try.func93 rfl (by kernel_rfl) (by kernel_rfl) (rs := [.cell 4 28]) rfl rfl rfl ?_
    simp -implicitDefEqProofs (maxSteps := 2000000) only [go_sem]
    refine call_of (s0) (by simp -implicitDefEqProofs (maxSteps := 2000000) only [go_sem, eL, el]) (by kernel_rfl) (by simp -implicitDefEqProofs (maxSteps := 2000000) only [go_sem, eL, el]) ?_
    simp -implicitDefEqProofs (maxSteps := 2000000) only [go_sem, eL, el]
    refine call_of (specParseQuery_sat l s (by omega) (by omega)) (by simp -implicitDefEqProofs (maxSteps := 2000000) only [go_sem, g]) (by kernel_rfl) (by simp -implicitDefEqProofs (maxSteps := 2000000) only [go_sem, g]) ?_
    simp -implicitDefEqProofs (maxSteps := 2000000) only [go_sem, g]
    refine call_of (specParseQuery_sat l kn0 (by omega) (by decide)) (by simp -implicitDefEqProofs (maxSteps := 2000000) only [go_sem] <;> and_intros <;> rfl) (by kernel_rfl) (by simp -implicitDefEqProofs (maxSteps := 2000000) only [go_sem]) ?_
    simp -implicitDefEqProofs (maxSteps := 2000000) only [go_sem]
    and_intros <;> rfl
  · refine ⟨parQ l s, okQ_D g hk1 hk2, ?_⟩
    refine sat_of_body mixed Try.func93 rfl (by kernel_rfl) (by kernel_rfl) (rs := [.cell 4 28]) rfl rfl rfl ?_
    simp -implicitDefEqProofs (maxSteps := 2000000) only [go_sem]
    refine call_of (s0) (by simp -implicitDefEqProofs (maxSteps := 2000000) only [go_sem, eL, el]) (by kernel_rfl) (by simp -implicitDefEqProofs (maxSteps := 2000000) only [go_sem, eL, el]) ?_
    simp -implicitDefEqProofs (maxSteps := 2000000) only [go_sem, eL, el]
    refine call_of (specParseQuery_sat l s (by omega) (by omega)) (by simp -implicitDefEqProofs (maxSteps := 2000000) only [go_sem, g]) (by kernel_rfl) (by simp -implicitDefEqProofs (maxSteps := 2000000) only [go_sem, g]) ?_
    simp -implicitDefEqProofs (maxSteps := 2000000) only [go_sem, g]
    and_intros <;> rfl
end Go.Proofs.Ytedciihjgbkjgaa.A


/- QUERIES DRAWN, with free variables. Conditions: none. -/
namespace Go.Proofs.Ytedciihjgbkjgaa.A
open Go
set_option linter.unusedSimpArgs false
set_option linter.unusedVariables false
set_option maxRecDepth 100000

def frD (c : Cur) : Nat → List Int × Cur
  | 0 => ([], c)
  | k + 1 => (if onV (frD c k).2 3 then (frD c k).1 ++ [(k : Int)] else (frD c k).1, byC (frD c k).2)
theorem frD_ok {c : Cur} (h : c.ok) : ∀ k, (frD c k).2.ok ∧ (frD c k).1.length ≤ k
  | 0 => ⟨h, Nat.le_refl _⟩
  | k + 1 => by
    obtain ⟨h1, h2⟩ := frD_ok h k
    refine ⟨byC_ok h1, ?_⟩
    show (if onV (frD c k).2 3 then (frD c k).1 ++ [(k : Int)] else (frD c k).1).length ≤ k + 1
    split
    · rw [List.length_append, List.length_singleton]; omega
    · omega
theorem QuD.more {m n : Nat} {q : Qu} (h : QuD m q) (hm : m ≤ n) : QuD n q := by
  have h1 := h.vc
  have h2 := h.n
  have h3 := h.free
  exact ⟨by omega, by omega, h.first, fun x hx => by have := h.all x hx; omega, by omega⟩
theorem tight_D (c : Cur) (hc : c.ok) : QuD 100 (tightQ ⟨0, (qryA c).1, []⟩) ∧ (qryA c).2.ok := by
  have b := beV_lt c (n := 3) (by decide)
  have hl : (qryA c).1.length = 1 + beV c 3 := atsD_len _ _ _ _
  have hm : ∀ x ∈ (qryA c).1, 2 ≤ x.l.length ∧ x.l.length ≤ 3 := fun x hx => atsD_mem x hx
  refine ⟨?_, atsD_ok (byC_ok (byC_ok (byC_ok hc))) _ _ _⟩
  generalize (qryA c).1 = X at hl hm
  have hM : ∀ i : Nat, (X.getD i default).l.length ≤ 3 := getD_le (fun x hx => (hm x hx).2)
  obtain ⟨⟨t1, t2⟩, t3⟩ := tgAll_ok hM X.length
  have t4 : X.length * 3 ≤ 9 := by omega
  unfold tightQ
  refine ⟨by simp only; omega, by simp only; omega, ?_, fun x hx => ?_, by simp⟩
  · simp only
    rw [t2 0]
    have := (hm _ (mem_getD default (show 0 < X.length by omega))).1
    omega
  · obtain ⟨k, hk, rfl⟩ := List.mem_iff_getElem.mp hx
    have := t2 k
    rw [List.getD_eq_getElem?_getD, List.getElem?_eq_getElem hk, Option.getD_some] at this
    rw [this]
    have := hM k
    omega
set_option maxHeartbeats 8000000 in
theorem l11Draw_ex (c0 c : Cur) (hc : c.ok) : ∃ (q : Qu) (c' : Cur), QuD 200 q ∧ c'.ok ∧ Sat Try.prog 85 [lCur c, lRels (sigs c0)] [oQu q] [lCur c', g1] := by
  have s0 := l11Query_sat c hc
  obtain ⟨hq0, k1⟩ := tight_D c hc
  generalize tightQ ⟨0, (qryA c).1, []⟩ = q0 at s0 hq0
  generalize (qryA c).2 = c1 at s0 k1
  have kb := byC_ok k1
  rcases d3 : onV c1 3
  · obtain ⟨c2, e2⟩ : ∃ c2, c2 = byC c1 := ⟨_, rfl⟩
    obtain ⟨q, eq⟩ : ∃ q, q = q0 := ⟨_, rfl⟩
    have k2 : c2.ok := by rw [e2]; exact kb
    have hq : QuD 100 q := by rw [eq]; exact hq0
    subst e2 eq
    rcases d4 : onV (byC c1) 4
    · have d4 : onV (byC c1) 4 = false := d4
      refine ⟨q, byC (byC c1), hq.more (by decide), byC_ok k2, ?_⟩
      refine sat_of_body mixed Try.func85 rfl (by kernel_rfl) (by kernel_rfl) (rs := [.cell 4 28]) rfl rfl rfl ?_
      simp -implicitDefEqProofs (maxSteps := 2000000) only [go_sem]
      refine call_of (s0) (by simp -implicitDefEqProofs (maxSteps := 2000000) only [go_sem]) (by kernel_rfl) (by simp -implicitDefEqProofs (maxSteps := 2000000) only [go_sem]) ?_
      simp -implicitDefEqProofs (maxSteps := 2000000) only [go_sem]
      refine call_of (l1Once_sat c1 3 k1 (by decide) (by decide)) (by simp -implicitDefEqProofs (maxSteps := 2000000) only [go_sem, d3] <;> and_intros <;> rfl) (by kernel_rfl) (by simp -implicitDefEqProofs (maxSteps := 2000000) only [go_sem, d3]) ?_
      simp -implicitDefEqProofs (maxSteps := 2000000) only [go_sem, d3]
      refine call_of (l1Once_sat (byC c1) 4 k2 (by decide) (by decide)) (by simp -implicitDefEqProofs (maxSteps := 2000000) only [go_sem, d4] <;> and_intros <;> rfl) (by kernel_rfl) (by simp -implicitDefEqProofs (maxSteps := 2000000) only [go_sem, d4]) ?_
      simp -implicitDefEqProofs (maxSteps := 2000000) only [go_sem, d4]
      and_intros <;> rfl
    · have d4 : onV (byC c1) 4 = true := d4
      have hF := frD_ok (byC_ok k2)
      obtain ⟨N, hN⟩ : ∃ N : Nat, N = q.vc.toNat := ⟨_, rfl⟩
      have hvc := hq.vc
      have hfr := hq.free
      have hna := hq.n
      obtain ⟨o1, o2⟩ := hF N
      refine ⟨⟨q.vc, q.atoms, q.free ++ (frD (byC (byC c1)) N).1⟩, (frD (byC (byC c1)) N).2, ⟨by simp only; omega, by simp only; omega, hq.first, (hq.more (by decide)).all, by simp only [List.length_append]; omega⟩, o1, ?_⟩
      refine sat_of_body mixed Try.func85 rfl (by kernel_rfl) (by kernel_rfl) (rs := [.cell 4 28]) rfl rfl rfl ?_
      simp -implicitDefEqProofs (maxSteps := 2000000) only [go_sem]
      refine call_of (s0) (by simp -implicitDefEqProofs (maxSteps := 2000000) only [go_sem]) (by kernel_rfl) (by simp -implicitDefEqProofs (maxSteps := 2000000) only [go_sem]) ?_
      simp -implicitDefEqProofs (maxSteps := 2000000) only [go_sem]
      refine call_of (l1Once_sat c1 3 k1 (by decide) (by decide)) (by simp -implicitDefEqProofs (maxSteps := 2000000) only [go_sem, d3] <;> and_intros <;> rfl) (by kernel_rfl) (by simp -implicitDefEqProofs (maxSteps := 2000000) only [go_sem, d3]) ?_
      simp -implicitDefEqProofs (maxSteps := 2000000) only [go_sem, d3]
      refine call_of (l1Once_sat (byC c1) 4 k2 (by decide) (by decide)) (by simp -implicitDefEqProofs (maxSteps := 2000000) only [go_sem, d4] <;> and_intros <;> rfl) (by kernel_rfl) (by simp -implicitDefEqProofs (maxSteps := 2000000) only [go_sem, d4]) ?_
      simp -implicitDefEqProofs (maxSteps := 2000000) only [go_sem, d4]
      refine awp_loop Nat (fun k => mkSt [(0, .one (.vad 0 0)), (4, .one (.vad 1000 0)), (5, .one (.vad 1192 0)), (6, .sc (.int .i64 k))] [(0, sCur (frD (byC (byC c1)) k).2), (1000, zQ2), (1192, [.sc (.int .i64 q.vc), .ref 960 2 0 q.atoms.length, .ref 961 1 0 (q.free.length + (frD (byC (byC c1)) k).1.length)])] [(960, (2, ris 999 q.atoms)), (961, (1, ints (q.free ++ (frD (byC (byC c1)) k).1)))] 12000)
        (fun k => k ≤ N) (fun k => N - k) 0 (by omega) (le_st' _ _ [⟨960, some _, false, 2, _⟩, ⟨961, some _, false, 1, _⟩] [] _ (by simp -implicitDefEqProofs (maxSteps := 2000000) only [go_sem, frD, List.length_nil, List.append_nil, Nat.add_zero] <;> and_intros <;> rfl) (by simp -implicitDefEqProofs (maxSteps := 2000000) only [go_sem, frD, List.length_nil, List.append_nil, Nat.add_zero] <;> and_intros <;> rfl) (by simp -implicitDefEqProofs (maxSteps := 2000000) only [go_sem, frD, List.length_nil, List.append_nil, Nat.add_zero] <;> and_intros <;> rfl) (by rfl)) ?_
      rintro k h1
      obtain ⟨m1, m2⟩ := hF k
      by_cases c5 : k < N
      · have d5 : decide (((k : Nat) : Int) < q.vc) = true := decide_eq_true (by omega)
        have wk : IntKind.i64.wrap ((k : Int) + 1) = ((k + 1 : Nat) : Int) := i64_succ (by omega)
        rcases d6 : onV (frD (byC (byC c1)) k).2 3
        · have e1 : frD (byC (byC c1)) (k + 1) = ((frD (byC (byC c1)) k).1, byC (frD (byC (byC c1)) k).2) := by rw [frD, d6]; rfl
          simp -implicitDefEqProofs (maxSteps := 2000000) only [go_sem, d5]
          refine call_of (l1Once_sat (frD (byC (byC c1)) k).2 3 m1 (by decide) (by decide)) (by simp -implicitDefEqProofs (maxSteps := 2000000) only [go_sem, d6] <;> and_intros <;> rfl) (by kernel_rfl) (by simp -implicitDefEqProofs (maxSteps := 2000000) only [go_sem, d6]) ?_
          simp -implicitDefEqProofs (maxSteps := 2000000) only [go_sem, d6]
          rw [wk]
          exact ⟨k + 1, c5, by omega, (le_st' _ _ [⟨960, some _, false, 2, _⟩, ⟨961, some _, false, 1, _⟩] [] _ (by simp -implicitDefEqProofs (maxSteps := 2000000) only [go_sem, e1] <;> and_intros <;> rfl) (by simp -implicitDefEqProofs (maxSteps := 2000000) only [go_sem, e1] <;> and_intros <;> rfl) (by simp -implicitDefEqProofs (maxSteps := 2000000) only [go_sem, e1] <;> and_intros <;> rfl) (by rfl))⟩
        · have e1 : frD (byC (byC c1)) (k + 1) = ((frD (byC (byC c1)) k).1 ++ [(k : Int)], byC (frD (byC (byC c1)) k).2) := by rw [frD, d6]; rfl
          have et : List.take (q.free.length + (frD (byC (byC c1)) k).1.length) (q.free ++ (frD (byC (byC c1)) k).1) = q.free ++ (frD (byC (byC c1)) k).1 := List.take_of_length_le (by rw [List.length_append]; exact Nat.le_refl _)
          simp -implicitDefEqProofs (maxSteps := 2000000) only [go_sem, d5]
          refine call_of (l1Once_sat (frD (byC (byC c1)) k).2 3 m1 (by decide) (by decide)) (by simp -implicitDefEqProofs (maxSteps := 2000000) only [go_sem, d6, et] <;> and_intros <;> rfl) (by kernel_rfl) (by simp -implicitDefEqProofs (maxSteps := 2000000) only [go_sem, d6, et]) ?_
          simp -implicitDefEqProofs (maxSteps := 2000000) only [go_sem, d6, et]
          repeat (refine And.intro (by omega) ?_)
          rw [wk]
          refine ⟨k + 1, c5, by omega, ?_⟩
          exact (le_st' _ _ [⟨960, some _, false, 2, _⟩, ⟨961, some _, false, 1, _⟩] [] _ (by simp -implicitDefEqProofs (maxSteps := 2000000) only [go_sem, e1, et, List.append_assoc, Nat.add_assoc, repP, List.set_cons_zero, List.length_append, List.length_singleton] <;> and_intros <;> rfl) (by simp -implicitDefEqProofs (maxSteps := 2000000) only [go_sem, e1, et, List.append_assoc, Nat.add_assoc, repP, List.set_cons_zero, List.length_append, List.length_singleton] <;> and_intros <;> rfl) (by simp -implicitDefEqProofs (maxSteps := 2000000) only [go_sem, e1, et, List.append_assoc, Nat.add_assoc, repP, List.set_cons_zero, List.length_append, List.length_singleton] <;> and_intros <;> rfl) (by rfl))
      · obtain rfl : k = N := by omega
        have d5 : decide (((k : Nat) : Int) < q.vc) = false := decide_eq_false (by omega)
        simp -implicitDefEqProofs (maxSteps := 2000000) only [go_sem, d5]
        and_intros <;> first | rfl | (rw [List.length_append])
  · obtain ⟨q, hq, s1⟩ := l11Known_ex c0 (byC c1) kb
    have k2 := byC_ok kb
    rcases d4 : onV (byC (byC c1)) 4
    · have d4 : onV (byC (byC c1)) 4 = false := d4
      refine ⟨q, byC (byC (byC c1)), hq.more (by decide), byC_ok k2, ?_⟩
      refine sat_of_body mixed Try.func85 rfl (by kernel_rfl) (by kernel_rfl) (rs := [.cell 4 28]) rfl rfl rfl ?_
      simp -implicitDefEqProofs (maxSteps := 2000000) only [go_sem]
      refine call_of (s0) (by simp -implicitDefEqProofs (maxSteps := 2000000) only [go_sem]) (by kernel_rfl) (by simp -implicitDefEqProofs (maxSteps := 2000000) only [go_sem]) ?_
      simp -implicitDefEqProofs (maxSteps := 2000000) only [go_sem]
      refine call_of (l1Once_sat c1 3 k1 (by decide) (by decide)) (by simp -implicitDefEqProofs (maxSteps := 2000000) only [go_sem, d3] <;> and_intros <;> rfl) (by kernel_rfl) (by simp -implicitDefEqProofs (maxSteps := 2000000) only [go_sem, d3]) ?_
      simp -implicitDefEqProofs (maxSteps := 2000000) only [go_sem, d3]
      refine call_of (s1) ?_ ?_ ?_ ?_
      · simp -implicitDefEqProofs (maxSteps := 2000000) only [go_sem]
      · kernel_rfl
      · simp -implicitDefEqProofs (maxSteps := 2000000) only [go_sem]
      simp -implicitDefEqProofs (maxSteps := 2000000) only [go_sem]
      refine call_of (l1Once_sat (byC (byC c1)) 4 k2 (by decide) (by decide)) (by simp -implicitDefEqProofs (maxSteps := 2000000) only [go_sem, d4] <;> and_intros <;> rfl) (by kernel_rfl) (by simp -implicitDefEqProofs (maxSteps := 2000000) only [go_sem, d4]) ?_
      simp -implicitDefEqProofs (maxSteps := 2000000) only [go_sem, d4]
      and_intros <;> rfl
    · have d4 : onV (byC (byC c1)) 4 = true := d4
      have hF := frD_ok (byC_ok k2)
      obtain ⟨N, hN⟩ : ∃ N : Nat, N = q.vc.toNat := ⟨_, rfl⟩
      have hvc := hq.vc
      have hfr := hq.free
      have hna := hq.n
      obtain ⟨o1, o2⟩ := hF N
      refine ⟨⟨q.vc, q.atoms, q.free ++ (frD (byC (byC (byC c1))) N).1⟩, (frD (byC (byC (byC c1))) N).2, ⟨by simp only; omega, by simp only; omega, hq.first, (hq.more (by decide)).all, by simp only [List.length_append]; omega⟩, o1, ?_⟩
      refine sat_of_body mixed Try.func85 rfl (by kernel_rfl) (by kernel_rfl) (rs := [.cell 4 28]) rfl rfl rfl ?_
      simp -implicitDefEqProofs (maxSteps := 2000000) only [go_sem]
      refine call_of (s0) (by simp -implicitDefEqProofs (maxSteps := 2000000) only [go_sem]) (by kernel_rfl) (by simp -implicitDefEqProofs (maxSteps := 2000000) only [go_sem]) ?_
      simp -implicitDefEqProofs (maxSteps := 2000000) only [go_sem]
      refine call_of (l1Once_sat c1 3 k1 (by decide) (by decide)) (by simp -implicitDefEqProofs (maxSteps := 2000000) only [go_sem, d3] <;> and_intros <;> rfl) (by kernel_rfl) (by simp -implicitDefEqProofs (maxSteps := 2000000) only [go_sem, d3]) ?_
      simp -implicitDefEqProofs (maxSteps := 2000000) only [go_sem, d3]
      refine call_of (s1) ?_ ?_ ?_ ?_
      · simp -implicitDefEqProofs (maxSteps := 2000000) only [go_sem]
      · kernel_rfl
      · simp -implicitDefEqProofs (maxSteps := 2000000) only [go_sem]
      simp -implicitDefEqProofs (maxSteps := 2000000) only [go_sem]
      refine call_of (l1Once_sat (byC (byC c1)) 4 k2 (by decide) (by decide)) (by simp -implicitDefEqProofs (maxSteps := 2000000) only [go_sem, d4] <;> and_intros <;> rfl) (by kernel_rfl) (by simp -implicitDefEqProofs (maxSteps := 2000000) only [go_sem, d4]) ?_
      simp -implicitDefEqProofs (maxSteps := 2000000) only [go_sem, d4]
      refine awp_loop Nat (fun k => mkSt [(0, .one (.vad 0 0)), (4, .one (.vad 1000 0)), (5, .one (.vad 1192 0)), (6, .sc (.int .i64 k))] [(0, sCur (frD (byC (byC (byC c1))) k).2), (1000, zQ2), (1192, [.sc (.int .i64 q.vc), .ref 960 2 0 q.atoms.length, .ref 961 1 0 (q.free.length + (frD (byC (byC (byC c1))) k).1.length)])] [(960, (2, ris 999 q.atoms)), (961, (1, ints (q.free ++ (frD (byC (byC (byC c1))) k).1)))] 12000)
        (fun k => k ≤ N) (fun k => N - k) 0 (by omega) (le_st' _ _ [⟨960, some _, false, 2, _⟩, ⟨961, some _, false, 1, _⟩] [] _ (by simp -implicitDefEqProofs (maxSteps := 2000000) only [go_sem, frD, List.length_nil, List.append_nil, Nat.add_zero] <;> and_intros <;> rfl) (by simp -implicitDefEqProofs (maxSteps := 2000000) only [go_sem, frD, List.length_nil, List.append_nil, Nat.add_zero] <;> and_intros <;> rfl) (by simp -implicitDefEqProofs (maxSteps := 2000000) only [go_sem, frD, List.length_nil, List.append_nil, Nat.add_zero] <;> and_intros <;> rfl) (by rfl)) ?_
      rintro k h1
      obtain ⟨m1, m2⟩ := hF k
      by_cases c5 : k < N
      · have d5 : decide (((k : Nat) : Int) < q.vc) = true := decide_eq_true (by omega)
        have wk : IntKind.i64.wrap ((k : Int) + 1) = ((k + 1 : Nat) : Int) := i64_succ (by omega)
        rcases d6 : onV (frD (byC (byC (byC c1))) k).2 3
        · have e1 : frD (byC (byC (byC c1))) (k + 1) = ((frD (byC (byC (byC c1))) k).1, byC (frD (byC (byC (byC c1))) k).2) := by rw [frD, d6]; rfl
          simp -implicitDefEqProofs (maxSteps := 2000000) only [go_sem, d5]
          refine call_of (l1Once_sat (frD (byC (byC (byC c1))) k).2 3 m1 (by decide) (by decide)) (by simp -implicitDefEqProofs (maxSteps := 2000000) only [go_sem, d6] <;> and_intros <;> rfl) (by kernel_rfl) (by simp -implicitDefEqProofs (maxSteps := 2000000) only [go_sem, d6]) ?_
          simp -implicitDefEqProofs (maxSteps := 2000000) only [go_sem, d6]
          rw [wk]
          exact ⟨k + 1, c5, by omega, (le_st' _ _ [⟨960, some _, false, 2, _⟩, ⟨961, some _, false, 1, _⟩] [] _ (by simp -implicitDefEqProofs (maxSteps := 2000000) only [go_sem, e1] <;> and_intros <;> rfl) (by simp -implicitDefEqProofs (maxSteps := 2000000) only [go_sem, e1] <;> and_intros <;> rfl) (by simp -implicitDefEqProofs (maxSteps := 2000000) only [go_sem, e1] <;> and_intros <;> rfl) (by rfl))⟩
        · have e1 : frD (byC (byC (byC c1))) (k + 1) = ((frD (byC (byC (byC c1))) k).1 ++ [(k : Int)], byC (frD (byC (byC (byC c1))) k).2) := by rw [frD, d6]; rfl
          have et : List.take (q.free.length + (frD (byC (byC (byC c1))) k).1.length) (q.free ++ (frD (byC (byC (byC c1))) k).1) = q.free ++ (frD (byC (byC (byC c1))) k).1 := List.take_of_length_le (by rw [List.length_append]; exact Nat.le_refl _)
          simp -implicitDefEqProofs (maxSteps := 2000000) only [go_sem, d5]
          refine call_of (l1Once_sat (frD (byC (byC (byC c1))) k).2 3 m1 (by decide) (by decide)) (by simp -implicitDefEqProofs (maxSteps := 2000000) only [go_sem, d6, et] <;> and_intros <;> rfl) (by kernel_rfl) (by simp -implicitDefEqProofs (maxSteps := 2000000) only [go_sem, d6, et]) ?_
          simp -implicitDefEqProofs (maxSteps := 2000000) only [go_sem, d6, et]
          repeat (refine And.intro (by omega) ?_)
          rw [wk]
          refine ⟨k + 1, c5, by omega, ?_⟩
          exact (le_st' _ _ [⟨960, some _, false, 2, _⟩, ⟨961, some _, false, 1, _⟩] [] _ (by simp -implicitDefEqProofs (maxSteps := 2000000) only [go_sem, e1, et, List.append_assoc, Nat.add_assoc, repP, List.set_cons_zero, List.length_append, List.length_singleton] <;> and_intros <;> rfl) (by simp -implicitDefEqProofs (maxSteps := 2000000) only [go_sem, e1, et, List.append_assoc, Nat.add_assoc, repP, List.set_cons_zero, List.length_append, List.length_singleton] <;> and_intros <;> rfl) (by simp -implicitDefEqProofs (maxSteps := 2000000) only [go_sem, e1, et, List.append_assoc, Nat.add_assoc, repP, List.set_cons_zero, List.length_append, List.length_singleton] <;> and_intros <;> rfl) (by rfl))
      · obtain rfl : k = N := by omega
        have d5 : decide (((k : Nat) : Int) < q.vc) = false := decide_eq_false (by omega)
        simp -implicitDefEqProofs (maxSteps := 2000000) only [go_sem, d5]
        and_intros <;> first | rfl | (rw [List.length_append])
end Go.Proofs.Ytedciihjgbkjgaa.A


/- QUERIES DRAWN, spoilt now and then. Conditions: none. -/
namespace Go.Proofs.Ytedciihjgbkjgaa.A
open Go
set_option linter.unusedSimpArgs false
set_option linter.unusedVariables false
set_option maxRecDepth 100000

theorem idxA_rin {st : St} {K : Eff → Prop} {e id i j s off len k : Nat} : idxA st e (.rin id i j s off len) k K = idxJ e (st.objs id) id i j s off len k K := by
  simp only [idxA, idxJ, Rows.cell]
  rcases st.objs id with _ | ⟨w, rows⟩
  · rfl
  · simp only
    rcases (List.getD rows i []).getD j .gone with _ | ⟨s', xs⟩ | _ <;> rfl
attribute [go_sem] idxA_rin
theorem rst_2s (s t : Nat) (a b : List RI) : rst (ris (s + 1) a ++ ris (t + 1) b) = ris 1 (a ++ b) := by
  have e : ∀ x y : Rows, rst (x ++ y) = rst x ++ rst y := fun x y => by simp [rst]
  rw [e, ris_rst s, ris_rst t, ris_append]
set_option maxHeartbeats 8000000 in
theorem l11Any_ex (c0 c : Cur) (hc : c.ok) : ∃ (q : Qu) (c' : Cur), QuD 201 q ∧ c'.ok ∧ Sat Try.prog 66 [lCur c, lRels (sigs c0)] [oQu q] [lCur c', g1] := by
  obtain ⟨q, c1, hq, k1, s0⟩ := l11Draw_ex c0 c hc
  have hv := hq.vc
  have hn := hq.n
  have hf := hq.free
  have h1 := hq.first
  have ha := hq.all
  have hm := hq.more (show 200 ≤ 201 by decide)
  rcases q with ⟨vc, ats, fr⟩
  simp only at hv hn hf h1 ha
  have k2 := byC_ok k1
  have ht := beV_lt c1 (n := 14) (by decide)
  by_cases t0 : beV c1 14 = 0
  · have d0 : (((beV c1 14 : Nat) : Int) == 0) = true := by rw [t0]; rfl
    have w1 : IntKind.i64.wrap (vc + 1) = vc + 1 := IntWalk.i64_in _ (by omega)
    have eL : ((((List.replicate 3 (0 : Int)).set 0 (-1)).set 1 (vc + 1)).set 2 5) = [-1, vc + 1, 5] := rfl
    have hb := mem_getD (l := ([-1, vc + 1, 5] : List Int)) 0 (beV_lt (byC c1) (n := 3) (by decide))
    refine ⟨⟨([-1, vc + 1, 5] : List Int).getD (beV (byC c1) 3) 0, ats, fr⟩, byC (byC c1), ⟨?_, by simp only; omega, h1, hm.all, by simp only; omega⟩, byC_ok k2, ?_⟩
    · simp only
      generalize ([-1, vc + 1, 5] : List Int).getD (beV (byC c1) 3) 0 = z at hb
      simp only [List.mem_cons, List.not_mem_nil, or_false] at hb
      omega
    refine sat_of_body mixed Try.func66 rfl (by kernel_rfl) (by kernel_rfl) (rs := [.cell 4 28]) rfl rfl rfl ?_
    simp -implicitDefEqProofs (maxSteps := 2000000) only [go_sem]
    refine call_of (s0) ?_ ?_ ?_ ?_
    · simp -implicitDefEqProofs (maxSteps := 2000000) only [go_sem]
    · kernel_rfl
    · simp -implicitDefEqProofs (maxSteps := 2000000) only [go_sem]
    simp -implicitDefEqProofs (maxSteps := 2000000) only [go_sem]
    refine call_of (l1Below_sat c1 14 k1 (by decide) (by decide)) (by simp -implicitDefEqProofs (maxSteps := 2000000) only [go_sem, d0, w1] <;> and_intros <;> rfl) (by kernel_rfl) (by simp -implicitDefEqProofs (maxSteps := 2000000) only [go_sem, d0, w1]) ?_
    simp -implicitDefEqProofs (maxSteps := 2000000) only [go_sem, d0, w1]
    refine call_of (l1PickInt_own (byC c1) [-1, vc + 1, 5] k2 (by simp) (by simp)) (by simp -implicitDefEqProofs (maxSteps := 2000000) only [go_sem, eL]) (by kernel_rfl) (by simp -implicitDefEqProofs (maxSteps := 2000000) only [go_sem, eL]) ?_
    simp -implicitDefEqProofs (maxSteps := 2000000) only [go_sem, eL]
    and_intros <;> rfl
  have d0 : (((beV c1 14 : Nat) : Int) == 0) = false := by rw [beq_eq_false_iff_ne]; omega
  by_cases t1 : beV c1 14 = 1
  · have d1 : (((beV c1 14 : Nat) : Int) == 1) = true := by rw [t1]; rfl
    have b3 := beV_lt (byC c1) (n := 6) (by decide)
    have w3 : IntKind.i64.wrap (((beV (byC c1) 6 : Nat) : Int) - 1) = ((beV (byC c1) 6 : Nat) : Int) - 1 := IntWalk.i64_in _ (by omega)
    have eL : ((List.replicate 2 (0 : Int)).set 0 0).set 1 0 = [0, 0] := rfl
    refine ⟨⟨vc, ats ++ [⟨((beV (byC c1) 6 : Nat) : Int) - 1, [0, 0]⟩], fr⟩, byC (byC c1), ⟨by simp only; omega, by simp only [List.length_append, List.length_singleton]; omega, ?_, fun x hx => ?_, by simp only; omega⟩, byC_ok k2, ?_⟩
    · simp only
      rw [List.getD_eq_getElem?_getD, List.getElem?_append_left (by omega), ← List.getD_eq_getElem?_getD]; exact h1
    · rcases List.mem_append.mp hx with hx | hx
      · have := ha x hx; omega
      · rw [List.mem_singleton.mp hx]; simp
    refine sat_of_body mixed Try.func66 rfl (by kernel_rfl) (by kernel_rfl) (rs := [.cell 4 28]) rfl rfl rfl ?_
    simp -implicitDefEqProofs (maxSteps := 2000000) only [go_sem]
    refine call_of (s0) ?_ ?_ ?_ ?_
    · simp -implicitDefEqProofs (maxSteps := 2000000) only [go_sem]
    · kernel_rfl
    · simp -implicitDefEqProofs (maxSteps := 2000000) only [go_sem]
    simp -implicitDefEqProofs (maxSteps := 2000000) only [go_sem]
    refine call_of (l1Below_sat c1 14 k1 (by decide) (by decide)) (by simp -implicitDefEqProofs (maxSteps := 2000000) only [go_sem, d0, d1] <;> and_intros <;> rfl) (by kernel_rfl) (by simp -implicitDefEqProofs (maxSteps := 2000000) only [go_sem, d0, d1]) ?_
    simp -implicitDefEqProofs (maxSteps := 2000000) only [go_sem, d0, d1]
    refine call_of (l1Below_sat (byC c1) 6 k2 (by decide) (by decide)) (by simp -implicitDefEqProofs (maxSteps := 2000000) only [go_sem, w3, eL] <;> and_intros <;> rfl) (by kernel_rfl) (by simp -implicitDefEqProofs (maxSteps := 2000000) only [go_sem, w3, eL]) ?_
    simp -implicitDefEqProofs (maxSteps := 2000000) only [go_sem, w3, eL]
    repeat (refine And.intro (by omega) ?_)
    first | (with_reducible refine tr_and ?_ ?_; focus kernel_rfl) | (with_reducible refine tr_only ?_; kernel_rfl) | skip
    and_intros <;> first | rfl | exact (rst_2s 0 _ ats _).symm
  have d1 : (((beV c1 14 : Nat) : Int) == 1) = false := by rw [beq_eq_false_iff_ne]; omega
  by_cases t2 : beV c1 14 = 2
  · have d2 : (((beV c1 14 : Nat) : Int) == 2) = true := by rw [t2]; rfl
    have eL : (((List.replicate 3 (0 : Int)).set 0 (-11)).set 1 4).set 2 3 = [-11, 4, 3] := rfl
    have hv0 : (0 : Int) < ats.length := by omega
    have hv1 : 0 < ats.length := by omega
    have hw0 : (0 : Int) < (ats.getD 0 default).l.length := by omega
    have hw1 : 0 < (ats.getD 0 default).l.length := by omega
    refine ⟨⟨vc, ats.set 0 ⟨(ats.getD 0 default).r, (ats.getD 0 default).l.set 0 (([-11, 4, 3] : List Int).getD (beV (byC c1) 3) 0)⟩, fr⟩, byC (byC c1), ⟨by simp only; omega, by simp only [List.length_set]; omega, ?_, fun x hx => ?_, by simp only; omega⟩, byC_ok k2, ?_⟩
    · simp only
      rw [getD_set_same hv1]; simp only [List.length_set]; exact h1
    · rcases List.mem_or_eq_of_mem_set hx with hx | rfl
      · have := ha x hx; omega
      · have := ha _ (mem_getD default hv1); simp only [List.length_set]; omega
    refine sat_of_body mixed Try.func66 rfl (by kernel_rfl) (by kernel_rfl) (rs := [.cell 4 28]) rfl rfl rfl ?_
    simp -implicitDefEqProofs (maxSteps := 2000000) only [go_sem]
    refine call_of (s0) ?_ ?_ ?_ ?_
    · simp -implicitDefEqProofs (maxSteps := 2000000) only [go_sem]
    · kernel_rfl
    · simp -implicitDefEqProofs (maxSteps := 2000000) only [go_sem]
    simp -implicitDefEqProofs (maxSteps := 2000000) only [go_sem]
    refine call_of (l1Below_sat c1 14 k1 (by decide) (by decide)) (by simp -implicitDefEqProofs (maxSteps := 2000000) only [go_sem, d0, d1, d2, hv0, hv1] <;> and_intros <;> rfl) (by kernel_rfl) (by simp -implicitDefEqProofs (maxSteps := 2000000) only [go_sem, d0, d1, d2, hv0, hv1]) ?_
    simp -implicitDefEqProofs (maxSteps := 2000000) only [go_sem, d0, d1, d2, hv0, hv1]
    refine call_of (l1PickInt_own (byC c1) [-11, 4, 3] k2 (by decide) (by decide)) (by simp -implicitDefEqProofs (maxSteps := 2000000) only [go_sem, eL, hv0, hv1, hw0, hw1]) (by kernel_rfl) (by simp -implicitDefEqProofs (maxSteps := 2000000) only [go_sem, eL, hv0, hv1, hw0, hw1]) ?_
    simp -implicitDefEqProofs (maxSteps := 2000000) only [go_sem, eL, hv0, hv1, hw0, hw1]
    refine And.intro (by decide) ?_
    simp -implicitDefEqProofs (maxSteps := 2000000) only [go_sem, hv0, hv1, hw0, hw1]
    first | (with_reducible refine tr_and ?_ ?_; focus kernel_rfl) | (with_reducible refine tr_only ?_; kernel_rfl) | skip
    and_intros <;> rfl
  have d2 : (((beV c1 14 : Nat) : Int) == 2) = false := by rw [beq_eq_false_iff_ne]; omega
  by_cases t3 : beV c1 14 = 3
  · have d3 : (((beV c1 14 : Nat) : Int) == 3) = true := by rw [t3]; rfl
    refine ⟨⟨vc, ats, fr ++ [((beV (byC c1) 5 : Nat) : Int)]⟩, byC (byC c1), ⟨by simp only; omega, by simp only; omega, h1, hm.all, by simp only [List.length_append, List.length_singleton]; omega⟩, byC_ok k2, ?_⟩
    refine sat_of_body mixed Try.func66 rfl (by kernel_rfl) (by kernel_rfl) (rs := [.cell 4 28]) rfl rfl rfl ?_
    simp -implicitDefEqProofs (maxSteps := 2000000) only [go_sem]
    refine call_of (s0) ?_ ?_ ?_ ?_
    · simp -implicitDefEqProofs (maxSteps := 2000000) only [go_sem]
    · kernel_rfl
    · simp -implicitDefEqProofs (maxSteps := 2000000) only [go_sem]
    simp -implicitDefEqProofs (maxSteps := 2000000) only [go_sem]
    refine call_of (l1Below_sat c1 14 k1 (by decide) (by decide)) (by simp -implicitDefEqProofs (maxSteps := 2000000) only [go_sem, d0, d1, d2, d3] <;> and_intros <;> rfl) (by kernel_rfl) (by simp -implicitDefEqProofs (maxSteps := 2000000) only [go_sem, d0, d1, d2, d3]) ?_
    simp -implicitDefEqProofs (maxSteps := 2000000) only [go_sem, d0, d1, d2, d3]
    refine call_of (l1Below_sat (byC c1) 5 k2 (by decide) (by decide)) (by simp -implicitDefEqProofs (maxSteps := 2000000) only [go_sem] <;> and_intros <;> rfl) (by kernel_rfl) (by simp -implicitDefEqProofs (maxSteps := 2000000) only [go_sem]) ?_
    simp -implicitDefEqProofs (maxSteps := 2000000) only [go_sem]
    repeat (refine And.intro (by omega) ?_)
    first | (with_reducible refine tr_and ?_ ?_; focus kernel_rfl) | (with_reducible refine tr_only ?_; kernel_rfl) | skip
    and_intros <;> rfl
  · have d3 : (((beV c1 14 : Nat) : Int) == 3) = false := by rw [beq_eq_false_iff_ne]; omega
    refine ⟨⟨vc, ats, fr⟩, byC c1, hm, k2, ?_⟩
    refine sat_of_body mixed Try.func66 rfl (by kernel_rfl) (by kernel_rfl) (rs := [.cell 4 28]) rfl rfl rfl ?_
    simp -implicitDefEqProofs (maxSteps := 2000000) only [go_sem]
    refine call_of (s0) ?_ ?_ ?_ ?_
    · simp -implicitDefEqProofs (maxSteps := 2000000) only [go_sem]
    · kernel_rfl
    · simp -implicitDefEqProofs (maxSteps := 2000000) only [go_sem]
    simp -implicitDefEqProofs (maxSteps := 2000000) only [go_sem]
    refine call_of (l1Below_sat c1 14 k1 (by decide) (by decide)) (by simp -implicitDefEqProofs (maxSteps := 2000000) only [go_sem, d0, d1, d2, d3] <;> and_intros <;> rfl) (by kernel_rfl) (by simp -implicitDefEqProofs (maxSteps := 2000000) only [go_sem, d0, d1, d2, d3]) ?_
    simp -implicitDefEqProofs (maxSteps := 2000000) only [go_sem, d0, d1, d2, d3]
    and_intros <;> rfl
end Go.Proofs.Ytedciihjgbkjgaa.A


/- QUERIES DRAWN: with a set of variables. Conditions: none. -/
namespace Go.Proofs.Ytedciihjgbkjgaa.A
open Go
set_option linter.unusedSimpArgs false
set_option linter.unusedVariables false
set_option maxRecDepth 100000

/-- The variables drawn: of the first i. -/
def vrD (c : Cur) : Nat → List Int × Cur
  | 0 => ([], c)
  | i + 1 => (if onV (vrD c i).2 3 = true then (vrD c i).1 ++ [((i : Nat) : Int)] else (vrD c i).1, byC (vrD c i).2)
theorem vrD_len (c : Cur) : ∀ i, (vrD c i).1.length ≤ i
  | 0 => Nat.le_refl _
  | i + 1 => by
    have := vrD_len c i
    rw [vrD]
    split
    · rw [List.length_append, List.length_singleton]; omega
    · show (vrD c i).1.length ≤ i + 1; omega
theorem vrD_ok {c : Cur} (h : c.ok) : ∀ i, (vrD c i).2.ok
  | 0 => h
  | i + 1 => byC_ok (vrD_ok h i)
set_option maxHeartbeats 4000000 in
theorem l14Vars_sat (c : Cur) (hc : c.ok) : Sat Try.prog 37 [lCur c] [oInts (vrD c 5).1] [lCur (vrD c 5).2] := by
  refine sat_of_body mixed Try.func37 rfl (by kernel_rfl) (by kernel_rfl) (rs := [.tmp 2]) rfl rfl rfl ?_
  simp -implicitDefEqProofs (maxSteps := 2000000) only [go_sem]
  refine awp_loop Nat (fun i => mkSt [(0, .one (.vad 0 0)), (3, .one (.ref 960 1 0 (vrD c i).1.length)), (4, .sc (.int .i64 i))] [(0, sCur (vrD c i).2)] [(960, (1, ints (vrD c i).1))] 4000)
    (fun i => i ≤ 5) (fun i => 5 - i) 0 (by omega) (le_st' _ _ [⟨960, some _, false, 1, _⟩] [] _ (by simp -implicitDefEqProofs (maxSteps := 2000000) only [go_sem, vrD, ints_nil] <;> and_intros <;> rfl) (by simp -implicitDefEqProofs (maxSteps := 2000000) only [go_sem, vrD, ints_nil] <;> and_intros <;> rfl) (by simp -implicitDefEqProofs (maxSteps := 2000000) only [go_sem, vrD, ints_nil] <;> and_intros <;> rfl) (by rfl)) ?_
  rintro i h1
  have hl := vrD_len c i
  have hk := vrD_ok hc i
  have hs : vrD c (i + 1) = (if onV (vrD c i).2 3 = true then (vrD c i).1 ++ [((i : Nat) : Int)] else (vrD c i).1, byC (vrD c i).2) := rfl
  by_cases c1 : i < 5
  · have c3 : (i : Int) < 5 := by omega
    have wi : IntKind.i64.wrap ((i : Int) + 1) = ((i + 1 : Nat) : Int) := i64_succ (by omega)
    generalize vrD c i = s at hl hk hs ⊢
    rcases d1 : onV s.2 3
    · rw [d1] at hs
      simp only [Bool.false_eq_true, if_false] at hs
      simp -implicitDefEqProofs (maxSteps := 2000000) only [go_sem, c3]
      refine call_of (l1Once_sat s.2 3 hk (by decide) (by decide)) (by simp -implicitDefEqProofs (maxSteps := 2000000) only [go_sem, c3, d1] <;> and_intros <;> rfl) (by kernel_rfl) (by simp -implicitDefEqProofs (maxSteps := 2000000) only [go_sem, c3, d1]) ?_
      simp -implicitDefEqProofs (maxSteps := 2000000) only [go_sem, c3, d1]
      rw [wi]
      refine ⟨i + 1, by omega, by omega, ?_⟩
      rw [hs]
      exact (le_st' _ _ [⟨960, some _, false, 1, _⟩] [] _ (by simp -implicitDefEqProofs (maxSteps := 2000000) only [go_sem] <;> and_intros <;> rfl) (by simp -implicitDefEqProofs (maxSteps := 2000000) only [go_sem] <;> and_intros <;> rfl) (by simp -implicitDefEqProofs (maxSteps := 2000000) only [go_sem] <;> and_intros <;> rfl) (by rfl))
    · rw [d1] at hs
      simp only [if_true] at hs
      simp -implicitDefEqProofs (maxSteps := 2000000) only [go_sem, c3]
      refine call_of (l1Once_sat s.2 3 hk (by decide) (by decide)) (by simp -implicitDefEqProofs (maxSteps := 2000000) only [go_sem, c3, d1] <;> and_intros <;> rfl) (by kernel_rfl) (by simp -implicitDefEqProofs (maxSteps := 2000000) only [go_sem, c3, d1]) ?_
      simp -implicitDefEqProofs (maxSteps := 2000000) only [go_sem, c3, d1]
      repeat (refine And.intro (by omega) ?_)
      rw [wi]
      refine ⟨i + 1, by omega, by omega, ?_⟩
      rw [hs]
      exact (le_st' _ _ [⟨960, some _, false, 1, _⟩] [] _ (by simp -implicitDefEqProofs (maxSteps := 2000000) only [go_sem] <;> and_intros <;> rfl) (by simp -implicitDefEqProofs (maxSteps := 2000000) only [go_sem] <;> and_intros <;> rfl) (by simp -implicitDefEqProofs (maxSteps := 2000000) only [go_sem] <;> and_intros <;> rfl) (by rfl))
  · have c3 : ¬ (i : Int) < 5 := by omega
    obtain rfl : i = 5 := by omega
    simp -implicitDefEqProofs (maxSteps := 2000000) only [go_sem, c3]
    first | done | rfl | exact ⟨rfl, rfl⟩ | exact ⟨rfl, rfl, rfl⟩ | (refine tr_and ?_ ?_ <;> first | rfl | exact ⟨rfl, rfl⟩ | kernel_rfl)
end Go.Proofs.Ytedciihjgbkjgaa.A


/- DATABASES DRAWN, SPOILT NOW AND THEN. Conditions: none. -/
namespace Go.Proofs.Ytedciihjgbkjgaa.A
open Go
set_option linter.unusedSimpArgs false
set_option linter.unusedVariables false
set_option maxRecDepth 100000

theorem eqN_t {n m : Nat} (h : n = m) : (((n : Nat) : Int) == ((m : Nat) : Int)) = true := by rw [h]; exact beq_self_eq_true _
theorem frz_2s (s t : Nat) (a b : List RI) : frz (ris s a ++ ris t b) = ris 0 (a ++ b) := by
  have e : ∀ x y : Rows, frz (x ++ y) = frz x ++ frz y := fun x y => by simp [frz]
  rw [e, ris_frz, ris_frz, ris_append]
theorem take_set1 {α : Type} {l : List α} {i : Nat} {x : α} : List.take l.length (l.set i x) = l.set i x := List.take_of_length_le (by rw [List.length_set]; exact Nat.le_refl _)
theorem take_two (s t : Nat) (a : List RI) (x : RI) : List.take (a.length + 1) (ris s a ++ ris t [x]) = ris s a ++ ris t [x] := List.take_of_length_le (by simp [ris])
end Go.Proofs.Ytedciihjgbkjgaa.A


/- DATABASES AND QUERIES DRAWN. Conditions: none. -/
namespace Go.Proofs.Ytedciihjgbkjgaa.A
open Go
set_option linter.unusedSimpArgs false
set_option linter.unusedVariables false
set_option maxRecDepth 100000

theorem l11Both_ex (b : List Int) (h : b.length ≤ 1048576) : ∃ (c0 c' : Cur) (q : Qu), QuD 201 q ∧ c'.ok ∧ Sat Try.prog 35 [lBys b] [lCur c', lRels (sigs c0), oQu q] [g1] := by
  have k0 := curN_ok h
  have k2 := byC_ok (byC_ok k0)
  have s1 := l2Sigs_sat (curN b) k0
  obtain ⟨q, c', hq, hk, s2⟩ := l11Any_ex (curN b) (byC (byC (curN b))) k2
  refine ⟨curN b, c', q, hq, hk, ?_⟩
  have hl := sigs_len (curN b)
  generalize sigs (curN b) = l at hl s1 s2
  generalize byC (byC (curN b)) = c2 at k2 s1 s2
  refine sat_of_bodyB Try.func35 rfl (by kernel_rfl) (rs := [.tmp 2, .tmp 3, .cell 4 28]) rfl rfl rfl ?_
  refine bwp_seq mixed (by kernel_rfl) ?_
  simp -implicitDefEqProofs (maxSteps := 2000000) only [go_sem]
  refine bwp_seq mixed (by kernel_rfl) ?_
  simp -implicitDefEqProofs (maxSteps := 2000000) only [go_sem]
  refine call_of (l1New_sat b (by omega)) (by simp -implicitDefEqProofs (maxSteps := 2000000) only [go_sem]) (by kernel_rfl) (by simp -implicitDefEqProofs (maxSteps := 2000000) only [go_sem]) ?_
  simp -implicitDefEqProofs (maxSteps := 2000000) only [go_sem]
  refine bwp_seq mixed (by kernel_rfl) ?_
  simp -implicitDefEqProofs (maxSteps := 2000000) only [go_sem]
  refine call_of (s1) (by simp -implicitDefEqProofs (maxSteps := 2000000) only [go_sem]) (by kernel_rfl) (by simp -implicitDefEqProofs (maxSteps := 2000000) only [go_sem]) ?_
  simp -implicitDefEqProofs (maxSteps := 2000000) only [go_sem]
  refine bwp_le (st' := mkSt [(4, .one (.vad 1128 0)), (5, .one (.vad 1256 0)), (6, .one (.im 3 (rels l)))] [(1128, zQ2), (1256, sCur c2)] [] 4000) (le_st' _ _ [] [1448] _ (by simp -implicitDefEqProofs (maxSteps := 2000000) only [go_sem, rels_frz] <;> and_intros <;> first | rfl | exact List.mem_singleton_self _ | decide | (refine ⟨_, rfl, Eq.symm ?_⟩; simp -implicitDefEqProofs (maxSteps := 2000000) only [go_sem, rels_frz]; done) | (refine ⟨_, rfl, Eq.symm ?_⟩; simp -implicitDefEqProofs (maxSteps := 2000000) only [go_sem, rels_frz]; rfl)) (by simp -implicitDefEqProofs (maxSteps := 2000000) only [go_sem, rels_frz] <;> and_intros <;> first | rfl | exact List.mem_singleton_self _ | decide | (refine ⟨_, rfl, Eq.symm ?_⟩; simp -implicitDefEqProofs (maxSteps := 2000000) only [go_sem, rels_frz]; done) | (refine ⟨_, rfl, Eq.symm ?_⟩; simp -implicitDefEqProofs (maxSteps := 2000000) only [go_sem, rels_frz]; rfl)) (by simp -implicitDefEqProofs (maxSteps := 2000000) only [go_sem, rels_frz] <;> and_intros <;> rfl) (by rfl)) ?_
  refine bwp_awp mixed (by kernel_rfl) ?_
  simp -implicitDefEqProofs (maxSteps := 2000000) only [go_sem]
  refine call_of (s2) ?_ ?_ ?_ ?_
  · simp -implicitDefEqProofs (maxSteps := 2000000) only [go_sem]
  · kernel_rfl
  · simp -implicitDefEqProofs (maxSteps := 2000000) only [go_sem]
  simp -implicitDefEqProofs (maxSteps := 2000000) only [go_sem]
  and_intros <;> rfl
end Go.Proofs.Ytedciihjgbkjgaa.A


/- QUERIES DRAWN, for closures. Conditions: none. -/
namespace Go.Proofs.Ytedciihjgbkjgaa.A
open Go
set_option linter.unusedSimpArgs false
set_option linter.unusedVariables false
set_option maxRecDepth 100000
set_option maxHeartbeats 4000000 in
theorem drawAC_ex (b : List Int) (h : b.length ≤ 1048576) : ∃ (c0 : Cur) (q : Qu) (s : Int) (v : List Int), QuD 201 q ∧ (-1 ≤ s ∧ s ≤ 3) ∧ v.length ≤ 5 ∧
    Sat Try.prog 7 [lBys b] [lRels (sigs c0), oQu q, lInt s, oInts v] [g1] := by
  obtain ⟨c0, c1, q, hq, k1, s0⟩ := l11Both_ex b h
  have b1 := beV_lt c1 (n := 5) (by decide)
  refine ⟨c0, q, ((beV c1 5 : Nat) : Int) - 1, (vrD (byC c1) 5).1, hq, by omega, vrD_len _ 5, ?_⟩
  have k2 := byC_ok k1
  have w1 : IntKind.i64.wrap (((beV c1 5 : Nat) : Int) - 1) = ((beV c1 5 : Nat) : Int) - 1 := IntWalk.i64_in _ (by omega)
  refine sat_of_body mixed Try.func7 rfl (by kernel_rfl) (by kernel_rfl) (rs := [.tmp 2, .cell 3 28, .tmp 4, .tmp 5]) rfl rfl rfl ?_
  simp -implicitDefEqProofs (maxSteps := 2000000) only [go_sem]
  refine call_of (s0) (by simp -implicitDefEqProofs (maxSteps := 2000000) only [go_sem]) (by kernel_rfl) (by simp -implicitDefEqProofs (maxSteps := 2000000) only [go_sem]) ?_
  simp -implicitDefEqProofs (maxSteps := 2000000) only [go_sem]
  refine call_of (l1Below_sat c1 5 k1 (by decide) (by decide)) (by simp -implicitDefEqProofs (maxSteps := 2000000) only [go_sem] <;> and_intros <;> rfl) (by kernel_rfl) (by simp -implicitDefEqProofs (maxSteps := 2000000) only [go_sem]) ?_
  simp -implicitDefEqProofs (maxSteps := 2000000) only [go_sem]
  refine call_of (l14Vars_sat (byC c1) k2) (by simp -implicitDefEqProofs (maxSteps := 2000000) only [go_sem, w1] <;> and_intros <;> rfl) (by kernel_rfl) (by simp -implicitDefEqProofs (maxSteps := 2000000) only [go_sem, w1]) ?_
  simp -implicitDefEqProofs (maxSteps := 2000000) only [go_sem, w1]
  first | (with_reducible refine tr_and ?_ ?_; focus kernel_rfl) | (with_reducible refine tr_only ?_; kernel_rfl) | skip
  and_intros <;> rfl
set_option maxHeartbeats 4000000 in
theorem drawDet_ex (b : List Int) (h : b.length ≤ 1048576) : ∃ (c0 : Cur) (q : Qu) (v w : List Int), QuD 201 q ∧ v.length ≤ 5 ∧ w.length ≤ 5 ∧
    Sat Try.prog 12 [lBys b] [lRels (sigs c0), oQu q, oInts v, oInts w] [g1] := by
  obtain ⟨c0, c1, q, hq, k1, s0⟩ := l11Both_ex b h
  refine ⟨c0, q, (vrD c1 5).1, (vrD (vrD c1 5).2 5).1, hq, vrD_len _ 5, vrD_len _ 5, ?_⟩
  have k2 := vrD_ok k1 5
  refine sat_of_body mixed Try.func12 rfl (by kernel_rfl) (by kernel_rfl) (rs := [.tmp 2, .cell 3 28, .tmp 4, .tmp 5]) rfl rfl rfl ?_
  simp -implicitDefEqProofs (maxSteps := 2000000) only [go_sem]
  refine call_of (s0) (by simp -implicitDefEqProofs (maxSteps := 2000000) only [go_sem]) (by kernel_rfl) (by simp -implicitDefEqProofs (maxSteps := 2000000) only [go_sem]) ?_
  simp -implicitDefEqProofs (maxSteps := 2000000) only [go_sem]
  refine call_of (l14Vars_sat c1 k1) (by simp -implicitDefEqProofs (maxSteps := 2000000) only [go_sem] <;> and_intros <;> rfl) (by kernel_rfl) (by simp -implicitDefEqProofs (maxSteps := 2000000) only [go_sem]) ?_
  simp -implicitDefEqProofs (maxSteps := 2000000) only [go_sem]
  refine call_of (l14Vars_sat (vrD c1 5).2 k2) (by simp -implicitDefEqProofs (maxSteps := 2000000) only [go_sem] <;> and_intros <;> rfl) (by kernel_rfl) (by simp -implicitDefEqProofs (maxSteps := 2000000) only [go_sem]) ?_
  simp -implicitDefEqProofs (maxSteps := 2000000) only [go_sem]
  first | (with_reducible refine tr_and ?_ ?_; focus kernel_rfl) | (with_reducible refine tr_only ?_; kernel_rfl) | skip
  and_intros <;> rfl
set_option maxHeartbeats 4000000 in
theorem drawKy_ex (b : List Int) (h : b.length ≤ 1048576) : ∃ (c0 : Cur) (q : Qu) (s : Int), QuD 201 q ∧ (-1 ≤ s ∧ s ≤ 3) ∧
    Sat Try.prog 14 [lBys b] [lRels (sigs c0), oQu q, lInt s] [g1] := by
  obtain ⟨c0, c1, q, hq, k1, s0⟩ := l11Both_ex b h
  have b1 := beV_lt c1 (n := 5) (by decide)
  refine ⟨c0, q, ((beV c1 5 : Nat) : Int) - 1, hq, by omega, ?_⟩
  have w1 : IntKind.i64.wrap (((beV c1 5 : Nat) : Int) - 1) = ((beV c1 5 : Nat) : Int) - 1 := IntWalk.i64_in _ (by omega)
  refine sat_of_body mixed Try.func14 rfl (by kernel_rfl) (by kernel_rfl) (rs := [.tmp 2, .cell 3 28, .tmp 4]) rfl rfl rfl ?_
  simp -implicitDefEqProofs (maxSteps := 2000000) only [go_sem]
  refine call_of (s0) (by simp -implicitDefEqProofs (maxSteps := 2000000) only [go_sem]) (by kernel_rfl) (by simp -implicitDefEqProofs (maxSteps := 2000000) only [go_sem]) ?_
  simp -implicitDefEqProofs (maxSteps := 2000000) only [go_sem]
  refine call_of (l1Below_sat c1 5 k1 (by decide) (by decide)) (by simp -implicitDefEqProofs (maxSteps := 2000000) only [go_sem, w1] <;> and_intros <;> rfl) (by kernel_rfl) (by simp -implicitDefEqProofs (maxSteps := 2000000) only [go_sem, w1]) ?_
  simp -implicitDefEqProofs (maxSteps := 2000000) only [go_sem, w1]
  first | (with_reducible refine tr_and ?_ ?_; focus kernel_rfl) | (with_reducible refine tr_only ?_; kernel_rfl) | skip
  and_intros <;> rfl
end Go.Proofs.Ytedciihjgbkjgaa.A


/- ALL MAXIMAL INDEPENDENT SETS: the plain law. Conditions: none. (No program in sight but the names.) -/
namespace Go.Proofs.Ytedciihjgbkjgaa.A
open Go
set_option linter.unusedSimpArgs false
set_option linter.unusedVariables false

theorem upTo_all {p : Nat → Bool} : ∀ {n : Nat}, (∀ k, k < n → p k = true) → upTo p n = true
  | 0, _ => rfl
  | n + 1, h => upTo_step (upTo_all fun k hk => h k (by omega)) (h n (by omega))
/-- Is a number an end of an edge. -/
def metE (l : List Edge) (x : Int) : Bool := l.any fun e => (e.a == x) || (e.b == x)
/-- The search of the program, m numbers left. -/
def walkI (n : Nat) (l : List Edge) : Nat → List Int → List (List Int)
  | 0, s => if isMax n l s then [s] else []
  | m + 1, s => (if indep l (s ++ [((n - (m + 1) : Nat) : Int)]) then walkI n l m (s ++ [((n - (m + 1) : Nat) : Int)]) else []) ++ walkI n l m s
/-- The search of the reference. -/
def walkS (n : Nat) (l : List Edge) : Nat → List Int → List (List Int)
  | 0, s => if isMax n l s then [s] else []
  | m + 1, s => (if fitsE l s ((n - (m + 1) : Nat) : Int) then walkS n l m (s ++ [((n - (m + 1) : Nat) : Int)]) else []) ++ (if metE l ((n - (m + 1) : Nat) : Int) then walkS n l m s else [])
theorem walkI_len (n : Nat) (l : List Edge) : ∀ (m : Nat) (s : List Int), (walkI n l m s).length ≤ 2 ^ m
  | 0, s => by unfold walkI; split <;> simp
  | m + 1, s => by
    have h1 := walkI_len n l m (s ++ [((n - (m + 1) : Nat) : Int)])
    have h2 := walkI_len n l m s
    unfold walkI
    rw [List.length_append, Nat.pow_succ]
    split
    · omega
    · simp; omega
/-- A number that no edge meets joins any independent set. -/
theorem indep_join {l : List Edge} {s : List Int} {x : Int} (h : indep l s = true) (hx : metE l x = false) : indep l (s ++ [x]) = true := by
  unfold indep
  refine upTo_all fun k hk => ?_
  have h1 := upTo_at h hk
  have h2 : ((l.getD k default).a == x) = false ∧ ((l.getD k default).b == x) = false := by
    unfold metE at hx
    rw [List.any_eq_false] at hx
    have := hx _ (mem_getD default hk)
    simpa using this
  unfold edNo at h1 ⊢
  have n1 : (l.getD k default).a ≠ x := by simpa using h2.1
  have n2 : (l.getD k default).b ≠ x := by simpa using h2.2
  rw [Bool.not_eq_true'] at h1 ⊢
  rw [← h1]
  congr 1
  · rw [Bool.eq_iff_iff, decide_eq_true_iff, decide_eq_true_iff, List.mem_append, List.mem_singleton]
    exact ⟨fun h => h.resolve_right n1, .inl⟩
  · rw [Bool.eq_iff_iff, decide_eq_true_iff, decide_eq_true_iff, List.mem_append, List.mem_singleton]
    exact ⟨fun h => h.resolve_right n2, .inl⟩
theorem isMax_not {n : Nat} {l : List Edge} {s : List Int} {x : Nat} (hx : x < n) (hm : metE l x = false) (hs : (x : Int) ∉ s) : isMax n l s = false := by
  rcases h : isMax n l s
  · rfl
  · unfold isMax at h
    simp only [Bool.and_eq_true] at h
    obtain ⟨_, _, h3, h4⟩ := h
    have := upTo_at h4 (show x < ((n : Nat) : Int).toNat by omega)
    rw [fitsE, indep_join h3 hm, decide_eq_false hs] at this
    cases this
/-- Where such a number has been left out nothing is found. -/
theorem walkI_none {n : Nat} {l : List Edge} {x : Nat} (hx : x < n) (hm : metE l x = false) : ∀ (m : Nat) (s : List Int), m + x + 1 ≤ n → (x : Int) ∉ s → walkI n l m s = []
  | 0, s, _, hs => by rw [walkI, isMax_not hx hm hs]; rfl
  | m + 1, s, hle, hs => by
    have h2 := walkI_none hx hm m s (by omega) hs
    have h1 := walkI_none hx hm m (s ++ [((n - (m + 1) : Nat) : Int)]) (by omega) (by
      rw [List.mem_append, List.mem_singleton]
      rintro (h | h)
      · exact hs h
      · omega)
    rw [walkI, h1, h2]
    split <;> rfl
theorem walk_same {n : Nat} {l : List Edge} : ∀ (m : Nat) (s : List Int), m ≤ n → (∀ y ∈ s, y < ((n - m : Nat) : Int)) → walkS n l m s = walkI n l m s
  | 0, s, _, _ => rfl
  | m + 1, s, hle, hs => by
    have hn : ((n - (m + 1) : Nat) : Int) ∉ s := fun h => by have := hs _ h; omega
    have h1 := walk_same (n := n) (l := l) m (s ++ [((n - (m + 1) : Nat) : Int)]) (by omega) (by
      intro y hy
      rw [List.mem_append, List.mem_singleton] at hy
      rcases hy with hy | rfl
      · have := hs y hy; omega
      · omega)
    have h2 := walk_same (n := n) (l := l) m s (by omega) (fun y hy => by have := hs y hy; omega)
    rw [walkS, walkI, fitsE, decide_eq_false hn, Bool.not_false, Bool.true_and, h1, h2]
    congr 1
    rcases hm : metE l ((n - (m + 1) : Nat) : Int)
    · rw [walkI_none (x := n - (m + 1)) (by omega) hm m s (by omega) hn]; rfl
    · rfl
def mis (n : Int) (l : List Edge) : List (List Int) := if goodEds n l then walkI n.toNat l n.toNat [] else []
theorem goodEds_n {n : Int} {l : List Edge} (g : goodEds n l = true) : 0 ≤ n ∧ n ≤ 14 := by
  unfold goodEds at g
  rw [Bool.and_eq_true] at g
  exact inB_of g.1
theorem mis_len (n : Int) (l : List Edge) : (mis n l).length ≤ 16384 := by
  unfold mis
  split
  · rename_i g
    have := goodEds_n g
    have h := walkI_len n.toNat l n.toNat []
    have : 2 ^ n.toNat ≤ 2 ^ 14 := Nat.pow_le_pow_right (by omega) (by omega)
    omega
  · simp
/-- What is found is no longer than the numbers that there are. -/
theorem walkI_mem (n : Nat) (l : List Edge) : ∀ (m : Nat) (s : List Int), ∀ t ∈ walkI n l m s, t.length ≤ s.length + m
  | 0, s, t, ht => by
    unfold walkI at ht
    split at ht
    · simp at ht; subst ht; omega
    · cases ht
  | m + 1, s, t, ht => by
    unfold walkI at ht
    rw [List.mem_append] at ht
    rcases ht with ht | ht
    · split at ht
      · have := walkI_mem n l m _ t ht
        simp only [List.length_append, List.length_singleton] at this
        omega
      · cases ht
    · have := walkI_mem n l m s t ht
      omega
theorem mis_small {n : Int} {l : List Edge} : ∀ t ∈ mis n l, t.length ≤ 14 := by
  intro t ht
  unfold mis at ht
  split at ht
  · rename_i g
    have := goodEds_n g
    have := walkI_mem _ _ _ _ t ht
    simp only [List.length_nil] at this
    omega
  · cases ht
end Go.Proofs.Ytedciihjgbkjgaa.A


/- ALL MAXIMAL INDEPENDENT SETS: the two programs. Conditions: none. -/
namespace Go.Proofs.Ytedciihjgbkjgaa.A
open Go
set_option linter.unusedSimpArgs false
set_option linter.unusedVariables false
set_option maxRecDepth 100000

theorem any_stepM {α : Type} {d : α} {l : List α} {k : Nat} {p : α → Bool} (h : k < l.length) : (l.take (k + 1)).any p = ((l.take k).any p || p (l.getD k d)) := by
  rw [take_snoc d h, List.any_append]; simp
theorem walkS_len (n : Nat) (l : List Edge) : ∀ (m : Nat) (s : List Int), (walkS n l m s).length ≤ 2 ^ m
  | 0, s => by unfold walkS; split <;> simp
  | m + 1, s => by
    have h1 := walkS_len n l m (s ++ [((n - (m + 1) : Nat) : Int)])
    have h2 := walkS_len n l m s
    unfold walkS
    rw [List.length_append, Nat.pow_succ]
    split <;> split <;> simp <;> omega
theorem pow14 {m : Nat} (h : m ≤ 14) : 2 ^ m ≤ 16384 := Nat.pow_le_pow_right (by omega) h
theorem ints_nilf : (ints [] = frz []) = True := eq_true rfl
attribute [go_sem] ints_nilf
theorem rst_two (a b : List (List Int)) : rst (iss 999 a ++ iss 1 b) = iss 1 (a ++ b) := by
  rw [show ∀ x y : Rows, rst (x ++ y) = rst x ++ rst y from fun x y => List.map_append .., iss_rst 998, iss_rst 0, iss_append]
end Go.Proofs.Ytedciihjgbkjgaa.A


/- ALL MAXIMAL INDEPENDENT SETS: the program's search. Conditions: none. -/
namespace Go.Proofs.Ytedciihjgbkjgaa.A
open Go
set_option linter.unusedSimpArgs false
set_option linter.unusedVariables false
set_option maxRecDepth 100000

theorem rep1M {α : Type} (a : α) : List.replicate 1 a = [a] := rfl
end Go.Proofs.Ytedciihjgbkjgaa.A


/- ALL MAXIMAL INDEPENDENT SETS: the program's function. Conditions: none. -/
namespace Go.Proofs.Ytedciihjgbkjgaa.A
open Go
set_option linter.unusedSimpArgs false
set_option linter.unusedVariables false
set_option maxRecDepth 100000

end Go.Proofs.Ytedciihjgbkjgaa.A


/- SETS DRAWN; what the laws compare by. Conditions: none. -/
namespace Go.Proofs.Ytedciihjgbkjgaa.A
open Go
set_option linter.unusedSimpArgs false
set_option linter.unusedVariables false
set_option maxRecDepth 100000

theorem edE_ok {c : Cur} (hc : c.ok) : (edE c).1.ok ∧ (edE c).2.length ≤ 81 := by
  have n1 := beV_lt c (n := 9) (by decide)
  have hn : edN c < 9 := n1
  have o0 : DrOk ((byC (byC c), []) : Dr) 0 := ⟨byC_ok (byC_ok hc), Nat.le_refl _⟩
  have o := allD_ok (rare := edR c) (n := edN c) o0 (edN c)
  have hin : edN c * edN c ≤ 9 * 9 := Nat.mul_le_mul (by omega) (by omega)
  have ho := o.len
  have hk := o.ok
  unfold edE edS
  generalize allD (edR c) (edN c) (byC (byC c), []) (edN c) = s at ho hk ⊢
  simp only
  split
  · exact ⟨hk, by omega⟩
  · split
    · exact ⟨byC_ok (byC_ok (byC_ok hk)), by show (s.2.set _ _).length ≤ 81; rw [List.length_set]; omega⟩
    · exact ⟨byC_ok hk, by show s.2.length ≤ 81; omega⟩
theorem somE_ok {c : Cur} {n : Nat} {l : List Edge} (hc : c.ok) : (somE c n l).1.ok ∧ (somE c n l).2.length ≤ n + 1 := by
  have o0 : DsOk ((c, []) : Ds) 0 := ⟨hc, Nat.le_refl _⟩
  have o := somD_ok (l := l) o0 n
  have ho := o.len
  have hk := o.ok
  unfold somE
  generalize somD l (c, []) n = s at ho hk ⊢
  simp only
  refine ⟨byC_ok hk, ?_⟩
  split
  · rw [List.length_append, List.length_singleton]; omega
  · omega
def misN (b : List Int) : Nat := edN (curN b)
def misL (b : List Int) : List Edge := (edE (curN b)).2
def misS0 (b : List Int) : Ds := somE (edE (curN b)).1 (misN b) (misL b)
def misS (b : List Int) : List Int := if onV (misS0 b).1 2 && (extM (misN b) (misL b) (misS0 b).2).2 then (extM (misN b) (misL b) (misS0 b).2).1 else (misS0 b).2
theorem has_sat (l : List Int) (x : Int) (h : l.length ≤ 9223372036854775807) : Sat Try.prog 11 [lInts l, lInt x] [lBool (decide (x ∈ l))] [g1, g1] := by
  refine sat_of_body mixed Try.func11 rfl (by kernel_rfl) (by kernel_rfl) (rs := [.tmp 4]) rfl rfl rfl ?_
  simp -implicitDefEqProofs (maxSteps := 2000000) only [go_sem]
  refine awp_loop Nat (fun k => mkSt [(0, .one (.im 1 (ints l))), (1, .sc (.int .i64 x)), (5, .sc (.int .i64 k))] [] [] 1000)
    (fun k => k ≤ l.length ∧ x ∉ l.take k) (fun k => l.length - k) 0 ⟨by omega, by simp⟩ (le_st _ _ [] [] _ rfl (by simp -implicitDefEqProofs (maxSteps := 2000000) only [go_sem] <;> rfl) trivial trivial) ?_
  rintro k ⟨h1, h2⟩
  by_cases c1 : k < l.length
  · rcases d : (l.getD k 0 == x)
    · simp -implicitDefEqProofs (maxSteps := 2000000) only [go_sem, c1, d]
      rw [i64_succ (by omega)]
      refine ⟨k + 1, ⟨c1, ?_⟩, by omega, (le_st _ _ [] [] _ rfl (by simp -implicitDefEqProofs (maxSteps := 2000000) only [go_sem] <;> rfl) trivial trivial)⟩
      rw [take_snoc 0 c1, List.mem_append, List.mem_singleton]
      rintro (e | e)
      · exact h2 e
      · rw [e] at d; simp at d
    · rw [decide_eq_true (show x ∈ l by rw [← eq_of_beq d]; exact mem_getD 0 c1)]
      simp -implicitDefEqProofs (maxSteps := 2000000) only [go_sem, c1, d]
      first | done | rfl | exact ⟨rfl, rfl⟩ | exact ⟨rfl, rfl, rfl⟩ | (refine tr_and ?_ ?_ <;> first | rfl | exact ⟨rfl, rfl⟩ | kernel_rfl)
  · obtain rfl : k = l.length := by omega
    rw [List.take_length] at h2
    rw [decide_eq_false h2]
    simp -implicitDefEqProofs (maxSteps := 2000000) only [go_sem, c1]
    first | done | rfl | exact ⟨rfl, rfl⟩ | exact ⟨rfl, rfl, rfl⟩ | (refine tr_and ?_ ?_ <;> first | rfl | exact ⟨rfl, rfl⟩ | kernel_rfl)
theorem sameInts_sat (a b : List Int) (ha : a.length ≤ 9223372036854775807) : Sat Try.prog 9 [.one (.im 1 (ints a)), .one (.im 1 (ints b))] [.one (.sc (.bool (decide (a = b))))] [.one .gone, .one .gone] := by
  refine sat_of_body mixed Try.func9 rfl (by kernel_rfl) (by kernel_rfl) (rs := [.tmp 4]) rfl rfl rfl ?_
  simp -implicitDefEqProofs (maxSteps := 2000000) only [go_sem]
  refine cond_split (fun d => ?_) fun d => ?_
  · simp -implicitDefEqProofs (maxSteps := 2000000) only [go_sem]
    have d : ¬ (a.length : Int) = b.length := by simpa using d
    rw [decide_eq_false (fun h => d (by rw [h]))]
  have d : a.length = b.length := cast_ne d
  simp -implicitDefEqProofs (maxSteps := 2000000) only [go_sem]
  refine awp_loop Nat (fun k => mkSt [(0, .one (.im 1 (ints a))), (1, .one (.im 1 (ints b))), (5, .sc (.int .i64 k))] [] [] 1000)
    (fun k => k ≤ a.length ∧ a.take k = b.take k) (fun k => a.length - k) 0 ⟨by omega, rfl⟩ (le_st _ _ [] [] _ rfl (by simp -implicitDefEqProofs (maxSteps := 2000000) only [go_sem] <;> rfl) trivial trivial) ?_
  rintro k ⟨h1, h2⟩
  by_cases c1 : k < a.length
  · have c2 : k < b.length := by omega
    simp -implicitDefEqProofs (maxSteps := 2000000) only [go_sem, c1, c2]
    refine cond_split (fun e => ?_) fun e => ?_
    · simp -implicitDefEqProofs (maxSteps := 2000000) only [go_sem]
      rw [decide_eq_false (eqList_ne (by simpa using e))]
    simp -implicitDefEqProofs (maxSteps := 2000000) only [go_sem]
    rw [i64_succ (by omega)]
    exact ⟨k + 1, ⟨c1, eqList_step c1 c2 h2 (by simpa using e)⟩, by omega, (le_st _ _ [] [] _ rfl (by simp -implicitDefEqProofs (maxSteps := 2000000) only [go_sem] <;> rfl) trivial trivial)⟩
  · simp -implicitDefEqProofs (maxSteps := 2000000) only [go_sem, c1]
    rw [List.take_of_length_le (by omega), List.take_of_length_le (by omega)] at h2
    rw [decide_eq_true h2]
end Go.Proofs.Ytedciihjgbkjgaa.A


/- CLOSURES: the two programs. Conditions: none. -/
namespace Go.Proofs.Ytedciihjgbkjgaa.A
open Go
set_option linter.unusedSimpArgs false
set_option linter.unusedVariables false
set_option maxRecDepth 100000

/-! #### a predicate of numbers, asked of all numbers of a list -/
theorem intsIndex_sat (f : FuncId) (c : List Fld) (p : Int → Bool) (l : List Int) (h : l.length ≤ 9223372036854775807) (hf : ∀ x, Sat Try.prog f [lInt x, .one (.ip c)] [lBool (!p x)] [g1, g1]) :
    Sat Try.prog 88 [lInts l, .one (.fn f [c])] [lInt (firstNo (fun i => p (l.getD i 0)) l.length 0)] [g1, g1] := by
  refine sat_of_body mixed Try.func88 rfl (by kernel_rfl) (by kernel_rfl) (rs := [.tmp 4]) rfl rfl rfl ?_
  generalize hp : (fun i => p (l.getD i 0)) = p'
  have hp' : ∀ i, p' i = p (l.getD i 0) := fun i => by rw [← hp]
  simp -implicitDefEqProofs (maxSteps := 2000000) only [go_sem]
  refine awp_loop Nat (fun k => mkSt [(0, .one (.im 1 (ints l))), (1, .one (.fni f [c])), (7, .sc (.int .i64 l.length)), (8, .sc (.int .i64 k))] [] [] 1000)
    (fun k => k ≤ l.length ∧ firstNo p' (l.length - k) k = firstNo p' l.length 0) (fun k => l.length - k) 0 ⟨by omega, rfl⟩ (le_st _ _ [] [] _ rfl (by simp -implicitDefEqProofs (maxSteps := 2000000) only [go_sem] <;> rfl) trivial trivial) ?_
  rintro k ⟨h1, h2⟩
  by_cases c1 : k < l.length
  · rw [show l.length - k = (l.length - (k + 1)) + 1 by omega, firstNo, hp'] at h2
    rcases d : p (l.getD k 0)
    · rw [if_neg (by rw [d]; simp)] at h2
      simp -implicitDefEqProofs (maxSteps := 2000000) only [go_sem, c1]
      refine call_of (hf (l.getD k 0)) (by simp -implicitDefEqProofs (maxSteps := 2000000) only [go_sem, d, c1]) (by kernel_rfl) (by simp -implicitDefEqProofs (maxSteps := 2000000) only [go_sem, d, c1]) ?_
      simp -implicitDefEqProofs (maxSteps := 2000000) only [go_sem, d, c1]
      rw [← h2]
    · rw [if_pos d] at h2
      simp -implicitDefEqProofs (maxSteps := 2000000) only [go_sem, c1]
      refine call_of (hf (l.getD k 0)) (by simp -implicitDefEqProofs (maxSteps := 2000000) only [go_sem, d, c1]) (by kernel_rfl) (by simp -implicitDefEqProofs (maxSteps := 2000000) only [go_sem, d, c1]) ?_
      simp -implicitDefEqProofs (maxSteps := 2000000) only [go_sem, d, c1]
      rw [i64_succ (by omega)]
      exact ⟨k + 1, ⟨c1, h2⟩, by omega, (le_st _ _ [] [] _ rfl (by simp -implicitDefEqProofs (maxSteps := 2000000) only [go_sem] <;> rfl) trivial trivial)⟩
  · obtain rfl : k = l.length := by omega
    rw [Nat.sub_self, firstNo] at h2
    simp -implicitDefEqProofs (maxSteps := 2000000) only [go_sem, c1]
    rw [← h2]
theorem intsContains_sat (f : FuncId) (c : List Fld) (p : Int → Bool) (l : List Int) (h : l.length ≤ 9223372036854775807) (hf : ∀ x, Sat Try.prog f [lInt x, .one (.ip c)] [lBool (!p x)] [g1, g1]) :
    Sat Try.prog 73 [lInts l, .one (.fn f [c])] [lBool (!upTo (fun i => p (l.getD i 0)) l.length)] [g1, g1] := by
  refine sat_of_body mixed Try.func73 rfl (by kernel_rfl) (by kernel_rfl) (rs := [.tmp 4]) rfl rfl rfl ?_
  simp -implicitDefEqProofs (maxSteps := 2000000) only [go_sem]
  refine call_of (intsIndex_sat f c p l h hf) (by simp -implicitDefEqProofs (maxSteps := 2000000) only [go_sem]) (by kernel_rfl) (by simp -implicitDefEqProofs (maxSteps := 2000000) only [go_sem]) ?_
  simp -implicitDefEqProofs (maxSteps := 2000000) only [go_sem]
  rw [firstNo_ge _ _ _ rfl, Nat.zero_add]
theorem isSubset1_sat (b : List Int) (h : b.length ≤ 9223372036854775807) (x : Int) : Sat Try.prog 74 [lInt x, .one (.ip [.im 1 (ints b)])] [lBool (!decide (x ∈ b))] [g1, g1] := by
  refine sat_of_body mixed Try.func74 rfl (by kernel_rfl) (by kernel_rfl) (rs := [.tmp 3]) rfl rfl rfl ?_
  simp -implicitDefEqProofs (maxSteps := 2000000) only [go_sem]
  refine call_of (slicesContains_sat b x h) (by simp -implicitDefEqProofs (maxSteps := 2000000) only [go_sem]) (by kernel_rfl) (by simp -implicitDefEqProofs (maxSteps := 2000000) only [go_sem]) ?_
  simp -implicitDefEqProofs (maxSteps := 2000000) only [go_sem]
theorem isSubset_sat (a b : List Int) (ha : a.length ≤ 9223372036854775807) (hb : b.length ≤ 9223372036854775807) : Sat Try.prog 44 [lInts a, lInts b] [lBool (subs a b)] [g1, g1] := by
  refine sat_of_body mixed Try.func44 rfl (by kernel_rfl) (by kernel_rfl) (rs := [.tmp 4]) rfl rfl rfl ?_
  simp -implicitDefEqProofs (maxSteps := 2000000) only [go_sem]
  refine call_of (intsContains_sat 74 [.im 1 (ints b)] (fun x => decide (x ∈ b)) a ha (isSubset1_sat b hb)) (by simp -implicitDefEqProofs (maxSteps := 2000000) only [go_sem]) (by kernel_rfl) (by simp -implicitDefEqProofs (maxSteps := 2000000) only [go_sem]) ?_
  simp -implicitDefEqProofs (maxSteps := 2000000) only [go_sem]
  rw [Bool.not_not]
  rfl
theorem l14Has_sat (b a : List Int) (hb : b.length ≤ 9223372036854775807) (ha : a.length ≤ 9223372036854775807) : Sat Try.prog 43 [lInts b, lInts a] [lBool (subs a b)] [g1, g1] := by
  refine sat_of_body mixed Try.func43 rfl (by kernel_rfl) (by kernel_rfl) (rs := [.tmp 4]) rfl rfl rfl ?_
  unfold subs
  simp -implicitDefEqProofs (maxSteps := 2000000) only [go_sem]
  refine awp_loop Nat (fun k => mkSt [(0, .one (.im 1 (ints b))), (1, .one (.im 1 (ints a))), (5, .sc (.int .i64 k))] [] [] 1000)
    (fun k => k ≤ a.length ∧ upTo (subAt a b) k = true) (fun k => a.length - k) 0 ⟨by omega, rfl⟩ (le_st _ _ [] [] _ rfl (by simp -implicitDefEqProofs (maxSteps := 2000000) only [go_sem] <;> rfl) trivial trivial) ?_
  rintro k ⟨h1, h2⟩
  by_cases c1 : k < a.length
  · rcases d : decide (a.getD k 0 ∈ b)
    · rw [upTo_false c1 (by rw [subAt, d])]
      simp -implicitDefEqProofs (maxSteps := 2000000) only [go_sem, c1]
      refine call_of (l7Has_sat b (a.getD k 0) hb) (by simp -implicitDefEqProofs (maxSteps := 2000000) only [go_sem, d]) (by kernel_rfl) (by simp -implicitDefEqProofs (maxSteps := 2000000) only [go_sem, d]) ?_
      simp -implicitDefEqProofs (maxSteps := 2000000) only [go_sem, d]
    · simp -implicitDefEqProofs (maxSteps := 2000000) only [go_sem, c1]
      refine call_of (l7Has_sat b (a.getD k 0) hb) (by simp -implicitDefEqProofs (maxSteps := 2000000) only [go_sem, d]) (by kernel_rfl) (by simp -implicitDefEqProofs (maxSteps := 2000000) only [go_sem, d]) ?_
      simp -implicitDefEqProofs (maxSteps := 2000000) only [go_sem, d]
      rw [i64_succ (by omega)]
      exact ⟨k + 1, ⟨c1, upTo_step h2 (by rw [subAt, d])⟩, by omega, (le_st _ _ [] [] _ rfl (by simp -implicitDefEqProofs (maxSteps := 2000000) only [go_sem] <;> rfl) trivial trivial)⟩
  · obtain rfl : k = a.length := by omega
    simp -implicitDefEqProofs (maxSteps := 2000000) only [go_sem, c1]
    rw [h2]
theorem l14Both_sat (a b : List Int) (ha : a.length ≤ 9223372036854775807) (hb : b.length ≤ 9223372036854775807) : Sat Try.prog 42 [lInts a, lInts b] [oInts (selN (fun v => decide (v ∈ a) || decide (v ∈ b)) 4)] [g1, g1] := by
  refine sat_of_body mixed Try.func42 rfl (by kernel_rfl) (by kernel_rfl) (rs := [.tmp 4]) rfl rfl rfl ?_
  generalize hp : (fun v => decide (v ∈ a) || decide (v ∈ b)) = p
  simp -implicitDefEqProofs (maxSteps := 2000000) only [go_sem]
  refine awp_loop Nat (fun k => mkSt [(0, .one (.im 1 (ints a))), (1, .one (.im 1 (ints b))), (5, .one (.ref 960 1 0 (selN p k).length)), (6, .sc (.int .i64 k))] [] [(960, (1, ints (selN p k)))] 2000)
    (fun k => k ≤ 4) (fun k => 4 - k) 0 (by omega) (le_st' _ _ [⟨960, some _, false, 1, _⟩] [] _ (by simp -implicitDefEqProofs (maxSteps := 2000000) only [go_sem] <;> and_intros <;> rfl) (by simp -implicitDefEqProofs (maxSteps := 2000000) only [go_sem] <;> and_intros <;> rfl) (by simp -implicitDefEqProofs (maxSteps := 2000000) only [go_sem] <;> and_intros <;> rfl) (by rfl)) ?_
  rintro k h1
  have hl := selN_len p k
  by_cases c1 : k < 4
  · have c3 : (k : Int) < 4 := by omega
    simp -implicitDefEqProofs (maxSteps := 2000000) only [go_sem, c3]
    rcases d1 : decide ((k : Int) ∈ a)
    · rcases d2 : decide ((k : Int) ∈ b)
      · refine call_of (l7Has_sat a k ha) (by simp -implicitDefEqProofs (maxSteps := 2000000) only [go_sem, c3, d1]) (by kernel_rfl) (by simp -implicitDefEqProofs (maxSteps := 2000000) only [go_sem, c3, d1]) ?_
        simp -implicitDefEqProofs (maxSteps := 2000000) only [go_sem, c3, d1]
        refine call_of (l7Has_sat b k hb) (by simp -implicitDefEqProofs (maxSteps := 2000000) only [go_sem, c3, d2]) (by kernel_rfl) (by simp -implicitDefEqProofs (maxSteps := 2000000) only [go_sem, c3, d2]) ?_
        simp -implicitDefEqProofs (maxSteps := 2000000) only [go_sem, c3, d2]
        rw [i64_succ (by omega)]
        refine ⟨k + 1, by omega, by omega, ?_⟩
        rw [selN_no (by rw [← hp]; show (decide ((k : Int) ∈ a) || decide ((k : Int) ∈ b)) = false; rw [d1, d2]; rfl)]
        exact (le_st' _ _ [⟨960, some _, false, 1, _⟩] [] _ (by simp -implicitDefEqProofs (maxSteps := 2000000) only [go_sem] <;> and_intros <;> rfl) (by simp -implicitDefEqProofs (maxSteps := 2000000) only [go_sem] <;> and_intros <;> rfl) (by simp -implicitDefEqProofs (maxSteps := 2000000) only [go_sem] <;> and_intros <;> rfl) (by rfl))
      · refine call_of (l7Has_sat a k ha) (by simp -implicitDefEqProofs (maxSteps := 2000000) only [go_sem, c3, d1]) (by kernel_rfl) (by simp -implicitDefEqProofs (maxSteps := 2000000) only [go_sem, c3, d1]) ?_
        simp -implicitDefEqProofs (maxSteps := 2000000) only [go_sem, c3, d1]
        refine call_of (l7Has_sat b k hb) (by simp -implicitDefEqProofs (maxSteps := 2000000) only [go_sem, c3, d2]) (by kernel_rfl) (by simp -implicitDefEqProofs (maxSteps := 2000000) only [go_sem, c3, d2]) ?_
        simp -implicitDefEqProofs (maxSteps := 2000000) only [go_sem, c3, d2]
        refine ⟨by omega, ?_⟩
        rw [i64_succ (by omega)]
        refine ⟨k + 1, by omega, by omega, ?_⟩
        rw [selN_yes (by rw [← hp]; show (decide ((k : Int) ∈ a) || decide ((k : Int) ∈ b)) = true; rw [d1, d2]; rfl)]
        exact (le_st' _ _ [⟨960, some _, false, 1, _⟩] [] _ (by simp -implicitDefEqProofs (maxSteps := 2000000) only [go_sem] <;> and_intros <;> rfl) (by simp -implicitDefEqProofs (maxSteps := 2000000) only [go_sem] <;> and_intros <;> rfl) (by simp -implicitDefEqProofs (maxSteps := 2000000) only [go_sem] <;> and_intros <;> rfl) (by rfl))
    · refine call_of (l7Has_sat a k ha) (by simp -implicitDefEqProofs (maxSteps := 2000000) only [go_sem, c3, d1]) (by kernel_rfl) (by simp -implicitDefEqProofs (maxSteps := 2000000) only [go_sem, c3, d1]) ?_
      simp -implicitDefEqProofs (maxSteps := 2000000) only [go_sem, c3, d1]
      refine ⟨by omega, ?_⟩
      rw [i64_succ (by omega)]
      refine ⟨k + 1, by omega, by omega, ?_⟩
      rw [selN_yes (by rw [← hp]; show (decide ((k : Int) ∈ a) || decide ((k : Int) ∈ b)) = true; rw [d1]; rfl)]
      exact (le_st' _ _ [⟨960, some _, false, 1, _⟩] [] _ (by simp -implicitDefEqProofs (maxSteps := 2000000) only [go_sem] <;> and_intros <;> rfl) (by simp -implicitDefEqProofs (maxSteps := 2000000) only [go_sem] <;> and_intros <;> rfl) (by simp -implicitDefEqProofs (maxSteps := 2000000) only [go_sem] <;> and_intros <;> rfl) (by rfl))
  · have c3 : ¬ (k : Int) < 4 := by omega
    simp -implicitDefEqProofs (maxSteps := 2000000) only [go_sem, c3]
    obtain rfl : k = 4 := by omega
    first | done | rfl | exact ⟨rfl, rfl⟩ | exact ⟨rfl, rfl, rfl⟩ | (refine tr_and ?_ ?_ <;> first | rfl | exact ⟨rfl, rfl⟩ | kernel_rfl)
theorem both_uni {c v : List Int} (h : Small c) : selN (fun x => decide (x ∈ c) || decide (x ∈ varsOf v)) 4 = uni c (varsOf v) := by
  refine strict_eq (selN_strict _ _) (uni_strict _ _) fun x => ?_
  rw [selN_mem, uni_mem]
  simp only [Bool.or_eq_true, decide_eq_true_eq]
  refine ⟨fun h => h.2.2, fun k => ⟨?_, ?_, k⟩⟩
  · exact k.elim (fun k => (h.small x k).1) (fun k => (varsOf_small v x k).1)
  · exact k.elim (fun k => (h.small x k).2) (fun k => (varsOf_small v x k).2)

/-! #### the closure -/
def closS (l : List Rel) (ats : List RI) (skip : Int) (k : Nat) (c : List Int) (same : Bool) (L : List Int) : St := match same with
  | true => mkSt [(0, .one (.im 3 (rels l))), (1, .one (.im 2 (ris 0 ats))), (2, .sc (.int .i64 skip)), (9, .one (.ref 960 1 0 c.length)), (10, .one (.ref 960 1 0 c.length)), (16, .one (.im 2 (ris 0 ats))), (17, .sc (.int .i64 ats.length)), (18, .sc (.int .i64 k))] [] [(960, (1, ints c))] 8000
  | false => mkSt [(0, .one (.im 3 (rels l))), (1, .one (.im 2 (ris 0 ats))), (2, .sc (.int .i64 skip)), (9, .one (.ref 960 1 0 c.length)), (10, .one (.ref 961 1 0 L.length)), (16, .one (.im 2 (ris 0 ats))), (17, .sc (.int .i64 ats.length)), (18, .sc (.int .i64 k))] [] [(960, (1, ints c)), (961, (1, ints L))] 8000
/-- What a closure comes to. -/
def clos (l : List Rel) (ats : List RI) (skip : Int) (c : List Int) : List Int := iter l ats skip ats.length c ats.length
theorem closure_sat (l : List Rel) (ats : List RI) (skip : Int) (vs : List Int) (hl : l.length ≤ 9223372036854775807) (ha : ats.length ≤ 1048576) (hx : ∀ x ∈ ats, x.ok) (hv : vs.length ≤ 4194304) (hs : Small (uni vs [])) :
    Sat Try.prog 41 [lRels l, lRIs ats, lInt skip, lInts vs] [oInts (clos l ats skip (uni vs []))] [g1, g1, g1, g1] := by
  refine sat_of_body mixed Try.func41 rfl (by kernel_rfl) (by kernel_rfl) (rs := [.tmp 8]) rfl rfl rfl ?_
  generalize hc0 : uni vs [] = c0 at hs ⊢
  simp -implicitDefEqProofs (maxSteps := 2000000) only [go_sem]
  refine call_of (union_sat vs [] (by simp; omega)) (by simp -implicitDefEqProofs (maxSteps := 2000000) only [go_sem, ints_nil, hc0]) (callOk_still (by kernel_rfl) (by simp only [List.all_cons, List.all_nil, LV.still, LV.leaves, Leaf.still, ints_still, ris_still, eds_still, rels_still, iss_still, ems_still, Bool.and_self, Bool.and_true])) (by simp -implicitDefEqProofs (maxSteps := 2000000) only [go_sem, ints_nil, hc0]) ?_
  simp -implicitDefEqProofs (maxSteps := 2000000) only [go_sem, ints_nil, hc0]
  refine awp_loop Nat (fun j => mkSt [(0, .one (.im 3 (rels l))), (1, .one (.im 2 (ris 0 ats))), (2, .sc (.int .i64 skip)), (9, .one (.ref 960 1 0 (iter l ats skip ats.length c0 j).length))] [] [(960, (1, ints (iter l ats skip ats.length c0 j)))] 4000)
    (fun j => j ≤ 4 ∧ j ≤ (iter l ats skip ats.length c0 j).length) (fun j => 4 - j) 0 ⟨by omega, by omega⟩ (le_st' _ _ [⟨960, some _, false, 1, _⟩] [] _ (by simp -implicitDefEqProofs (maxSteps := 2000000) only [go_sem, hc0] <;> and_intros <;> rfl) (by simp -implicitDefEqProofs (maxSteps := 2000000) only [go_sem, hc0] <;> and_intros <;> rfl) (by simp -implicitDefEqProofs (maxSteps := 2000000) only [go_sem, hc0] <;> and_intros <;> rfl) (by rfl)) ?_
  rintro j ⟨h1, h2⟩
  have sm := iter_small (l := l) (ats := ats) (skip := skip) (n := ats.length) hs (m := j)
  generalize hc : iter l ats skip ats.length c0 j = c at h2 sm ⊢
  have hcl := sm.len
  simp -implicitDefEqProofs (maxSteps := 2000000) only [go_sem]
  refine awp_loop (Nat × Bool × List Int) (fun x => closS l ats skip x.1 c x.2.1 x.2.2)
    (fun x => x.1 ≤ ats.length ∧ x.2.2 = passA l ats skip c x.1 ∧ (x.2.1 = true → x.2.2 = c)) (fun x => ats.length - x.1) (0, true, c) ⟨by simp, rfl, fun _ => rfl⟩ (le_st' _ _ [⟨960, some _, false, 1, _⟩] [] _ (by simp -implicitDefEqProofs (maxSteps := 2000000) only [go_sem] <;> and_intros <;> rfl) (by simp -implicitDefEqProofs (maxSteps := 2000000) only [go_sem] <;> and_intros <;> rfl) (by simp -implicitDefEqProofs (maxSteps := 2000000) only [go_sem] <;> and_intros <;> rfl) (by rfl)) ?_
  rintro ⟨k, same, L⟩ ⟨h3, h4, h5⟩
  simp only at h3 h4 h5
  have smL : Small L := by rw [h4]; exact passA_small sm
  have hLl := smL.len
  by_cases c1 : k < ats.length
  · have hok := hx _ (mem_getD default c1)
    have hkl := keyVars_len l (ats.getD k default)
    have hvl := varsOf_len (ats.getD k default).l
    have wi : IntKind.i64.wrap ((k : Int) + 1) = ((k + 1 : Nat) : Int) := i64_succ (by omega)
    rcases d1 : ((k : Int) != skip)
    · have e : passA l ats skip c (k + 1) = L := by rw [passA, ← h4, fire, d1]; rfl
      cases same with
      | true =>
        dsimp only [closS]
        simp -implicitDefEqProofs (maxSteps := 2000000) only [go_sem, c1, d1, wi]
        exact ⟨(k + 1, true, L), ⟨c1, e.symm, fun _ => h5 rfl⟩, by simp; omega, (le_st' _ _ [⟨960, some _, false, 1, _⟩] [] _ (by simp -implicitDefEqProofs (maxSteps := 2000000) only [go_sem] <;> and_intros <;> rfl) (by simp -implicitDefEqProofs (maxSteps := 2000000) only [go_sem] <;> and_intros <;> rfl) (by simp -implicitDefEqProofs (maxSteps := 2000000) only [go_sem] <;> and_intros <;> rfl) (by rfl))⟩
      | false =>
        dsimp only [closS]
        simp -implicitDefEqProofs (maxSteps := 2000000) only [go_sem, c1, d1, wi]
        exact ⟨(k + 1, false, L), ⟨c1, e.symm, fun h => by cases h⟩, by simp; omega, (le_st' _ _ [⟨960, some _, false, 1, _⟩, ⟨961, some _, false, 1, _⟩] [] _ (by simp -implicitDefEqProofs (maxSteps := 2000000) only [go_sem] <;> and_intros <;> rfl) (by simp -implicitDefEqProofs (maxSteps := 2000000) only [go_sem] <;> and_intros <;> rfl) (by simp -implicitDefEqProofs (maxSteps := 2000000) only [go_sem] <;> and_intros <;> rfl) (by rfl))⟩
    rcases d2 : subs (keyVars l (ats.getD k default)) L
    · have e : passA l ats skip c (k + 1) = L := by rw [passA, ← h4, fire, d1, d2]; rfl
      cases same with
      | true =>
        have hLc := h5 rfl
        rw [hLc] at d2
        dsimp only [closS]
        simp -implicitDefEqProofs (maxSteps := 2000000) only [go_sem, c1, d1]
        refine call_of (implKeyVariables_sat l (ats.getD k default) hl hok) (by simp -implicitDefEqProofs (maxSteps := 2000000) only [go_sem, c1]) (callOk_still (by kernel_rfl) (by simp only [List.all_cons, List.all_nil, LV.still, LV.leaves, Leaf.still, ints_still, ris_still, eds_still, rels_still, iss_still, ems_still, Bool.and_self, Bool.and_true])) (by simp -implicitDefEqProofs (maxSteps := 2000000) only [go_sem, c1]) ?_
        simp -implicitDefEqProofs (maxSteps := 2000000) only [go_sem, c1]
        refine call_of (isSubset_sat (keyVars l (ats.getD k default)) c (by omega) (by omega)) (by simp -implicitDefEqProofs (maxSteps := 2000000) only [go_sem, d2]) (by kernel_rfl) (by simp -implicitDefEqProofs (maxSteps := 2000000) only [go_sem, d2]) ?_
        simp -implicitDefEqProofs (maxSteps := 2000000) only [go_sem, d2]
        rw [wi]
        exact ⟨(k + 1, true, L), ⟨c1, e.symm, fun _ => h5 rfl⟩, by simp; omega, (le_st' _ _ [⟨960, some _, false, 1, _⟩] [] _ (by simp -implicitDefEqProofs (maxSteps := 2000000) only [go_sem] <;> and_intros <;> rfl) (by simp -implicitDefEqProofs (maxSteps := 2000000) only [go_sem] <;> and_intros <;> rfl) (by simp -implicitDefEqProofs (maxSteps := 2000000) only [go_sem] <;> and_intros <;> rfl) (by rfl))⟩
      | false =>
        dsimp only [closS]
        simp -implicitDefEqProofs (maxSteps := 2000000) only [go_sem, c1, d1]
        refine call_of (implKeyVariables_sat l (ats.getD k default) hl hok) (by simp -implicitDefEqProofs (maxSteps := 2000000) only [go_sem, c1]) (callOk_still (by kernel_rfl) (by simp only [List.all_cons, List.all_nil, LV.still, LV.leaves, Leaf.still, ints_still, ris_still, eds_still, rels_still, iss_still, ems_still, Bool.and_self, Bool.and_true])) (by simp -implicitDefEqProofs (maxSteps := 2000000) only [go_sem, c1]) ?_
        simp -implicitDefEqProofs (maxSteps := 2000000) only [go_sem, c1]
        refine call_of (isSubset_sat (keyVars l (ats.getD k default)) L (by omega) (by omega)) (by simp -implicitDefEqProofs (maxSteps := 2000000) only [go_sem, d2]) (by kernel_rfl) (by simp -implicitDefEqProofs (maxSteps := 2000000) only [go_sem, d2]) ?_
        simp -implicitDefEqProofs (maxSteps := 2000000) only [go_sem, d2]
        rw [wi]
        exact ⟨(k + 1, false, L), ⟨c1, e.symm, fun h => by cases h⟩, by simp; omega, (le_st' _ _ [⟨960, some _, false, 1, _⟩, ⟨961, some _, false, 1, _⟩] [] _ (by simp -implicitDefEqProofs (maxSteps := 2000000) only [go_sem] <;> and_intros <;> rfl) (by simp -implicitDefEqProofs (maxSteps := 2000000) only [go_sem] <;> and_intros <;> rfl) (by simp -implicitDefEqProofs (maxSteps := 2000000) only [go_sem] <;> and_intros <;> rfl) (by rfl))⟩
    · have e : passA l ats skip c (k + 1) = uni L (varsOf (ats.getD k default).l) := by rw [passA, ← h4, fire, d1, d2]; rfl
      cases same with
      | true =>
        have hLc := h5 rfl
        rw [hLc] at d2 e
        dsimp only [closS]
        simp -implicitDefEqProofs (maxSteps := 2000000) only [go_sem, c1, d1]
        refine call_of (implKeyVariables_sat l (ats.getD k default) hl hok) (by simp -implicitDefEqProofs (maxSteps := 2000000) only [go_sem, c1]) (callOk_still (by kernel_rfl) (by simp only [List.all_cons, List.all_nil, LV.still, LV.leaves, Leaf.still, ints_still, ris_still, eds_still, rels_still, iss_still, ems_still, Bool.and_self, Bool.and_true])) (by simp -implicitDefEqProofs (maxSteps := 2000000) only [go_sem, c1]) ?_
        simp -implicitDefEqProofs (maxSteps := 2000000) only [go_sem, c1]
        refine call_of (isSubset_sat (keyVars l (ats.getD k default)) c (by omega) (by omega)) (by simp -implicitDefEqProofs (maxSteps := 2000000) only [go_sem, d2]) (by kernel_rfl) (by simp -implicitDefEqProofs (maxSteps := 2000000) only [go_sem, d2]) ?_
        simp -implicitDefEqProofs (maxSteps := 2000000) only [go_sem, d2]
        refine call_of (implAtomVariables_sat (ats.getD k default) hok) (by simp -implicitDefEqProofs (maxSteps := 2000000) only [go_sem]) (callOk_still (by kernel_rfl) (by simp only [List.all_cons, List.all_nil, LV.still, LV.leaves, Leaf.still, ints_still, ris_still, eds_still, rels_still, iss_still, ems_still, Bool.and_self, Bool.and_true])) (by simp -implicitDefEqProofs (maxSteps := 2000000) only [go_sem]) ?_
        simp -implicitDefEqProofs (maxSteps := 2000000) only [go_sem]
        refine call_of (union_sat c (varsOf (ats.getD k default).l) (by omega)) (by simp -implicitDefEqProofs (maxSteps := 2000000) only [go_sem]) (callOk_still (by kernel_rfl) (by simp only [List.all_cons, List.all_nil, LV.still, LV.leaves, Leaf.still, ints_still, ris_still, eds_still, rels_still, iss_still, ems_still, Bool.and_self, Bool.and_true])) (by simp -implicitDefEqProofs (maxSteps := 2000000) only [go_sem]) ?_
        simp -implicitDefEqProofs (maxSteps := 2000000) only [go_sem]
        rw [wi]
        exact ⟨(k + 1, false, uni c (varsOf (ats.getD k default).l)), ⟨c1, e.symm, fun h => by cases h⟩, by simp; omega, (le_st' _ _ [⟨960, some _, false, 1, _⟩, ⟨961, some _, false, 1, _⟩] [] _ (by simp -implicitDefEqProofs (maxSteps := 2000000) only [go_sem] <;> and_intros <;> rfl) (by simp -implicitDefEqProofs (maxSteps := 2000000) only [go_sem] <;> and_intros <;> rfl) (by simp -implicitDefEqProofs (maxSteps := 2000000) only [go_sem] <;> and_intros <;> rfl) (by rfl))⟩
      | false =>
        dsimp only [closS]
        simp -implicitDefEqProofs (maxSteps := 2000000) only [go_sem, c1, d1]
        refine call_of (implKeyVariables_sat l (ats.getD k default) hl hok) (by simp -implicitDefEqProofs (maxSteps := 2000000) only [go_sem, c1]) (callOk_still (by kernel_rfl) (by simp only [List.all_cons, List.all_nil, LV.still, LV.leaves, Leaf.still, ints_still, ris_still, eds_still, rels_still, iss_still, ems_still, Bool.and_self, Bool.and_true])) (by simp -implicitDefEqProofs (maxSteps := 2000000) only [go_sem, c1]) ?_
        simp -implicitDefEqProofs (maxSteps := 2000000) only [go_sem, c1]
        refine call_of (isSubset_sat (keyVars l (ats.getD k default)) L (by omega) (by omega)) (by simp -implicitDefEqProofs (maxSteps := 2000000) only [go_sem, d2]) (by kernel_rfl) (by simp -implicitDefEqProofs (maxSteps := 2000000) only [go_sem, d2]) ?_
        simp -implicitDefEqProofs (maxSteps := 2000000) only [go_sem, d2]
        refine call_of (implAtomVariables_sat (ats.getD k default) hok) (by simp -implicitDefEqProofs (maxSteps := 2000000) only [go_sem]) (callOk_still (by kernel_rfl) (by simp only [List.all_cons, List.all_nil, LV.still, LV.leaves, Leaf.still, ints_still, ris_still, eds_still, rels_still, iss_still, ems_still, Bool.and_self, Bool.and_true])) (by simp -implicitDefEqProofs (maxSteps := 2000000) only [go_sem]) ?_
        simp -implicitDefEqProofs (maxSteps := 2000000) only [go_sem]
        refine call_of (union_sat L (varsOf (ats.getD k default).l) (by omega)) (by simp -implicitDefEqProofs (maxSteps := 2000000) only [go_sem]) (callOk_still (by kernel_rfl) (by simp only [List.all_cons, List.all_nil, LV.still, LV.leaves, Leaf.still, ints_still, ris_still, eds_still, rels_still, iss_still, ems_still, Bool.and_self, Bool.and_true])) (by simp -implicitDefEqProofs (maxSteps := 2000000) only [go_sem]) ?_
        simp -implicitDefEqProofs (maxSteps := 2000000) only [go_sem]
        rw [wi]
        exact ⟨(k + 1, false, uni L (varsOf (ats.getD k default).l)), ⟨c1, e.symm, fun h => by cases h⟩, by simp; omega, (le_st' _ _ [⟨960, some _, false, 1, _⟩, ⟨961, some _, false, 1, _⟩] [] _ (by simp -implicitDefEqProofs (maxSteps := 2000000) only [go_sem] <;> and_intros <;> rfl) (by simp -implicitDefEqProofs (maxSteps := 2000000) only [go_sem] <;> and_intros <;> rfl) (by simp -implicitDefEqProofs (maxSteps := 2000000) only [go_sem] <;> and_intros <;> rfl) (by rfl))⟩
  obtain rfl : k = ats.length := by omega
  have fin : L = c → clos l ats skip c0 = c := fun e => by
    have e2 : iter l ats skip ats.length c0 (j + 1) = iter l ats skip ats.length c0 j := by
      show passA l ats skip (iter l ats skip ats.length c0 j) ats.length = _
      rw [hc, ← h4, e]
    rw [clos, ← iter_done hs e2, hc]
  cases same with
  | true =>
    rw [fin (h5 rfl)]
    dsimp only [closS]
    simp -implicitDefEqProofs (maxSteps := 2000000) only [go_sem, c1]
    first | done | rfl | exact ⟨rfl, rfl⟩ | exact ⟨rfl, rfl, rfl⟩ | (refine tr_and ?_ ?_ <;> first | rfl | exact ⟨rfl, rfl⟩ | kernel_rfl)
  | false =>
    dsimp only [closS]
    have hsub := strict_sub_len sm.strict smL.strict fun x hx => by rw [h4]; exact passA_sub x hx
    rcases d3 : ((L.length : Int) == c.length)
    · have hne : (L.length : Int) ≠ c.length := by simpa using d3
      simp -implicitDefEqProofs (maxSteps := 2000000) only [go_sem, c1, d3]
      refine ⟨j + 1, ⟨by omega, ?_⟩, by omega, ?_⟩
      · rw [show iter l ats skip ats.length c0 (j + 1) = L by rw [h4, ← hc]; rfl]; omega
      · rw [show iter l ats skip ats.length c0 (j + 1) = L by rw [h4, ← hc]; rfl]
        exact (le_st' _ _ [⟨960, some _, false, 1, _⟩] [] _ (by simp -implicitDefEqProofs (maxSteps := 2000000) only [go_sem] <;> and_intros <;> rfl) (by simp -implicitDefEqProofs (maxSteps := 2000000) only [go_sem] <;> and_intros <;> rfl) (by simp -implicitDefEqProofs (maxSteps := 2000000) only [go_sem] <;> and_intros <;> rfl) (by rfl))
    · have he : L = c := (hsub.2 (by have := eq_of_beq d3; omega)).symm
      rw [fin he]
      simp -implicitDefEqProofs (maxSteps := 2000000) only [go_sem, c1, d3]
      first | done | rfl | exact ⟨rfl, rfl⟩ | exact ⟨rfl, rfl, rfl⟩ | (refine tr_and ?_ ?_ <;> first | rfl | exact ⟨rfl, rfl⟩ | kernel_rfl)
end Go.Proofs.Ytedciihjgbkjgaa.A


/- ATTRIBUTE CLOSURES, KEY CLOSURES, WHAT DETERMINES WHAT. Conditions: none. -/
namespace Go.Proofs.Ytedciihjgbkjgaa.A
open Go
set_option linter.unusedSimpArgs false
set_option linter.unusedVariables false
set_option maxRecDepth 100000

def start (q : Qu) (vs : List Int) : List Int := selN (fun v => decide (v ∈ vs) || decide (v ∈ q.free)) 4
def acl (l : List Rel) (q : Qu) (skip : Int) (vs : List Int) : List Int := if goodQu l q then clos l q.atoms skip (start q vs) else []
theorem start_small (q : Qu) (vs : List Int) : Small (start q vs) := Small.selN
theorem clos_small {l : List Rel} {ats : List RI} {skip : Int} {c : List Int} (h : Small c) : Small (clos l ats skip c) := iter_small h
theorem acl_len (l : List Rel) (q : Qu) (skip : Int) (vs : List Int) : (acl l q skip vs).length ≤ 4 := by
  unfold acl; split
  · exact (clos_small (start_small q vs)).len
  · simp
theorem free_small {l : List Rel} {q : Qu} (h : goodQu l q = true) : ∀ x ∈ q.free, 0 ≤ x ∧ x < 4 := by
  unfold goodQu at h
  simp only [Bool.and_eq_true] at h
  have hv := inB_of h.2.1
  intro x hx
  obtain ⟨i, hi, rfl⟩ := List.mem_iff_getElem.mp hx
  have h1 := upTo_at h.2.2.2.1 hi
  unfold idxAt at h1
  rw [Bool.and_eq_true, List.getD_eq_getElem?_getD, List.getElem?_eq_getElem hi] at h1
  have h2 := inB_of h1.1
  simp only [Option.getD_some] at h2
  omega
theorem atoms3 {l : List Rel} {q : Qu} (h : goodQu l q = true) : q.atoms.length ≤ 3 := by
  unfold goodQu at h
  simp only [Bool.and_eq_true] at h
  have hv := inB_of h.2.2.1
  omega
theorem start_uni {l : List Rel} {q : Qu} (h : goodQu l q = true) (vs : List Int) : uni (q.free ++ vs.filter fun x => inB x 0 3) [] = start q vs := by
  refine strict_eq (uni_strict _ _) (selN_strict _ _) fun x => ?_
  rw [uni_mem, start, selN_mem, List.mem_append, List.mem_filter]
  have hf := free_small h
  unfold inB
  simp only [List.not_mem_nil, or_false, Bool.and_eq_true, Bool.or_eq_true, decide_eq_true_eq]
  constructor
  · rintro (k | ⟨k, k2⟩)
    · exact ⟨(hf x k).1, (hf x k).2, .inr k⟩
    · exact ⟨k2.1, by omega, .inl k⟩
  · rintro ⟨k1, k2, k | k⟩
    · exact .inr ⟨k, k1, by omega⟩
    · exact .inl k
theorem implAttributeClosure_sat (l : List Rel) (q : Qu) (skip : Int) (vs : List Int) (hl : l.length ≤ 9223372036854775807) (hq : q.ok) (hv : vs.length ≤ 1048576) : Sat Try.prog 8 [lRels l, lQu q, lInt skip, lInts vs] [oInts (acl l q skip vs)] [g1, g3, g1, g1] := by
  refine sat_of_body mixed Try.func8 rfl (by kernel_rfl) (by kernel_rfl) (rs := [.tmp 8]) rfl rfl rfl ?_
  simp -implicitDefEqProofs (maxSteps := 2000000) only [go_sem]
  rcases g : goodQu l q
  · rw [show acl l q skip vs = [] by rw [acl, g]; rfl]
    refine call_of (implIsValidQuery_sat l q hl hq) (by simp -implicitDefEqProofs (maxSteps := 2000000) only [go_sem, g]) (by kernel_rfl) (by simp -implicitDefEqProofs (maxSteps := 2000000) only [go_sem, g]) ?_
    simp -implicitDefEqProofs (maxSteps := 2000000) only [go_sem, g]
    first | done | rfl | exact ⟨rfl, rfl⟩ | exact ⟨rfl, rfl, rfl⟩ | (refine tr_and ?_ ?_ <;> first | rfl | exact ⟨rfl, rfl⟩ | kernel_rfl)
  rw [show acl l q skip vs = clos l q.atoms skip (uni (q.free ++ vs.filter fun x => inB x 0 3) []) by rw [acl, g, start_uni g]; rfl]
  have hff := hq.2
  have h3 := atoms3 g
  refine call_of (implIsValidQuery_sat l q hl hq) (by simp -implicitDefEqProofs (maxSteps := 2000000) only [go_sem, g]) (by kernel_rfl) (by simp -implicitDefEqProofs (maxSteps := 2000000) only [go_sem, g]) ?_
  simp -implicitDefEqProofs (maxSteps := 2000000) only [go_sem, g]
  refine call_of (slicesClone_sat q.free hff) (by simp -implicitDefEqProofs (maxSteps := 2000000) only [go_sem]) (callOk_still (by kernel_rfl) (by simp only [List.all_cons, List.all_nil, LV.still, LV.leaves, Leaf.still, ints_still, ris_still, eds_still, rels_still, iss_still, ems_still, Bool.and_self, Bool.and_true])) (by simp -implicitDefEqProofs (maxSteps := 2000000) only [go_sem]) ?_
  simp -implicitDefEqProofs (maxSteps := 2000000) only [go_sem]
  generalize hp : (fun x => inB x 0 3) = p
  refine awp_loop Nat (fun k => mkSt [(0, .one (.im 3 (rels l))), (2, .sc (.int .i64 skip)), (5, .one (.vad 1000 0)), (9, .one (.ref 960 1 0 (q.free ++ (vs.take k).filter p).length)), (19, .one (.im 1 (ints vs))), (20, .sc (.int .i64 vs.length)), (21, .sc (.int .i64 k))] [(1000, sQu q)] [(960, (1, ints (q.free ++ (vs.take k).filter p)))] 4000)
    (fun k => k ≤ vs.length) (fun k => vs.length - k) 0 (by omega) (by rw [List.take_zero, List.filter_nil, List.append_nil]; exact (le_st' _ _ [⟨960, some _, false, 1, _⟩] [] _ (by simp -implicitDefEqProofs (maxSteps := 2000000) only [go_sem] <;> and_intros <;> rfl) (by simp -implicitDefEqProofs (maxSteps := 2000000) only [go_sem] <;> and_intros <;> rfl) (by simp -implicitDefEqProofs (maxSteps := 2000000) only [go_sem] <;> and_intros <;> rfl) (by rfl))) ?_
  rintro k h1
  have hll : ((vs.take k).filter p).length ≤ vs.length := Nat.le_trans (List.length_filter_le _ _) (by rw [List.length_take]; omega)
  by_cases c1 : k < vs.length
  · have t := take_snoc 0 c1
    rcases d : inB (vs.getD k 0) 0 3
    · simp -implicitDefEqProofs (maxSteps := 2000000) only [go_sem, c1]
      refine call_of (inW_sat (vs.getD k 0) 0 3) (by simp -implicitDefEqProofs (maxSteps := 2000000) only [go_sem, d, c1]) (by kernel_rfl) (by simp -implicitDefEqProofs (maxSteps := 2000000) only [go_sem, d, c1]) ?_
      simp -implicitDefEqProofs (maxSteps := 2000000) only [go_sem, d, c1]
      rw [i64_succ (by omega)]
      refine ⟨k + 1, c1, by omega, ?_⟩
      rw [t, List.filter_append, List.filter_cons_of_neg (by rw [← hp]; show ¬ (inB (vs.getD k 0) 0 3 = true); rw [d]; simp), List.filter_nil, List.append_nil]
      exact (le_st' _ _ [⟨960, some _, false, 1, _⟩] [] _ (by simp -implicitDefEqProofs (maxSteps := 2000000) only [go_sem] <;> and_intros <;> rfl) (by simp -implicitDefEqProofs (maxSteps := 2000000) only [go_sem] <;> and_intros <;> rfl) (by simp -implicitDefEqProofs (maxSteps := 2000000) only [go_sem] <;> and_intros <;> rfl) (by rfl))
    · simp -implicitDefEqProofs (maxSteps := 2000000) only [go_sem, c1]
      refine call_of (inW_sat (vs.getD k 0) 0 3) (by simp -implicitDefEqProofs (maxSteps := 2000000) only [go_sem, d, c1]) (by kernel_rfl) (by simp -implicitDefEqProofs (maxSteps := 2000000) only [go_sem, d, c1]) ?_
      simp -implicitDefEqProofs (maxSteps := 2000000) only [go_sem, d, c1]
      refine ⟨by omega, ?_⟩
      rw [i64_succ (by omega)]
      refine ⟨k + 1, c1, by omega, ?_⟩
      rw [t, List.filter_append, List.filter_cons_of_pos (by rw [← hp]; exact d), List.filter_nil, ← List.append_assoc]
      exact (le_st' _ _ [⟨960, some _, false, 1, _⟩] [] _ (by simp -implicitDefEqProofs (maxSteps := 2000000) only [go_sem] <;> and_intros <;> rfl) (by simp -implicitDefEqProofs (maxSteps := 2000000) only [go_sem] <;> and_intros <;> rfl) (by simp -implicitDefEqProofs (maxSteps := 2000000) only [go_sem] <;> and_intros <;> rfl) (by rfl))
  · obtain rfl : k = vs.length := by omega
    simp -implicitDefEqProofs (maxSteps := 2000000) only [go_sem, c1]
    rw [List.take_length] at hll
    have hst := start_uni g vs
    rw [hp] at hst
    have ht : List.take (q.free.length + (vs.filter p).length) (q.free ++ vs.filter p) = q.free ++ vs.filter p := by rw [← List.length_append, List.take_length]
    refine call_of (closure_sat l q.atoms skip (q.free ++ vs.filter p) hl hq.1.1 hq.1.2 (by rw [List.length_append]; omega) (by rw [hst]; exact start_small q vs)) (by simp -implicitDefEqProofs (maxSteps := 2000000) only [go_sem, ht]) (callOk_still (by kernel_rfl) (by simp only [List.all_cons, List.all_nil, LV.still, LV.leaves, Leaf.still, ints_still, ris_still, eds_still, rels_still, iss_still, ems_still, Bool.and_self, Bool.and_true])) (by simp -implicitDefEqProofs (maxSteps := 2000000) only [go_sem, ht]) ?_
    simp -implicitDefEqProofs (maxSteps := 2000000) only [go_sem, ht]
    first | done | rfl | exact ⟨rfl, rfl⟩ | exact ⟨rfl, rfl, rfl⟩ | (refine tr_and ?_ ?_ <;> first | rfl | exact ⟨rfl, rfl⟩ | kernel_rfl)
theorem specAttributeClosure_sat (l : List Rel) (q : Qu) (skip : Int) (vs : List Int) (hl : l.length ≤ 9223372036854775807) (hq : q.fit) (hv : vs.length ≤ 9223372036854775807) : Sat Try.prog 10 [lRels l, lQu q, lInt skip, lInts vs] [oInts (acl l q skip vs)] [g1, g3, g1, g1] := by
  refine sat_of_body mixed Try.func10 rfl (by kernel_rfl) (by kernel_rfl) (rs := [.tmp 8]) rfl rfl rfl ?_
  simp -implicitDefEqProofs (maxSteps := 2000000) only [go_sem]
  rcases g : goodQu l q
  · rw [show acl l q skip vs = [] by rw [acl, g]; rfl]
    refine call_of (specIsValidQuery_sat l q hl hq) (by simp -implicitDefEqProofs (maxSteps := 2000000) only [go_sem, g]) (by kernel_rfl) (by simp -implicitDefEqProofs (maxSteps := 2000000) only [go_sem, g]) ?_
    simp -implicitDefEqProofs (maxSteps := 2000000) only [go_sem, g]
    first | done | rfl | exact ⟨rfl, rfl⟩ | exact ⟨rfl, rfl, rfl⟩ | (refine tr_and ?_ ?_ <;> first | rfl | exact ⟨rfl, rfl⟩ | kernel_rfl)
  rw [show acl l q skip vs = iter l q.atoms skip q.atoms.length (start q vs) q.atoms.length by rw [acl, g]; rfl]
  have hff := hq.2
  have h3 := atoms3 g
  have hs := start_small q vs
  refine call_of (specIsValidQuery_sat l q hl hq) (by simp -implicitDefEqProofs (maxSteps := 2000000) only [go_sem, g]) (by kernel_rfl) (by simp -implicitDefEqProofs (maxSteps := 2000000) only [go_sem, g]) ?_
  simp -implicitDefEqProofs (maxSteps := 2000000) only [go_sem, g]
  refine call_of (l14Both_sat vs q.free hv hff) (by simp -implicitDefEqProofs (maxSteps := 2000000) only [go_sem]) (callOk_still (by kernel_rfl) (by simp only [List.all_cons, List.all_nil, LV.still, LV.leaves, Leaf.still, ints_still, ris_still, eds_still, rels_still, iss_still, ems_still, Bool.and_self, Bool.and_true])) (by simp -implicitDefEqProofs (maxSteps := 2000000) only [go_sem]) ?_
  simp -implicitDefEqProofs (maxSteps := 2000000) only [go_sem]
  have hst : selN (fun v => decide (v ∈ vs) || decide (v ∈ q.free)) 4 = start q vs := rfl
  rw [hst]
  generalize start q vs = c0 at hs ⊢
  refine awp_loop Nat (fun j => mkSt [(0, .one (.im 3 (rels l))), (2, .sc (.int .i64 skip)), (5, .one (.vad 1000 0)), (9, .one (.ref 960 1 0 (iter l q.atoms skip q.atoms.length c0 j).length)), (10, .sc (.int .i64 j))] [(1000, sQu q)] [(960, (1, ints (iter l q.atoms skip q.atoms.length c0 j)))] 4000)
    (fun j => j ≤ q.atoms.length) (fun j => q.atoms.length - j) 0 (by omega) (le_st' _ _ [⟨960, some _, false, 1, _⟩] [] _ (by simp -implicitDefEqProofs (maxSteps := 2000000) only [go_sem] <;> and_intros <;> rfl) (by simp -implicitDefEqProofs (maxSteps := 2000000) only [go_sem] <;> and_intros <;> rfl) (by simp -implicitDefEqProofs (maxSteps := 2000000) only [go_sem] <;> and_intros <;> rfl) (by rfl)) ?_
  rintro j h1
  have sm := iter_small (l := l) (ats := q.atoms) (skip := skip) (n := q.atoms.length) hs (m := j)
  by_cases c1 : j < q.atoms.length
  · generalize hc : iter l q.atoms skip q.atoms.length c0 j = c at sm ⊢
    have wj : IntKind.i64.wrap ((j : Int) + 1) = ((j + 1 : Nat) : Int) := i64_succ (by omega)
    simp -implicitDefEqProofs (maxSteps := 2000000) only [go_sem, c1]
    refine awp_loop Nat (fun k => mkSt [(0, .one (.im 3 (rels l))), (2, .sc (.int .i64 skip)), (5, .one (.vad 1000 0)), (9, .one (.ref 960 1 0 (passA l q.atoms skip c k).length)), (10, .sc (.int .i64 j)), (11, .sc (.int .i64 k))] [(1000, sQu q)] [(960, (1, ints (passA l q.atoms skip c k)))] 8000)
      (fun k => k ≤ q.atoms.length) (fun k => q.atoms.length - k) 0 (by omega) (le_st' _ _ [⟨960, some _, false, 1, _⟩] [] _ (by simp -implicitDefEqProofs (maxSteps := 2000000) only [go_sem] <;> and_intros <;> rfl) (by simp -implicitDefEqProofs (maxSteps := 2000000) only [go_sem] <;> and_intros <;> rfl) (by simp -implicitDefEqProofs (maxSteps := 2000000) only [go_sem] <;> and_intros <;> rfl) (by rfl)) ?_
    rintro k h4
    have smL : Small (passA l q.atoms skip c k) := passA_small sm
    have hLl := smL.len
    by_cases c2 : k < q.atoms.length
    · have hfa := hq.1.2 _ (mem_getD default c2)
      have hkl := keyVars_len l (q.atoms.getD k default)
      have hvl := varsOf_len (q.atoms.getD k default).l
      have hu := both_uni (v := (q.atoms.getD k default).l) smL
      generalize hL : passA l q.atoms skip c k = L at hLl smL hu ⊢
      have wi : IntKind.i64.wrap ((k : Int) + 1) = ((k + 1 : Nat) : Int) := i64_succ (by omega)
      rcases d1 : ((k : Int) != skip)
      · have e : passA l q.atoms skip c (k + 1) = L := by rw [passA, hL, fire, d1]; rfl
        simp -implicitDefEqProofs (maxSteps := 2000000) only [go_sem, c2, d1, wi]
        refine ⟨k + 1, c2, by omega, ?_⟩
        rw [e]
        exact (le_st' _ _ [⟨960, some _, false, 1, _⟩] [] _ (by simp -implicitDefEqProofs (maxSteps := 2000000) only [go_sem] <;> and_intros <;> rfl) (by simp -implicitDefEqProofs (maxSteps := 2000000) only [go_sem] <;> and_intros <;> rfl) (by simp -implicitDefEqProofs (maxSteps := 2000000) only [go_sem] <;> and_intros <;> rfl) (by rfl))
      rcases d2 : subs (keyVars l (q.atoms.getD k default)) L
      · have e : passA l q.atoms skip c (k + 1) = L := by rw [passA, hL, fire, d1, d2]; rfl
        simp -implicitDefEqProofs (maxSteps := 2000000) only [go_sem, c2, d1]
        refine call_of (specKeyVariables_sat l (q.atoms.getD k default) hl hfa) (by simp -implicitDefEqProofs (maxSteps := 2000000) only [go_sem, c2]) (callOk_still (by kernel_rfl) (by simp only [List.all_cons, List.all_nil, LV.still, LV.leaves, Leaf.still, ints_still, ris_still, eds_still, rels_still, iss_still, ems_still, Bool.and_self, Bool.and_true])) (by simp -implicitDefEqProofs (maxSteps := 2000000) only [go_sem, c2]) ?_
        simp -implicitDefEqProofs (maxSteps := 2000000) only [go_sem, c2]
        refine call_of (l14Has_sat L (keyVars l (q.atoms.getD k default)) (by omega) (by omega)) (by simp -implicitDefEqProofs (maxSteps := 2000000) only [go_sem, d2]) (by kernel_rfl) (by simp -implicitDefEqProofs (maxSteps := 2000000) only [go_sem, d2]) ?_
        simp -implicitDefEqProofs (maxSteps := 2000000) only [go_sem, d2]
        rw [wi]
        refine ⟨k + 1, c2, by omega, ?_⟩
        rw [e]
        exact (le_st' _ _ [⟨960, some _, false, 1, _⟩] [] _ (by simp -implicitDefEqProofs (maxSteps := 2000000) only [go_sem] <;> and_intros <;> rfl) (by simp -implicitDefEqProofs (maxSteps := 2000000) only [go_sem] <;> and_intros <;> rfl) (by simp -implicitDefEqProofs (maxSteps := 2000000) only [go_sem] <;> and_intros <;> rfl) (by rfl))
      · have e : passA l q.atoms skip c (k + 1) = uni L (varsOf (q.atoms.getD k default).l) := by rw [passA, hL, fire, d1, d2]; rfl
        simp -implicitDefEqProofs (maxSteps := 2000000) only [go_sem, c2, d1]
        refine call_of (specKeyVariables_sat l (q.atoms.getD k default) hl hfa) (by simp -implicitDefEqProofs (maxSteps := 2000000) only [go_sem, c2]) (callOk_still (by kernel_rfl) (by simp only [List.all_cons, List.all_nil, LV.still, LV.leaves, Leaf.still, ints_still, ris_still, eds_still, rels_still, iss_still, ems_still, Bool.and_self, Bool.and_true])) (by simp -implicitDefEqProofs (maxSteps := 2000000) only [go_sem, c2]) ?_
        simp -implicitDefEqProofs (maxSteps := 2000000) only [go_sem, c2]
        refine call_of (l14Has_sat L (keyVars l (q.atoms.getD k default)) (by omega) (by omega)) (by simp -implicitDefEqProofs (maxSteps := 2000000) only [go_sem, d2, c2]) (by kernel_rfl) (by simp -implicitDefEqProofs (maxSteps := 2000000) only [go_sem, d2, c2]) ?_
        simp -implicitDefEqProofs (maxSteps := 2000000) only [go_sem, d2, c2]
        refine call_of (specAtomVariables_sat (q.atoms.getD k default) hfa) (by simp -implicitDefEqProofs (maxSteps := 2000000) only [go_sem, c2]) (callOk_still (by kernel_rfl) (by simp only [List.all_cons, List.all_nil, LV.still, LV.leaves, Leaf.still, ints_still, ris_still, eds_still, rels_still, iss_still, ems_still, Bool.and_self, Bool.and_true])) (by simp -implicitDefEqProofs (maxSteps := 2000000) only [go_sem, c2]) ?_
        simp -implicitDefEqProofs (maxSteps := 2000000) only [go_sem, c2]
        refine call_of (l14Both_sat L (varsOf (q.atoms.getD k default).l) (by omega) (by omega)) (by simp -implicitDefEqProofs (maxSteps := 2000000) only [go_sem, hu]) (callOk_still (by kernel_rfl) (by simp only [List.all_cons, List.all_nil, LV.still, LV.leaves, Leaf.still, ints_still, ris_still, eds_still, rels_still, iss_still, ems_still, Bool.and_self, Bool.and_true])) (by simp -implicitDefEqProofs (maxSteps := 2000000) only [go_sem, hu]) ?_
        simp -implicitDefEqProofs (maxSteps := 2000000) only [go_sem, hu]
        rw [wi]
        refine ⟨k + 1, c2, by omega, ?_⟩
        rw [e]
        exact (le_st' _ _ [⟨960, some _, false, 1, _⟩] [] _ (by simp -implicitDefEqProofs (maxSteps := 2000000) only [go_sem, hu] <;> and_intros <;> rfl) (by simp -implicitDefEqProofs (maxSteps := 2000000) only [go_sem, hu] <;> and_intros <;> rfl) (by simp -implicitDefEqProofs (maxSteps := 2000000) only [go_sem, hu] <;> and_intros <;> rfl) (by rfl))
    · obtain rfl : k = q.atoms.length := by omega
      simp -implicitDefEqProofs (maxSteps := 2000000) only [go_sem, c2, wj]
      refine ⟨j + 1, c1, by omega, ?_⟩
      rw [show iter l q.atoms skip q.atoms.length c0 (j + 1) = passA l q.atoms skip c q.atoms.length by rw [← hc]; rfl]
      exact (le_st' _ _ [⟨960, some _, false, 1, _⟩] [] _ (by simp -implicitDefEqProofs (maxSteps := 2000000) only [go_sem] <;> and_intros <;> rfl) (by simp -implicitDefEqProofs (maxSteps := 2000000) only [go_sem] <;> and_intros <;> rfl) (by simp -implicitDefEqProofs (maxSteps := 2000000) only [go_sem] <;> and_intros <;> rfl) (by rfl))
  · obtain rfl : j = q.atoms.length := by omega
    simp -implicitDefEqProofs (maxSteps := 2000000) only [go_sem, c1]
    first | done | rfl | exact ⟨rfl, rfl⟩ | exact ⟨rfl, rfl, rfl⟩ | (refine tr_and ?_ ?_ <;> first | rfl | exact ⟨rfl, rfl⟩ | kernel_rfl)
def dets (l : List Rel) (q : Qu) (a b : List Int) : Bool := goodQu l q && subs b (acl l q (-1) a)
theorem implDetermines_sat (l : List Rel) (q : Qu) (a b : List Int) (hl : l.length ≤ 9223372036854775807) (hq : q.ok) (ha : a.length ≤ 1048576) (hb : b.length ≤ 9223372036854775807) : Sat Try.prog 13 [lRels l, lQu q, lInts a, lInts b] [lBool (dets l q a b)] [g1, g3, g1, g1] := by
  refine sat_of_body mixed Try.func13 rfl (by kernel_rfl) (by kernel_rfl) (rs := [.tmp 8]) rfl rfl rfl ?_
  unfold dets
  have hn := acl_len l q (-1) a
  simp -implicitDefEqProofs (maxSteps := 2000000) only [go_sem]
  rcases g : goodQu l q
  · refine call_of (implIsValidQuery_sat l q hl hq) (by simp -implicitDefEqProofs (maxSteps := 2000000) only [go_sem, g]) (by kernel_rfl) (by simp -implicitDefEqProofs (maxSteps := 2000000) only [go_sem, g]) ?_
    simp -implicitDefEqProofs (maxSteps := 2000000) only [go_sem, g]
  refine call_of (implIsValidQuery_sat l q hl hq) (by simp -implicitDefEqProofs (maxSteps := 2000000) only [go_sem, g]) (by kernel_rfl) (by simp -implicitDefEqProofs (maxSteps := 2000000) only [go_sem, g]) ?_
  simp -implicitDefEqProofs (maxSteps := 2000000) only [go_sem, g]
  refine call_of (implAttributeClosure_sat l q (-1) a hl hq ha) (by simp -implicitDefEqProofs (maxSteps := 2000000) only [go_sem]) (callOk_still (by kernel_rfl) (by simp only [List.all_cons, List.all_nil, LV.still, LV.leaves, Leaf.still, ints_still, ris_still, eds_still, rels_still, iss_still, ems_still, Bool.and_self, Bool.and_true])) (by simp -implicitDefEqProofs (maxSteps := 2000000) only [go_sem]) ?_
  simp -implicitDefEqProofs (maxSteps := 2000000) only [go_sem]
  refine call_of (isSubset_sat b (acl l q (-1) a) hb (by omega)) (by simp -implicitDefEqProofs (maxSteps := 2000000) only [go_sem]) (by kernel_rfl) (by simp -implicitDefEqProofs (maxSteps := 2000000) only [go_sem]) ?_
  simp -implicitDefEqProofs (maxSteps := 2000000) only [go_sem]
theorem specDetermines_sat (l : List Rel) (q : Qu) (a b : List Int) (hl : l.length ≤ 9223372036854775807) (hq : q.fit) (ha : a.length ≤ 9223372036854775807) (hb : b.length ≤ 9223372036854775807) : Sat Try.prog 15 [lRels l, lQu q, lInts a, lInts b] [lBool (dets l q a b)] [g1, g3, g1, g1] := by
  refine sat_of_body mixed Try.func15 rfl (by kernel_rfl) (by kernel_rfl) (rs := [.tmp 8]) rfl rfl rfl ?_
  unfold dets
  have hn := acl_len l q (-1) a
  simp -implicitDefEqProofs (maxSteps := 2000000) only [go_sem]
  rcases g : goodQu l q
  · refine call_of (specIsValidQuery_sat l q hl hq) (by simp -implicitDefEqProofs (maxSteps := 2000000) only [go_sem, g]) (by kernel_rfl) (by simp -implicitDefEqProofs (maxSteps := 2000000) only [go_sem, g]) ?_
    simp -implicitDefEqProofs (maxSteps := 2000000) only [go_sem, g]
  refine call_of (specIsValidQuery_sat l q hl hq) (by simp -implicitDefEqProofs (maxSteps := 2000000) only [go_sem, g]) (by kernel_rfl) (by simp -implicitDefEqProofs (maxSteps := 2000000) only [go_sem, g]) ?_
  simp -implicitDefEqProofs (maxSteps := 2000000) only [go_sem, g]
  refine call_of (specAttributeClosure_sat l q (-1) a hl hq ha) (by simp -implicitDefEqProofs (maxSteps := 2000000) only [go_sem]) (callOk_still (by kernel_rfl) (by simp only [List.all_cons, List.all_nil, LV.still, LV.leaves, Leaf.still, ints_still, ris_still, eds_still, rels_still, iss_still, ems_still, Bool.and_self, Bool.and_true])) (by simp -implicitDefEqProofs (maxSteps := 2000000) only [go_sem]) ?_
  simp -implicitDefEqProofs (maxSteps := 2000000) only [go_sem]
  refine call_of (l14Has_sat (acl l q (-1) a) b (by omega) hb) (by simp -implicitDefEqProofs (maxSteps := 2000000) only [go_sem]) (by kernel_rfl) (by simp -implicitDefEqProofs (maxSteps := 2000000) only [go_sem]) ?_
  simp -implicitDefEqProofs (maxSteps := 2000000) only [go_sem]
end Go.Proofs.Ytedciihjgbkjgaa.A


/- CLOSURES: a closure is closed, and grows where less is skipped. Conditions: none. (No program in sight.) -/
namespace Go.Proofs.Ytedciihjgbkjgaa.A
open Go
set_option linter.unusedSimpArgs false
set_option linter.unusedVariables false

theorem clos_fix {l : List Rel} {ats : List RI} {skip : Int} {c : List Int} (h : Small c) : passA l ats skip (clos l ats skip c) ats.length = clos l ats skip c := by
  unfold clos
  rcases iter_took (l := l) (ats := ats) (skip := skip) (n := ats.length) h ats.length with ⟨j, _, e⟩ | ht
  · rw [← iter_done h e]; exact e
  · have := took_le ats (iter l ats skip ats.length c (ats.length + 1)) ats.length
    omega
theorem iter_fix {l : List Rel} {ats : List RI} {skip : Int} {n : Nat} {c : List Int} (h : passA l ats skip c n = c) : ∀ m, iter l ats skip n c m = c
  | 0 => rfl
  | m + 1 => by
    show passA l ats skip (iter l ats skip n c m) n = c
    rw [iter_fix h m, h]
theorem iter_sub {l : List Rel} {ats : List RI} {skip : Int} {n : Nat} {c : List Int} : ∀ {m : Nat}, ∀ x ∈ c, x ∈ iter l ats skip n c m
  | 0, x, hx => hx
  | m + 1, x, hx => passA_sub x (iter_sub (m := m) x hx)
theorem acl_idem (l : List Rel) (q : Qu) (skip : Int) (vs : List Int) : acl l q skip (acl l q skip vs) = acl l q skip vs := by
  unfold acl
  split
  · have hs := start_small q vs
    have hc := clos_small (l := l) (ats := q.atoms) (skip := skip) hs
    have e : start q (clos l q.atoms skip (start q vs)) = clos l q.atoms skip (start q vs) := by
      refine strict_eq (start_small _ _).strict hc.strict fun x => ?_
      unfold start
      rw [selN_mem]
      simp only [Bool.or_eq_true, decide_eq_true_eq]
      constructor
      · rintro ⟨h1, h2, h3 | h3⟩
        · exact h3
        · exact iter_sub x (by
            rw [selN_mem]; simp only [Bool.or_eq_true, decide_eq_true_eq]
            exact ⟨h1, h2, .inr h3⟩)
      · intro hx
        have := hc.small x hx
        exact ⟨this.1, this.2, .inl hx⟩
    rw [e]
    exact iter_fix (clos_fix hs) _
  · rfl
theorem fire_mono {l : List Rel} {ats : List RI} {skip : Int} {c c' : List Int} {i : Nat} (h : ∀ x ∈ c, x ∈ c') : ∀ x ∈ fire l ats skip c i, x ∈ fire l ats (-1) c' i := by
  intro x hx
  unfold fire at hx
  split at hx
  · rename_i hh
    rw [Bool.and_eq_true] at hh
    have h2 : subs (keyVars l (ats.getD i default)) c' = true := subs_iff.mpr fun y hy => h y (subs_iff.mp hh.2 y hy)
    have h1 : ((i : Int) != (-1)) = true := by rw [bne_iff_ne]; omega
    unfold fire
    rw [h1, h2, Bool.and_self, if_pos rfl]
    rw [uni_mem] at hx ⊢
    exact hx.imp (h x) id
  · exact fire_sub x (h x hx)
theorem passA_mono {l : List Rel} {ats : List RI} {skip : Int} {c c' : List Int} (h : ∀ x ∈ c, x ∈ c') : ∀ k, ∀ x ∈ passA l ats skip c k, x ∈ passA l ats (-1) c' k
  | 0 => h
  | k + 1 => fire_mono (passA_mono h k)
theorem iter_mono {l : List Rel} {ats : List RI} {skip : Int} {n : Nat} {c : List Int} : ∀ m, ∀ x ∈ iter l ats skip n c m, x ∈ iter l ats (-1) n c m
  | 0 => fun x hx => hx
  | m + 1 => passA_mono (iter_mono m) n
theorem acl_mono (l : List Rel) (q : Qu) (skip : Int) (vs : List Int) : ∀ x ∈ acl l q skip vs, x ∈ acl l q (-1) vs := by
  unfold acl
  split
  · exact iter_mono _
  · exact fun x hx => hx
end Go.Proofs.Ytedciihjgbkjgaa.A


/- KEY CLOSURES. Conditions: none. -/
namespace Go.Proofs.Ytedciihjgbkjgaa.A
open Go
set_option linter.unusedSimpArgs false
set_option linter.unusedVariables false
set_option maxRecDepth 100000

def kcl (l : List Rel) (q : Qu) (k : Int) : List Int := if goodQu l q && inB k 0 ((q.atoms.length : Int) - 1) then acl l q k (keyVars l (q.atoms.getD k.toNat default)) else []
theorem kcl_len (l : List Rel) (q : Qu) (k : Int) : (kcl l q k).length ≤ 4 := by
  unfold kcl; split
  · exact acl_len _ _ _ _
  · simp
theorem specKeyClosure_sat (l : List Rel) (q : Qu) (k : Int) (hl : l.length ≤ 9223372036854775807) (hq : q.fit) : Sat Try.prog 18 [lRels l, lQu q, lInt k] [oInts (kcl l q k)] [g1, g3, g1] := by
  refine sat_of_body mixed Try.func18 rfl (by kernel_rfl) (by kernel_rfl) (rs := [.tmp 6]) rfl rfl rfl ?_
  have hb := hq.1.1
  have w0 : IntKind.i64.wrap ((q.atoms.length : Int) - 1) = (q.atoms.length : Int) - 1 := IntWalk.i64_in _ (by omega)
  simp -implicitDefEqProofs (maxSteps := 2000000) only [go_sem]
  rcases g : goodQu l q
  · rw [show kcl l q k = [] by rw [kcl, g]; rfl]
    refine call_of (specIsValidQuery_sat l q hl hq) (by simp -implicitDefEqProofs (maxSteps := 2000000) only [go_sem, g]) (by kernel_rfl) (by simp -implicitDefEqProofs (maxSteps := 2000000) only [go_sem, g]) ?_
    simp -implicitDefEqProofs (maxSteps := 2000000) only [go_sem, g]
    first | done | rfl | exact ⟨rfl, rfl⟩ | exact ⟨rfl, rfl, rfl⟩ | (refine tr_and ?_ ?_ <;> first | rfl | exact ⟨rfl, rfl⟩ | kernel_rfl)
  rcases i1 : inB k 0 ((q.atoms.length : Int) - 1)
  · rw [show kcl l q k = [] by rw [kcl, i1, Bool.and_false]; rfl]
    refine call_of (specIsValidQuery_sat l q hl hq) (by simp -implicitDefEqProofs (maxSteps := 2000000) only [go_sem, g, w0]) (by kernel_rfl) (by simp -implicitDefEqProofs (maxSteps := 2000000) only [go_sem, g, w0]) ?_
    simp -implicitDefEqProofs (maxSteps := 2000000) only [go_sem, g, w0]
    refine call_of (inB_sat k 0 ((q.atoms.length : Int) - 1)) (by simp -implicitDefEqProofs (maxSteps := 2000000) only [go_sem, i1]) (by kernel_rfl) (by simp -implicitDefEqProofs (maxSteps := 2000000) only [go_sem, i1]) ?_
    simp -implicitDefEqProofs (maxSteps := 2000000) only [go_sem, i1]
    first | done | rfl | exact ⟨rfl, rfl⟩ | exact ⟨rfl, rfl, rfl⟩ | (refine tr_and ?_ ?_ <;> first | rfl | exact ⟨rfl, rfl⟩ | kernel_rfl)
  obtain ⟨r1, r2⟩ := inB_of i1
  obtain ⟨m, rfl⟩ : ∃ m : Nat, k = m := ⟨k.toNat, by omega⟩
  have c1 : m < q.atoms.length := by omega
  have hkl := keyVars_len l (q.atoms.getD m default)
  rw [show kcl l q m = acl l q m (keyVars l (q.atoms.getD m default)) by rw [kcl, g, i1]; rfl]
  refine call_of (specIsValidQuery_sat l q hl hq) (by simp -implicitDefEqProofs (maxSteps := 2000000) only [go_sem, g, w0]) (by kernel_rfl) (by simp -implicitDefEqProofs (maxSteps := 2000000) only [go_sem, g, w0]) ?_
  simp -implicitDefEqProofs (maxSteps := 2000000) only [go_sem, g, w0]
  refine call_of (inB_sat m 0 ((q.atoms.length : Int) - 1)) (by simp -implicitDefEqProofs (maxSteps := 2000000) only [go_sem, i1, c1]) (by kernel_rfl) (by simp -implicitDefEqProofs (maxSteps := 2000000) only [go_sem, i1, c1]) ?_
  simp -implicitDefEqProofs (maxSteps := 2000000) only [go_sem, i1, c1]
  refine call_of (specKeyVariables_sat l (q.atoms.getD m default) hl (hq.1.2 _ (mem_getD default c1))) (by simp -implicitDefEqProofs (maxSteps := 2000000) only [go_sem, c1]) (callOk_still (by kernel_rfl) (by simp only [List.all_cons, List.all_nil, LV.still, LV.leaves, Leaf.still, ints_still, ris_still, eds_still, rels_still, iss_still, ems_still, Bool.and_self, Bool.and_true])) (by simp -implicitDefEqProofs (maxSteps := 2000000) only [go_sem, c1]) ?_
  simp -implicitDefEqProofs (maxSteps := 2000000) only [go_sem, c1]
  refine call_of (specAttributeClosure_sat l q m (keyVars l (q.atoms.getD m default)) hl hq (by omega)) (by simp -implicitDefEqProofs (maxSteps := 2000000) only [go_sem]) (callOk_still (by kernel_rfl) (by simp only [List.all_cons, List.all_nil, LV.still, LV.leaves, Leaf.still, ints_still, ris_still, eds_still, rels_still, iss_still, ems_still, Bool.and_self, Bool.and_true])) (by simp -implicitDefEqProofs (maxSteps := 2000000) only [go_sem]) ?_
  simp -implicitDefEqProofs (maxSteps := 2000000) only [go_sem]
  first | done | rfl | exact ⟨rfl, rfl⟩ | exact ⟨rfl, rfl, rfl⟩ | (refine tr_and ?_ ?_ <;> first | rfl | exact ⟨rfl, rfl⟩ | kernel_rfl)
theorem implKeyClosure_sat (l : List Rel) (q : Qu) (k : Int) (hl : l.length ≤ 9223372036854775807) (hq : q.ok) : Sat Try.prog 17 [lRels l, lQu q, lInt k] [oInts (kcl l q k)] [g1, g3, g1] := by
  refine sat_of_body mixed Try.func17 rfl (by kernel_rfl) (by kernel_rfl) (rs := [.tmp 6]) rfl rfl rfl ?_
  have hb := hq.1.1
  have w0 : IntKind.i64.wrap ((q.atoms.length : Int) - 1) = (q.atoms.length : Int) - 1 := IntWalk.i64_in _ (by omega)
  simp -implicitDefEqProofs (maxSteps := 2000000) only [go_sem]
  rcases g : goodQu l q
  · rw [show kcl l q k = [] by rw [kcl, g]; rfl]
    refine call_of (implIsValidQuery_sat l q hl hq) (by simp -implicitDefEqProofs (maxSteps := 2000000) only [go_sem, g]) (by kernel_rfl) (by simp -implicitDefEqProofs (maxSteps := 2000000) only [go_sem, g]) ?_
    simp -implicitDefEqProofs (maxSteps := 2000000) only [go_sem, g]
    first | done | rfl | exact ⟨rfl, rfl⟩ | exact ⟨rfl, rfl, rfl⟩ | (refine tr_and ?_ ?_ <;> first | rfl | exact ⟨rfl, rfl⟩ | kernel_rfl)
  rcases i1 : inB k 0 ((q.atoms.length : Int) - 1)
  · rw [show kcl l q k = [] by rw [kcl, i1, Bool.and_false]; rfl]
    refine call_of (implIsValidQuery_sat l q hl hq) (by simp -implicitDefEqProofs (maxSteps := 2000000) only [go_sem, g, w0]) (by kernel_rfl) (by simp -implicitDefEqProofs (maxSteps := 2000000) only [go_sem, g, w0]) ?_
    simp -implicitDefEqProofs (maxSteps := 2000000) only [go_sem, g, w0]
    refine call_of (inW_sat k 0 ((q.atoms.length : Int) - 1)) (by simp -implicitDefEqProofs (maxSteps := 2000000) only [go_sem, i1]) (by kernel_rfl) (by simp -implicitDefEqProofs (maxSteps := 2000000) only [go_sem, i1]) ?_
    simp -implicitDefEqProofs (maxSteps := 2000000) only [go_sem, i1]
    first | done | rfl | exact ⟨rfl, rfl⟩ | exact ⟨rfl, rfl, rfl⟩ | (refine tr_and ?_ ?_ <;> first | rfl | exact ⟨rfl, rfl⟩ | kernel_rfl)
  obtain ⟨r1, r2⟩ := inB_of i1
  obtain ⟨m, rfl⟩ : ∃ m : Nat, k = m := ⟨k.toNat, by omega⟩
  have c1 : m < q.atoms.length := by omega
  have hkl := keyVars_len l (q.atoms.getD m default)
  rw [show kcl l q m = acl l q m (keyVars l (q.atoms.getD m default)) by rw [kcl, g, i1]; rfl]
  refine call_of (implIsValidQuery_sat l q hl hq) (by simp -implicitDefEqProofs (maxSteps := 2000000) only [go_sem, g, w0]) (by kernel_rfl) (by simp -implicitDefEqProofs (maxSteps := 2000000) only [go_sem, g, w0]) ?_
  simp -implicitDefEqProofs (maxSteps := 2000000) only [go_sem, g, w0]
  refine call_of (inW_sat m 0 ((q.atoms.length : Int) - 1)) (by simp -implicitDefEqProofs (maxSteps := 2000000) only [go_sem, i1, c1]) (by kernel_rfl) (by simp -implicitDefEqProofs (maxSteps := 2000000) only [go_sem, i1, c1]) ?_
  simp -implicitDefEqProofs (maxSteps := 2000000) only [go_sem, i1, c1]
  refine call_of (implKeyVariables_sat l (q.atoms.getD m default) hl (hq.1.2 _ (mem_getD default c1))) (by simp -implicitDefEqProofs (maxSteps := 2000000) only [go_sem, c1]) (callOk_still (by kernel_rfl) (by simp only [List.all_cons, List.all_nil, LV.still, LV.leaves, Leaf.still, ints_still, ris_still, eds_still, rels_still, iss_still, ems_still, Bool.and_self, Bool.and_true])) (by simp -implicitDefEqProofs (maxSteps := 2000000) only [go_sem, c1]) ?_
  simp -implicitDefEqProofs (maxSteps := 2000000) only [go_sem, c1]
  refine call_of (implAttributeClosure_sat l q m (keyVars l (q.atoms.getD m default)) hl hq (by omega)) (by simp -implicitDefEqProofs (maxSteps := 2000000) only [go_sem]) (callOk_still (by kernel_rfl) (by simp only [List.all_cons, List.all_nil, LV.still, LV.leaves, Leaf.still, ints_still, ris_still, eds_still, rels_still, iss_still, ems_still, Bool.and_self, Bool.and_true])) (by simp -implicitDefEqProofs (maxSteps := 2000000) only [go_sem]) ?_
  simp -implicitDefEqProofs (maxSteps := 2000000) only [go_sem]
  first | done | rfl | exact ⟨rfl, rfl⟩ | exact ⟨rfl, rfl, rfl⟩ | (refine tr_and ?_ ?_ <;> first | rfl | exact ⟨rfl, rfl⟩ | kernel_rfl)
end Go.Proofs.Ytedciihjgbkjgaa.A


/- BoundVariables. Conditions: none. -/
namespace Go.Proofs.Ytedciihjgbkjgaa.A
open Go
set_option linter.unusedSimpArgs false
set_option linter.unusedVariables false
set_option maxRecDepth 100000

def bvs (q : Qu) : List Int := selN (fun v => !decide (v ∈ q.free)) (min q.vc 4).toNat
theorem bvs_len (q : Qu) : (bvs q).length ≤ 4 := by
  have := selN_len (fun v => !decide (v ∈ q.free)) (min q.vc 4).toNat
  unfold bvs; omega
theorem specBoundVariables_sat (q : Qu) (h : q.fit) : Sat Try.prog 20 [lQu q] [oInts (bvs q)] [g3] := by
  refine sat_of_body mixed Try.func20 rfl (by kernel_rfl) (by kernel_rfl) (rs := [.tmp 2]) rfl rfl rfl ?_
  unfold bvs
  generalize hp : (fun v => !decide (v ∈ q.free)) = p
  simp -implicitDefEqProofs (maxSteps := 2000000) only [go_sem]
  refine awp_loop Nat (fun k => mkSt [(1, .one (.vad 1000 0)), (3, .one (.ref 960 1 0 (selN p k).length)), (4, .sc (.int .i64 k))] [(1000, sQu q)] [(960, (1, ints (selN p k)))] 2000)
    (fun k => k ≤ (min q.vc 4).toNat) (fun k => 4 - k) 0 (by omega) (le_st _ _ [⟨960, some 1128, false, 1, _⟩] [] _ rfl (by simp -implicitDefEqProofs (maxSteps := 2000000) only [go_sem] <;> rfl) (by simp -implicitDefEqProofs (maxSteps := 2000000) only [go_sem] <;> rfl) (by simp -implicitDefEqProofs (maxSteps := 2000000) only [go_sem] <;> rfl)) ?_
  rintro k h1
  have hl := selN_len p k
  by_cases c1 : (k : Int) < q.vc
  · by_cases c2 : k < 4
    · have c3 : (k : Int) < 4 := by omega
      simp -implicitDefEqProofs (maxSteps := 2000000) only [go_sem, c1, c3]
      refine call_of (l7Has_sat q.free k h.2) (by simp -implicitDefEqProofs (maxSteps := 2000000) only [go_sem, c1, c3]) (by kernel_rfl) (by simp -implicitDefEqProofs (maxSteps := 2000000) only [go_sem, c1, c3]) ?_
      simp -implicitDefEqProofs (maxSteps := 2000000) only [go_sem, c1, c3]
      rcases d : decide ((k : Int) ∈ q.free)
      · simp -implicitDefEqProofs (maxSteps := 2000000) only [go_sem, d]
        refine ⟨by omega, ?_⟩
        rw [i64_succ (by omega)]
        refine ⟨k + 1, by omega, by omega, ?_⟩
        rw [selN_yes (by rw [← hp]; simpa using d)]
        exact (le_st _ _ [⟨960, some 3024, false, 1, _⟩] [] _ rfl (by simp -implicitDefEqProofs (maxSteps := 2000000) only [go_sem] <;> rfl) (by simp -implicitDefEqProofs (maxSteps := 2000000) only [go_sem] <;> rfl) (by simp -implicitDefEqProofs (maxSteps := 2000000) only [go_sem] <;> rfl))
      · simp -implicitDefEqProofs (maxSteps := 2000000) only [go_sem, d]
        rw [i64_succ (by omega)]
        refine ⟨k + 1, by omega, by omega, ?_⟩
        rw [selN_no (by rw [← hp]; simpa using d)]
        exact (le_st _ _ [⟨960, some 960, false, 1, _⟩] [] _ rfl (by simp -implicitDefEqProofs (maxSteps := 2000000) only [go_sem] <;> rfl) (by simp -implicitDefEqProofs (maxSteps := 2000000) only [go_sem] <;> rfl) (by simp -implicitDefEqProofs (maxSteps := 2000000) only [go_sem] <;> rfl))
    · have c3 : ¬ (k : Int) < 4 := by omega
      simp -implicitDefEqProofs (maxSteps := 2000000) only [go_sem, c1, c3]
      rw [show k = (min q.vc 4).toNat by omega]
      exact ⟨rfl, rfl⟩
  · simp -implicitDefEqProofs (maxSteps := 2000000) only [go_sem, c1]
    rw [show k = (min q.vc 4).toNat by omega]
    exact ⟨rfl, rfl⟩
theorem implBoundVariables_sat (q : Qu) (h : q.fit) : Sat Try.prog 19 [lQu q] [oInts (bvs q)] [g3] := by
  refine sat_of_body mixed Try.func19 rfl (by kernel_rfl) (by kernel_rfl) (rs := [.tmp 2]) rfl rfl rfl ?_
  unfold bvs
  generalize hp : (fun v => !decide (v ∈ q.free)) = p
  simp -implicitDefEqProofs (maxSteps := 2000000) only [go_sem]
  refine awp_loop Nat (fun k => mkSt [(1, .one (.vad 1000 0)), (3, .one (.ref 960 1 0 (selN p k).length)), (8, .sc (.int .i64 (if 4 < q.vc then 4 else q.vc))), (9, .sc (.int .i64 k))] [(1000, sQu q)] [(960, (1, ints (selN p k)))] 2000)
    (fun k => k ≤ (min q.vc 4).toNat) (fun k => 4 - k) 0 (by omega) (le_st _ _ [⟨960, some 1128, false, 1, _⟩] [] _ rfl (by simp -implicitDefEqProofs (maxSteps := 2000000) only [go_sem] <;> rfl) (by simp -implicitDefEqProofs (maxSteps := 2000000) only [go_sem] <;> rfl) (by simp -implicitDefEqProofs (maxSteps := 2000000) only [go_sem] <;> rfl)) ?_
  rintro k h1
  have hl := selN_len p k
  by_cases c1 : (k : Int) < (if 4 < q.vc then 4 else q.vc)
  · have c2 : k < (min q.vc 4).toNat := by split at c1 <;> omega
    simp -implicitDefEqProofs (maxSteps := 2000000) only [go_sem, c1]
    refine call_of (slicesContains_sat q.free k h.2) (by simp -implicitDefEqProofs (maxSteps := 2000000) only [go_sem, c1]) (by kernel_rfl) (by simp -implicitDefEqProofs (maxSteps := 2000000) only [go_sem, c1]) ?_
    simp -implicitDefEqProofs (maxSteps := 2000000) only [go_sem, c1]
    rcases d : decide ((k : Int) ∈ q.free)
    · simp -implicitDefEqProofs (maxSteps := 2000000) only [go_sem, d]
      refine ⟨by omega, ?_⟩
      rw [i64_succ (by omega)]
      refine ⟨k + 1, by omega, by omega, ?_⟩
      rw [selN_yes (by rw [← hp]; simpa using d)]
      exact (le_st _ _ [⟨960, some 2704, false, 1, _⟩] [] _ rfl (by simp -implicitDefEqProofs (maxSteps := 2000000) only [go_sem] <;> rfl) (by simp -implicitDefEqProofs (maxSteps := 2000000) only [go_sem] <;> rfl) (by simp -implicitDefEqProofs (maxSteps := 2000000) only [go_sem] <;> rfl))
    · simp -implicitDefEqProofs (maxSteps := 2000000) only [go_sem, d]
      rw [i64_succ (by omega)]
      refine ⟨k + 1, by omega, by omega, ?_⟩
      rw [selN_no (by rw [← hp]; simpa using d)]
      exact (le_st _ _ [⟨960, some 960, false, 1, _⟩] [] _ rfl (by simp -implicitDefEqProofs (maxSteps := 2000000) only [go_sem] <;> rfl) (by simp -implicitDefEqProofs (maxSteps := 2000000) only [go_sem] <;> rfl) (by simp -implicitDefEqProofs (maxSteps := 2000000) only [go_sem] <;> rfl))
  · simp -implicitDefEqProofs (maxSteps := 2000000) only [go_sem, c1]
    rw [show k = (min q.vc 4).toNat by split at c1 <;> omega]
    exact ⟨rfl, rfl⟩
end Go.Proofs.Ytedciihjgbkjgaa.A
