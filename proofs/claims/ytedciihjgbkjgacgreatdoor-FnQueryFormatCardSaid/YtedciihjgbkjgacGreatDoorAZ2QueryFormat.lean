/- Packed by pack.py: FEm1 FFQ FDraw FC1 FDraw5 FPq FPi1 FPi2 FPi3 FDel FReg FRegJ -/
import Derived.Test.YtedciihjgbkjgacGreatDoorAZ1QueryFormat
import Derived.Laws.Externs
import Derived.Lib.Bytealg
import Derived.Shelf.RegionOpenPlain
import Derived.WalkKit
import Derived.Deep.LoopGhost
import Derived.Deep.RegionLaw
import Derived.Lib.Walk
import Derived.Lib.SliceRun
import Derived.Sort.Row
import Derived.Deep.RegionLawGrows
import Derived.Lib.Hide
import Derived.Test.YtedciihjgbkjgacGreatDoorA47

/- EMBEDDINGS: the plain search. Conditions: none. (No program in sight.) -/
namespace Go.Proofs.YtedciihjgbkjgacGreatDoor.A
open Go
set_option linter.unusedSimpArgs false
set_option linter.unusedVariables false

def stepU (x : List Int) (t f : Int) : Option (List Int) :=
  if t < 0 then (if -1 - t = f then some x else none)
  else if x.getD t.toNat 0 < 0 then some (x.set t.toNat f)
  else if x.getD t.toNat 0 = f then some x else none
def uniS (ts fs vs : List Int) : Nat → Option (List Int)
  | 0 => some vs
  | k + 1 => (uniS ts fs vs k).bind fun x => stepU x (ts.getD k 0) (fs.getD k 0)
theorem stepU_len {x y : List Int} {t f : Int} (h : stepU x t f = some y) : y.length = x.length := by
  unfold stepU at h
  split at h
  · split at h
    · cases h; rfl
    · cases h
  · split at h
    · cases h; simp
    · split at h
      · cases h; rfl
      · cases h
theorem uniS_len {ts fs vs : List Int} : ∀ {k : Nat} {x : List Int}, uniS ts fs vs k = some x → x.length = vs.length
  | 0, x, h => by cases h; rfl
  | k + 1, x, h => by
    rw [uniS] at h
    rcases e : uniS ts fs vs k with _ | y
    · rw [e] at h; cases h
    · rw [e, Option.bind_some] at h
      rw [stepU_len h, uniS_len e]
theorem uniS_none {ts fs vs : List Int} {k : Nat} (h : uniS ts fs vs k = none) : ∀ d : Nat, uniS ts fs vs (k + d) = none
  | 0 => h
  | d + 1 => by rw [← Nat.add_assoc, uniS, uniS_none h d]; rfl
theorem uniS_stop {ts fs vs : List Int} {k n : Nat} (h : uniS ts fs vs k = none) (hn : k ≤ n) : uniS ts fs vs n = none := by
  obtain ⟨d, rfl⟩ := Nat.le.dest hn
  exact uniS_none h d
theorem uniS_step {ts fs vs x : List Int} {k : Nat} (h : uniS ts fs vs k = some x) : uniS ts fs vs (k + 1) = stepU x (ts.getD k 0) (fs.getD k 0) := by
  rw [uniS, h]; rfl
/-- The last state before the search fell. -/
def uniL (ts fs vs : List Int) : Nat → List Int
  | 0 => vs
  | k + 1 => match uniS ts fs vs (k + 1) with
    | some x => x
    | none => uniL ts fs vs k
theorem uniL_some {ts fs vs x : List Int} : ∀ {k : Nat}, uniS ts fs vs k = some x → uniL ts fs vs k = x
  | 0, h => by cases h; rfl
  | k + 1, h => by rw [uniL, h]
theorem uniL_none {ts fs vs x : List Int} {k : Nat} (h : uniS ts fs vs k = some x) (h2 : uniS ts fs vs (k + 1) = none) : ∀ d : Nat, uniL ts fs vs (k + 1 + d) = x
  | 0 => by
    rw [Nat.add_zero, uniL, h2]
    exact uniL_some h
  | d + 1 => by
    rw [← Nat.add_assoc, uniL, show uniS ts fs vs (k + 1 + d + 1) = none from uniS_none (k := k + 1) h2 (d + 1)]
    exact uniL_none h h2 d
theorem uniL_stop {ts fs vs x : List Int} {k n : Nat} (h : uniS ts fs vs k = some x) (h2 : uniS ts fs vs (k + 1) = none) (hn : k < n) : uniL ts fs vs n = x := by
  obtain ⟨d, rfl⟩ := Nat.le.dest (show k + 1 ≤ n from hn)
  exact uniL_none h h2 d
def meet (a f : RI) (vs : List Int) : Option (List Int) := if f.r = a.r then uniS a.l f.l vs a.l.length else none
def meetV (a f : RI) (vs : List Int) : List Int := if f.r = a.r then uniL a.l f.l vs a.l.length else vs
theorem meet_len {a f : RI} {vs x : List Int} (h : meet a f vs = some x) : x.length = vs.length := by
  unfold meet at h
  split at h
  · exact uniS_len h
  · cases h
theorem meetV_eq {a f : RI} {vs x : List Int} (h : meet a f vs = some x) : meetV a f vs = x := by
  unfold meet at h
  unfold meetV
  split at h
  · rw [if_pos (by assumption)]; exact uniL_some h
  · cases h
/-- What one round finds: g tells it of each fact. -/
def found {α : Type} (g : Nat → List α) (k : Nat) : List α := (List.range k).flatMap g
theorem found_zero {α : Type} (g : Nat → List α) : found g 0 = [] := rfl
theorem found_succ {α : Type} (g : Nat → List α) (k : Nat) : found g (k + 1) = found g k ++ g k := by
  unfold found
  rw [List.range_succ, List.flatMap_append]; simp
theorem found_len {α : Type} {g : Nat → List α} {b : Nat} (h : ∀ i, (g i).length ≤ b) : ∀ k, (found g k).length ≤ k * b
  | 0 => by simp [found_zero]
  | k + 1 => by
    rw [found_succ, List.length_append, Nat.add_mul]
    have := found_len h k
    have := h k
    omega
theorem found_mem {α : Type} {g : Nat → List α} {k : Nat} {x : α} : x ∈ found g k ↔ ∃ i, i < k ∧ x ∈ g i := by
  unfold found
  rw [List.mem_flatMap]
  constructor
  · rintro ⟨i, h1, h2⟩; exact ⟨i, by simpa using h1, h2⟩
  · rintro ⟨i, h1, h2⟩; exact ⟨i, by simpa using h1, h2⟩
def atomAt (ats : List RI) (m : Nat) : RI := ats.getD (ats.length - (m + 1)) default
def walkE (ds ats : List RI) : Nat → List Int → List Int → List Emb
  | 0, vs, fs => [⟨vs, fs⟩]
  | m + 1, vs, fs => found (fun i => match meet (atomAt ats m) (ds.getD i default) vs with
    | some x => walkE ds ats m x (fs ++ [(i : Int)])
    | none => []) ds.length
def oneE (ds ats : List RI) (m : Nat) (vs fs : List Int) (i : Nat) : List Emb := match meet (atomAt ats m) (ds.getD i default) vs with
    | some x => walkE ds ats m x (fs ++ [(i : Int)])
    | none => []
theorem walkE_succ (ds ats : List RI) (m : Nat) (vs fs : List Int) : walkE ds ats (m + 1) vs fs = found (oneE ds ats m vs fs) ds.length := rfl
theorem oneE_some {ds ats : List RI} {m i : Nat} {vs fs x : List Int} (h : meet (atomAt ats m) (ds.getD i default) vs = some x) : oneE ds ats m vs fs i = walkE ds ats m x (fs ++ [(i : Int)]) := by unfold oneE; rw [h]
theorem oneE_none {ds ats : List RI} {m i : Nat} {vs fs : List Int} (h : meet (atomAt ats m) (ds.getD i default) vs = none) : oneE ds ats m vs fs i = [] := by unfold oneE; rw [h]
theorem walkE_len {ds ats : List RI} (hd : ds.length ≤ 14) : ∀ (m : Nat) (vs fs : List Int), (walkE ds ats m vs fs).length ≤ 14 ^ m
  | 0, _, _ => by simp [walkE]
  | m + 1, vs, fs => by
    rw [walkE_succ]
    have h1 : ∀ i, (oneE ds ats m vs fs i).length ≤ 14 ^ m := by
      intro i
      unfold oneE
      split
      · exact walkE_len hd m _ _
      · simp
    have h2 := found_len h1 ds.length
    have h3 := Nat.mul_le_mul_right (14 ^ m) hd
    rw [Nat.pow_succ, Nat.mul_comm (14 ^ m)]
    omega
theorem walkE_mem {ds ats : List RI} : ∀ {m : Nat} {vs fs : List Int}, ∀ e ∈ walkE ds ats m vs fs, e.vs.length = vs.length ∧ e.fs.length = fs.length + m
  | 0, vs, fs, e, h => by
    simp only [walkE, List.mem_singleton] at h
    subst h; exact ⟨rfl, rfl⟩
  | m + 1, vs, fs, e, h => by
    rw [walkE_succ, found_mem] at h
    obtain ⟨i, _, h⟩ := h
    unfold oneE at h
    split at h
    · rename_i x hx
      obtain ⟨h1, h2⟩ := walkE_mem e h
      rw [List.length_append, List.length_singleton] at h2
      exact ⟨by rw [h1, meet_len hx], by omega⟩
    · cases h
theorem pow14E {m : Nat} (h : m ≤ 3) : 14 ^ m ≤ 2744 := Nat.pow_le_pow_right (by omega) h
/-- ALL EMBEDDINGS. -/
def embs (d : Db) (q : Qu) : List Emb := if queryFor d q then walkE d.facts q.atoms q.atoms.length (List.replicate q.vc.toNat (-1)) [] else []
theorem queryFor_db {d : Db} {q : Qu} (h : queryFor d q = true) : goodDb d = true := by
  unfold queryFor at h; rw [Bool.and_eq_true] at h; exact h.1
theorem queryFor_qu {d : Db} {q : Qu} (h : queryFor d q = true) : goodQu d.rels q = true := by
  unfold queryFor at h; rw [Bool.and_eq_true] at h; exact h.2
theorem goodDb_len {d : Db} (h : goodDb d = true) : d.facts.length ≤ 14 := by
  unfold goodDb at h
  simp only [Bool.and_eq_true, decide_eq_true_eq] at h
  omega
theorem goodQu_parts {l : List Rel} {q : Qu} (h : goodQu l q = true) : (0 ≤ q.vc ∧ q.vc ≤ 4) ∧ 1 ≤ q.atoms.length ∧ q.atoms.length ≤ 3 := by
  unfold goodQu at h
  simp only [Bool.and_eq_true] at h
  have a1 := inB_of h.2.1
  have a2 := inB_of h.2.2.1
  omega
theorem goodDb_fact {d : Db} (h : goodDb d = true) {i : Nat} (hi : i < d.facts.length) : goodFact d.rels (d.facts.getD i default) = true := by
  unfold goodDb at h
  simp only [Bool.and_eq_true] at h
  have := upTo_at h.2.2 hi
  unfold factOk at this
  rw [Bool.and_eq_true] at this
  exact this.1
theorem goodQu_at {l : List Rel} {q : Qu} (h : goodQu l q = true) {k : Nat} (hk : k < q.atoms.length) : atomOk l q k = true := by
  unfold goodQu at h
  simp only [Bool.and_eq_true] at h
  exact upTo_at h.2.2.2.2.1 hk
theorem meet_lens {d : Db} {q : Qu} (h : queryFor d q = true) {k i : Nat} (hk : k < q.atoms.length) (hi : i < d.facts.length) (e : (d.facts.getD i default).r = (q.atoms.getD k default).r) : (d.facts.getD i default).l.length = (q.atoms.getD k default).l.length := by
  have h1 := goodDb_fact (queryFor_db h) hi
  have h2 := goodQu_at (queryFor_qu h) hk
  unfold goodFact at h1
  unfold atomOk relAt at h2
  simp only [Bool.and_eq_true, beq_iff_eq] at h1 h2
  have a1 := h1.2.1
  have a2 := h2.1.2
  rw [e] at a1
  omega
/-- Terms that name variables of a list or are constants. -/
def tsOk (n : Nat) (ts : List Int) : Prop := ∀ k, k < ts.length → -10 ≤ ts.getD k 0 ∧ ts.getD k 0 < n
theorem tsOk_at {l : List Rel} {q : Qu} (h : goodQu l q = true) {k : Nat} (hk : k < q.atoms.length) : tsOk q.vc.toNat (q.atoms.getD k default).l := by
  have h2 := goodQu_at h hk
  have hp := goodQu_parts h
  unfold atomOk at h2
  simp only [Bool.and_eq_true] at h2
  intro j hj
  have := upTo_at h2.2.2 hj
  unfold termOk at this
  have := inB_of this
  omega
end Go.Proofs.YtedciihjgbkjgacGreatDoor.A


/- THE TEXT OF A QUERY. Conditions: none. -/
namespace Go.Proofs.YtedciihjgbkjgacGreatDoor.A
open Go
set_option linter.unusedSimpArgs false
set_option linter.unusedVariables false
set_option maxRecDepth 100000

theorem getD_inQ {l : List Int} {y : Int} (h : y ∈ l) : ∃ j, j < l.length ∧ l.getD j 0 = y := by
  obtain ⟨j, hj, e⟩ := List.mem_iff_getElem.mp h
  exact ⟨j, hj, by simp [List.getD_eq_getElem?_getD, hj, e]⟩
abbrev barB : ByteArray := ⟨#[124]⟩
abbrev askB : ByteArray := ⟨#[63]⟩
abbrev blB : ByteArray := ⟨#[32]⟩
def fmtTs (ts : List Int) : List ByteArray := ts.map fmtT
def catT (ts : List Int) : ByteArray := catB (fmtTs ts)
theorem catT_nil : catT [] = noB := catB_nil
theorem fmtT_size (t : Int) : (fmtT t).size ≤ 1 := by
  unfold fmtT
  split
  · exact Nat.le_refl 1
  · exact Nat.zero_le 1
theorem fmtTs_size (ts : List Int) : ∀ x ∈ fmtTs ts, x.size ≤ 1 := by
  intro x hx
  obtain ⟨t, _, rfl⟩ := List.mem_map.mp hx
  exact fmtT_size t
theorem fmtTs_len (ts : List Int) : (fmtTs ts).length = ts.length := List.length_map _
theorem catT_size (ts : List Int) : (catT ts).size ≤ ts.length := by
  have := catB_size (fmtTs_size ts)
  rw [fmtTs_len, Nat.mul_one] at this
  exact this
theorem catT_step {ts : List Int} {k : Nat} (h : k < ts.length) : catT (ts.take (k + 1)) = catT (ts.take k) ++ fmtT (ts.getD k 0) := by
  unfold catT fmtTs
  rw [take_snoc 0 h, List.map_append, List.map_cons, List.map_nil, catB_snoc]
/-- Terms with a bar ahead of one. -/
def barT (ts : List Int) (n : Nat) : ByteArray := if n < ts.length then catT (ts.take n) ++ (barB ++ catT (ts.drop n)) else catT (ts.take n)
def barK (ts : List Int) (n : Nat) : Nat → ByteArray
  | 0 => noB
  | k + 1 => (if k = n then barK ts n k ++ barB else barK ts n k) ++ fmtT (ts.getD k 0)
theorem barK_lo {ts : List Int} {n : Nat} : ∀ {k : Nat}, k ≤ n → k ≤ ts.length → barK ts n k = catT (ts.take k)
  | 0, _, _ => by rw [barK, List.take_zero]; exact catB_nil.symm
  | k + 1, h, hl => by rw [barK, if_neg (by omega), barK_lo (by omega) (by omega), catT_step (by omega)]
theorem barK_hi {ts : List Int} {n : Nat} : ∀ {k : Nat}, n < k → k ≤ ts.length → barK ts n k = catT (ts.take n) ++ (barB ++ catT ((ts.drop n).take (k - n)))
  | 0, h, _ => by omega
  | k + 1, h, hl => by
    by_cases e : k = n
    · subst e
      rw [barK, if_pos rfl, barK_lo (Nat.le_refl _) (by omega), show k + 1 - k = 0 + 1 by omega, catT_step (by rw [List.length_drop]; omega), List.take_zero, app_ass,
        show catT ([] : List Int) = noB from catB_nil, noB_app]
      simp [List.getD_eq_getElem?_getD]
    · rw [barK, if_neg e, barK_hi (by omega) (by omega), show k + 1 - n = (k - n) + 1 by omega, catT_step (by rw [List.length_drop]; omega), app_ass, app_ass,
        show (ts.drop n).getD (k - n) 0 = ts.getD k 0 by simp [List.getD_eq_getElem?_getD, show n + (k - n) = k by omega]]
theorem barK_end {ts : List Int} {n : Nat} (h : n ≤ ts.length) : barK ts n ts.length = barT ts n := by
  unfold barT
  split
  · rw [barK_hi (by omega) (Nat.le_refl _), List.take_of_length_le (l := ts.drop n) (by rw [List.length_drop]; exact Nat.le_refl _)]
  · obtain rfl : n = ts.length := by omega
    rw [barK_lo (Nat.le_refl _) (Nat.le_refl _)]
theorem barK_size (ts : List Int) (n : Nat) : ∀ k, (barK ts n k).size ≤ 2 * k
  | 0 => Nat.le_refl 0
  | k + 1 => by
    have h1 := barK_size ts n k
    have h2 := fmtT_size (ts.getD k 0)
    rw [barK, app_size]
    split
    · rw [app_size]
      have : barB.size = 1 := rfl
      omega
    · omega
def atomText (l : List Rel) (a : RI) : ByteArray := (l.getD a.r.toNat default).name ++ barT a.l (l.getD a.r.toNat default).kl.toNat
def atTs (l : List Rel) (rs : List RI) : List ByteArray := rs.map (atomText l)
def qTexts (l : List Rel) (q : Qu) : List ByteArray := atTs l q.atoms
def quText (l : List Rel) (q : Qu) : ByteArray := if goodQu l q then catT q.free ++ askB ++ joinB (qTexts l q) blB else noB
/-- What holds of an atom of a valid query. -/
structure GoodAt (l : List Rel) (a : RI) (n k : Nat) : Prop where
  r : a.r = n
  kl : (l.getD n default).kl = k
  hn : n < l.length
  hk : k ≤ a.l.length
  hl : a.l.length ≤ 3
  sn : (l.getD n default).name.size = 1
  ht : ∀ t ∈ a.l, -10 ≤ t ∧ t ≤ 3
theorem goodAt_of {l : List Rel} {q : Qu} (g : goodQu l q = true) {i : Nat} (hi : i < q.atoms.length) : ∃ n k : Nat, GoodAt l (q.atoms.getD i default) n k := by
  have h1 := goodQu_at g hi
  have hv := (goodQu_parts g).1
  unfold goodQu goodRels at g
  unfold atomOk relAt at h1
  simp only [Bool.and_eq_true] at g h1
  have h2 := inB_of h1.1.1
  have h3 := upTo_at g.1.1 (show (q.atoms.getD i default).r.toNat < l.length by omega)
  unfold relOk goodRel at h3
  simp only [Bool.and_eq_true, beq_iff_eq] at h3 h1
  have h4 := inB_of h3.1.2.2.2.1
  have h5 := inB_of h3.1.2.2.2.2
  refine ⟨(q.atoms.getD i default).r.toNat, (l.getD (q.atoms.getD i default).r.toNat default).kl.toNat, by omega, by omega, by omega, by have := h1.1.2; omega, by have := h1.1.2; omega, by have := h3.1.1; omega, fun t ht => ?_⟩
  obtain ⟨j, hj, rfl⟩ := getD_inQ ht
  have h6 := upTo_at h1.2.2 hj
  unfold termOk at h6
  have := inB_of h6
  omega
theorem goodFree {l : List Rel} {q : Qu} (g : goodQu l q = true) : ∀ t ∈ q.free, -10 ≤ t ∧ t ≤ 3 := by
  have hv := (goodQu_parts g).1
  unfold goodQu at g
  simp only [Bool.and_eq_true] at g
  have h1 := g.2.2.2.1
  intro t ht
  obtain ⟨j, hj, rfl⟩ := getD_inQ ht
  unfold idxs at h1
  have h2 := upTo_at h1 hj
  unfold idxAt at h2
  simp only [Bool.and_eq_true] at h2
  have := inB_of h2.1
  omega
theorem barT_size {ts : List Int} {n : Nat} (h : n ≤ ts.length) : (barT ts n).size ≤ 2 * ts.length := by
  rw [← barK_end h]; exact barK_size ts n _
theorem atomText_size {l : List Rel} {a : RI} {n k : Nat} (G : GoodAt l a n k) : (atomText l a).size ≤ 7 := by
  have h1 := barT_size G.hk
  have h2 := G.hl
  rw [atomText, app_size, G.r, Int.toNat_natCast, G.sn, G.kl, Int.toNat_natCast]
  omega
theorem qTexts_mem {l : List Rel} {q : Qu} (g : goodQu l q = true) : ∀ x ∈ qTexts l q, x.size ≤ 7 := by
  intro x hx
  obtain ⟨a, ha, rfl⟩ := List.mem_map.mp hx
  obtain ⟨i, hi, e⟩ := List.mem_iff_getElem.mp ha
  obtain ⟨n, k, G⟩ := goodAt_of g hi
  have : q.atoms.getD i default = a := by simp [List.getD_eq_getElem?_getD, hi, e]
  rw [this] at G
  exact atomText_size G
theorem formatTerms_sat (ts : List Int) (h : ts.length ≤ 1048576) (ht : ∀ t ∈ ts, -10 ≤ t ∧ t ≤ 3) : Sat Tryz.prog 23 [lInts ts] [oStrs (fmtTs ts)] [g1] := by
  refine sat_of_body mixed Tryz.func23 rfl (by kernel_rfl) (by kernel_rfl) (rs := [.tmp 2]) rfl rfl rfl ?_
  simp -implicitDefEqProofs (maxSteps := 2000000) only [go_sem]
  refine awp_loop Nat (fun k => mkSt [(3, .one (.ref 960 1 0 (fmtTs (ts.take k)).length)), (7, .one (.im 1 (ints ts))), (8, .sc (.int .i64 ts.length)), (9, .sc (.int .i64 k))] [] [(960, (1, sts (fmtTs (ts.take k))))] 4000)
    (fun k => k ≤ ts.length) (fun k => ts.length - k) 0 (by omega) (le_st' _ _ [⟨960, some _, false, 1, _⟩] [] _ (by simp -implicitDefEqProofs (maxSteps := 2000000) only [go_sem, fmtTs, List.take_zero, List.map_nil, sts_nil, List.length_nil] <;> and_intros <;> rfl) (by simp -implicitDefEqProofs (maxSteps := 2000000) only [go_sem, fmtTs, List.take_zero, List.map_nil, sts_nil, List.length_nil] <;> and_intros <;> rfl) (by simp -implicitDefEqProofs (maxSteps := 2000000) only [go_sem, fmtTs, List.take_zero, List.map_nil, sts_nil, List.length_nil] <;> and_intros <;> rfl) (by rfl)) ?_
  rintro k h1
  by_cases c1 : k < ts.length
  · have wk : IntKind.i64.wrap ((k : Int) + 1) = ((k + 1 : Nat) : Int) := i64_succ (by omega)
    have hr := ht _ (mem_getD 0 c1)
    have hst : fmtTs (ts.take (k + 1)) = fmtTs (ts.take k) ++ [fmtT (ts.getD k 0)] := by unfold fmtTs; rw [take_snoc 0 c1, List.map_append]; rfl
    have hll : (fmtTs (ts.take k)).length ≤ 1048576 := by rw [fmtTs_len, List.length_take]; omega
    simp -implicitDefEqProofs (maxSteps := 2000000) only [go_sem, c1]
    refine call_of (implFormatTerm_sat (ts.getD k 0) (by omega)) (by simp -implicitDefEqProofs (maxSteps := 2000000) only [go_sem, c1]) (by kernel_rfl) (by simp -implicitDefEqProofs (maxSteps := 2000000) only [go_sem, c1]) ?_
    simp -implicitDefEqProofs (maxSteps := 2000000) only [go_sem, c1]
    refine ⟨by omega, ?_⟩
    rw [wk]
    refine ⟨k + 1, c1, by omega, ?_⟩
    rw [hst]
    exact (le_st' _ _ [⟨960, some _, false, 1, _⟩] [] _ (by simp -implicitDefEqProofs (maxSteps := 2000000) only [go_sem] <;> and_intros <;> rfl) (by simp -implicitDefEqProofs (maxSteps := 2000000) only [go_sem] <;> and_intros <;> rfl) (by simp -implicitDefEqProofs (maxSteps := 2000000) only [go_sem] <;> and_intros <;> rfl) (by rfl))
  · obtain rfl : k = ts.length := by omega
    simp -implicitDefEqProofs (maxSteps := 2000000) only [go_sem, c1, List.take_length]
    first | done | rfl | exact ⟨rfl, rfl⟩ | exact ⟨rfl, rfl, rfl⟩ | (refine tr_and ?_ ?_ <;> first | rfl | exact ⟨rfl, rfl⟩ | kernel_rfl)
theorem barred_sat (ts : List Int) (n : Nat) (h : ts.length ≤ 1048576) (hn : n ≤ ts.length) : Sat Tryz.prog 54 [lStrs (fmtTs ts), lInt n] [lStr (barT ts n)] [g1, g1] := by
  refine sat_of_body mixed Tryz.func54 rfl (by kernel_rfl) (by kernel_rfl) (rs := [.tmp 4]) rfl rfl rfl ?_
  have hl := fmtTs_len ts
  have e1 : (fmtTs ts).take n = fmtTs (ts.take n) := by unfold fmtTs; rw [List.map_take]
  have e2 : (fmtTs ts).drop n = fmtTs (ts.drop n) := by unfold fmtTs; rw [List.map_drop]
  have e3 : (fmtTs ts).take ts.length = fmtTs ts := List.take_of_length_le (by rw [fmtTs_len]; exact Nat.le_refl _)
  have s1 := catT_size (ts.take n)
  have s2 := catT_size (ts.drop n)
  rw [List.length_take] at s1
  rw [List.length_drop] at s2
  unfold catT catB at s1 s2
  unfold barT catT catB
  have b1 : barB.size = 1 := rfl
  simp -implicitDefEqProofs (maxSteps := 2000000) only [go_sem, hl, hn]
  refine ⟨by omega, ?_⟩
  refine call_of (stringsJoin_sat (fmtTs (ts.take n)) noB (by rw [fmtTs_len, List.length_take]; omega) (by omega)) ?_ ?_ ?_ ?_
  · simp -implicitDefEqProofs (maxSteps := 2000000) only [go_sem, e1]
  · kernel_rfl
  · simp -implicitDefEqProofs (maxSteps := 2000000) only [go_sem, e1]
  simp -implicitDefEqProofs (maxSteps := 2000000) only [go_sem, e1]
  by_cases c1 : n < ts.length
  · rw [if_pos c1]
    simp -implicitDefEqProofs (maxSteps := 2000000) only [go_sem, c1, hl]
    refine ⟨by omega, by omega, ?_⟩
    refine call_of (stringsJoin_sat (fmtTs (ts.drop n)) noB (by rw [fmtTs_len, List.length_drop]; omega) (by omega)) ?_ ?_ ?_ ?_
    · simp -implicitDefEqProofs (maxSteps := 2000000) only [go_sem, e2, e3, hl, app_size]
    · kernel_rfl
    · simp -implicitDefEqProofs (maxSteps := 2000000) only [go_sem, e2, e3, hl, app_size]
    simp -implicitDefEqProofs (maxSteps := 2000000) only [go_sem, e2, e3, hl, app_size]
    omega
  · rw [if_neg c1]
    simp -implicitDefEqProofs (maxSteps := 2000000) only [go_sem, c1, hl]
    first | done | rfl | exact ⟨rfl, rfl⟩ | exact ⟨rfl, rfl, rfl⟩ | (refine tr_and ?_ ?_ <;> first | rfl | exact ⟨rfl, rfl⟩ | kernel_rfl)
theorem atTs_step {l : List Rel} {rs : List RI} {k : Nat} (h : k < rs.length) : atTs l (rs.take (k + 1)) = atTs l (rs.take k) ++ [atomText l (rs.getD k default)] := by
  unfold atTs; rw [take_snoc default h, List.map_append]; rfl
theorem atTs_len (l : List Rel) (rs : List RI) : (atTs l rs).length = rs.length := List.length_map _
theorem formatAtom_sat (l : List Rel) (a : RI) (n k : Nat) (hl : l.length ≤ 9223372036854775807) (G : GoodAt l a n k) : Sat Tryz.prog 21 [lRels l, lRI a] [lStr (atomText l a)] [g1, g2] := by
  refine sat_of_body mixed Tryz.func21 rfl (by kernel_rfl) (by kernel_rfl) (rs := [.tmp 4]) rfl rfl rfl ?_
  obtain ⟨er, ek, hn, hk, h3, sn, ht⟩ := G
  have s1 := barT_size hk
  unfold atomText
  rcases a with ⟨r, ts⟩
  simp only at er ek hk h3 ht s1
  subst er
  rw [Int.toNat_natCast, ek, Int.toNat_natCast]
  simp -implicitDefEqProofs (maxSteps := 2000000) only [go_sem, hn]
  refine call_of (formatTerms_sat ts (by omega) ht) (by simp -implicitDefEqProofs (maxSteps := 2000000) only [go_sem, hn, ek]) (callOk_still (by kernel_rfl) (by simp only [List.all_cons, List.all_nil, LV.still, LV.leaves, Leaf.still, ints_still, ris_still, eds_still, rels_still, iss_still, ems_still, sts_still, Bool.and_self, Bool.and_true])) (by simp -implicitDefEqProofs (maxSteps := 2000000) only [go_sem, hn, ek]) ?_
  simp -implicitDefEqProofs (maxSteps := 2000000) only [go_sem, hn, ek]
  refine call_of (barred_sat ts k (by omega) hk) (by simp -implicitDefEqProofs (maxSteps := 2000000) only [go_sem, hn, ek, sn]) (by kernel_rfl) (by simp -implicitDefEqProofs (maxSteps := 2000000) only [go_sem, hn, ek, sn]) ?_
  simp -implicitDefEqProofs (maxSteps := 2000000) only [go_sem, hn, ek, sn]
  exact ⟨by omega, by kernel_rfl⟩
theorem l11Atom_sat (l : List Rel) (a : RI) (n k : Nat) (hl : l.length ≤ 9223372036854775807) (G : GoodAt l a n k) : Sat Tryz.prog 62 [lRels l, lRI a] [lStr (atomText l a)] [g1, g2] := by
  refine sat_of_body mixed Tryz.func62 rfl (by kernel_rfl) (by kernel_rfl) (rs := [.tmp 4]) rfl rfl rfl ?_
  obtain ⟨er, ek, hn, hk, h3, sn, ht⟩ := G
  unfold atomText
  rcases a with ⟨r, ts⟩
  simp only at er ek hk h3 ht
  subst er
  rw [Int.toNat_natCast, ek, Int.toNat_natCast, ← barK_end hk]
  simp -implicitDefEqProofs (maxSteps := 2000000) only [go_sem, hn]
  refine awp_loop Nat (fun j => mkSt [(0, .one (.im 3 (rels l))), (3, .one (.vad 1000 0)), (5, .sc (.string ((l.getD n default).name ++ barK ts k j))), (6, .sc (.int .i64 j))] [(1000, sRI ⟨n, ts⟩)] [] 3000)
    (fun j => j ≤ ts.length) (fun j => ts.length - j) 0 (by omega) (le_st _ _ [] [] _ rfl (by simp -implicitDefEqProofs (maxSteps := 2000000) only [go_sem, barK, app_noB] <;> rfl) (by simp -implicitDefEqProofs (maxSteps := 2000000) only [go_sem, barK, app_noB] <;> rfl) (by simp -implicitDefEqProofs (maxSteps := 2000000) only [go_sem, barK, app_noB] <;> rfl)) ?_
  rintro j h1
  by_cases c1 : j < ts.length
  · have wj : IntKind.i64.wrap ((j : Int) + 1) = ((j + 1 : Nat) : Int) := i64_succ (by omega)
    have hr := ht _ (mem_getD 0 c1)
    have hbs := barK_size ts k j
    have hfs := fmtT_size (ts.getD j 0)
    have b1 : barB.size = 1 := rfl
    by_cases e : j = k
    · have d1 : (((j : Nat) : Int) == ((k : Nat) : Int)) = true := by rw [beq_iff_eq]; omega
      have hst : (l.getD n default).name ++ barK ts k (j + 1) = (l.getD n default).name ++ barK ts k j ++ barB ++ fmtT (ts.getD j 0) := by rw [barK, if_pos e, app_ass, app_ass, app_ass]
      simp -implicitDefEqProofs (maxSteps := 2000000) only [go_sem, c1, hn, ek, d1, app_size, sn]
      refine ⟨by omega, ?_⟩
      refine call_of (specFormatTerm_sat (ts.getD j 0) (by omega)) (by simp -implicitDefEqProofs (maxSteps := 2000000) only [go_sem, c1, app_size, sn]) (by kernel_rfl) (by simp -implicitDefEqProofs (maxSteps := 2000000) only [go_sem, c1, app_size, sn]) ?_
      simp -implicitDefEqProofs (maxSteps := 2000000) only [go_sem, c1, app_size, sn]
      refine ⟨by omega, ?_⟩
      rw [wj]
      exact ⟨j + 1, c1, by omega, (le_st _ _ [] [] _ rfl (by simp -implicitDefEqProofs (maxSteps := 2000000) only [go_sem, hst] <;> rfl) (by simp -implicitDefEqProofs (maxSteps := 2000000) only [go_sem, hst] <;> rfl) (by simp -implicitDefEqProofs (maxSteps := 2000000) only [go_sem, hst] <;> rfl))⟩
    · have d1 : (((j : Nat) : Int) == ((k : Nat) : Int)) = false := by rw [beq_eq_false_iff_ne]; omega
      have hst : (l.getD n default).name ++ barK ts k (j + 1) = (l.getD n default).name ++ barK ts k j ++ fmtT (ts.getD j 0) := by rw [barK, if_neg e, app_ass]
      simp -implicitDefEqProofs (maxSteps := 2000000) only [go_sem, c1, hn, ek, d1, app_size, sn]
      refine call_of (specFormatTerm_sat (ts.getD j 0) (by omega)) (by simp -implicitDefEqProofs (maxSteps := 2000000) only [go_sem, c1, app_size, sn]) (by kernel_rfl) (by simp -implicitDefEqProofs (maxSteps := 2000000) only [go_sem, c1, app_size, sn]) ?_
      simp -implicitDefEqProofs (maxSteps := 2000000) only [go_sem, c1, app_size, sn]
      refine ⟨by omega, ?_⟩
      rw [wj]
      exact ⟨j + 1, c1, by omega, (le_st _ _ [] [] _ rfl (by simp -implicitDefEqProofs (maxSteps := 2000000) only [go_sem, hst] <;> rfl) (by simp -implicitDefEqProofs (maxSteps := 2000000) only [go_sem, hst] <;> rfl) (by simp -implicitDefEqProofs (maxSteps := 2000000) only [go_sem, hst] <;> rfl))⟩
  · obtain rfl : j = ts.length := by omega
    simp -implicitDefEqProofs (maxSteps := 2000000) only [go_sem, c1]
    first | done | rfl | exact ⟨rfl, rfl⟩ | exact ⟨rfl, rfl, rfl⟩ | (refine tr_and ?_ ?_ <;> first | rfl | exact ⟨rfl, rfl⟩ | kernel_rfl)
theorem implFormatQuery_sat (l : List Rel) (q : Qu) (hl : l.length ≤ 9223372036854775807) (hq : q.ok) : Sat Tryz.prog 7 [lRels l, lQu q] [lStr (quText l q)] [g1, g3] := by
  refine sat_of_body mixed Tryz.func7 rfl (by kernel_rfl) (by kernel_rfl) (rs := [.tmp 4]) rfl rfl rfl ?_
  unfold quText
  rcases g : goodQu l q
  · rw [if_neg (by simp)]
    simp -implicitDefEqProofs (maxSteps := 2000000) only [go_sem]
    refine call_of (implIsValidQuery_sat l q hl hq) (by simp -implicitDefEqProofs (maxSteps := 2000000) only [go_sem, g]) (by kernel_rfl) (by simp -implicitDefEqProofs (maxSteps := 2000000) only [go_sem, g]) ?_
    simp -implicitDefEqProofs (maxSteps := 2000000) only [go_sem, g]
    first | done | rfl | exact ⟨rfl, rfl⟩ | exact ⟨rfl, rfl, rfl⟩ | (refine tr_and ?_ ?_ <;> first | rfl | exact ⟨rfl, rfl⟩ | kernel_rfl)
  rw [if_pos rfl]
  obtain ⟨hv, hn1, hn⟩ := goodQu_parts g
  simp -implicitDefEqProofs (maxSteps := 2000000) only [go_sem]
  refine call_of (implIsValidQuery_sat l q hl hq) (by simp -implicitDefEqProofs (maxSteps := 2000000) only [go_sem, g]) (by kernel_rfl) (by simp -implicitDefEqProofs (maxSteps := 2000000) only [go_sem, g]) ?_
  simp -implicitDefEqProofs (maxSteps := 2000000) only [go_sem, g]
  refine awp_loop Nat (fun k => mkSt [(0, .one (.im 3 (rels l))), (3, .one (.vad 1000 0)), (5, .one (.ref 960 1 0 (atTs l (q.atoms.take k)).length)), (14, .one (.im 2 (ris 0 q.atoms))), (15, .sc (.int .i64 q.atoms.length)), (16, .sc (.int .i64 k))] [(1000, sQu q)] [(960, (1, sts (atTs l (q.atoms.take k))))] 6000)
    (fun k => k ≤ q.atoms.length) (fun k => q.atoms.length - k) 0 (by omega) (le_st' _ _ [⟨960, some _, false, 1, _⟩] [] _ (by simp -implicitDefEqProofs (maxSteps := 2000000) only [go_sem, atTs, List.take_zero, List.map_nil, sts_nil, List.length_nil] <;> and_intros <;> rfl) (by simp -implicitDefEqProofs (maxSteps := 2000000) only [go_sem, atTs, List.take_zero, List.map_nil, sts_nil, List.length_nil] <;> and_intros <;> rfl) (by simp -implicitDefEqProofs (maxSteps := 2000000) only [go_sem, atTs, List.take_zero, List.map_nil, sts_nil, List.length_nil] <;> and_intros <;> rfl) (by rfl)) ?_
  rintro k h1
  by_cases c1 : k < q.atoms.length
  · have wk : IntKind.i64.wrap ((k : Int) + 1) = ((k + 1 : Nat) : Int) := i64_succ (by omega)
    obtain ⟨n, m, G⟩ := goodAt_of g c1
    have hst := atTs_step (l := l) c1
    have hll : (atTs l (q.atoms.take k)).length ≤ 3 := by rw [atTs_len, List.length_take]; omega
    simp -implicitDefEqProofs (maxSteps := 2000000) only [go_sem, c1]
    refine call_of (formatAtom_sat l (q.atoms.getD k default) n m hl G) (by simp -implicitDefEqProofs (maxSteps := 2000000) only [go_sem, c1]) (by kernel_rfl) (by simp -implicitDefEqProofs (maxSteps := 2000000) only [go_sem, c1]) ?_
    simp -implicitDefEqProofs (maxSteps := 2000000) only [go_sem, c1]
    refine ⟨by omega, ?_⟩
    rw [wk]
    refine ⟨k + 1, c1, by omega, ?_⟩
    rw [hst]
    exact (le_st' _ _ [⟨960, some _, false, 1, _⟩] [] _ (by simp -implicitDefEqProofs (maxSteps := 2000000) only [go_sem] <;> and_intros <;> rfl) (by simp -implicitDefEqProofs (maxSteps := 2000000) only [go_sem] <;> and_intros <;> rfl) (by simp -implicitDefEqProofs (maxSteps := 2000000) only [go_sem] <;> and_intros <;> rfl) (by rfl))
  · obtain rfl : k = q.atoms.length := by omega
    rw [List.take_length]
    have hf := goodFree g
    have hfl : q.free.length ≤ 1048576 := hq.2
    have s1 := catT_size q.free
    have s2 := joinB_size blB 7 (qTexts l q) (qTexts_mem g)
    rw [show (qTexts l q).length = q.atoms.length from atTs_len l q.atoms, show blB.size = 1 from rfl] at s2
    have s3 : askB.size = 1 := rfl
    unfold qTexts at s2 ⊢
    simp -implicitDefEqProofs (maxSteps := 2000000) only [go_sem, c1]
    refine call_of (formatTerms_sat q.free hfl hf) (by simp -implicitDefEqProofs (maxSteps := 2000000) only [go_sem]) (callOk_still (by kernel_rfl) (by simp only [List.all_cons, List.all_nil, LV.still, LV.leaves, Leaf.still, ints_still, ris_still, eds_still, rels_still, iss_still, ems_still, sts_still, Bool.and_self, Bool.and_true])) (by simp -implicitDefEqProofs (maxSteps := 2000000) only [go_sem]) ?_
    simp -implicitDefEqProofs (maxSteps := 2000000) only [go_sem]
    refine call_of (stringsJoin_sat (fmtTs q.free) noB (by rw [fmtTs_len]; omega) (by unfold catT catB at s1; omega)) (by simp -implicitDefEqProofs (maxSteps := 2000000) only [go_sem]) (by kernel_rfl) (by simp -implicitDefEqProofs (maxSteps := 2000000) only [go_sem]) ?_
    simp -implicitDefEqProofs (maxSteps := 2000000) only [go_sem]
    rw [show joinB (fmtTs q.free) noB = catT q.free from rfl]
    refine ⟨by omega, ?_⟩
    refine call_of (stringsJoin_sat (atTs l q.atoms) blB (by rw [atTs_len]; omega) (by omega)) (by simp -implicitDefEqProofs (maxSteps := 2000000) only [go_sem, app_size]) (by kernel_rfl) (by simp -implicitDefEqProofs (maxSteps := 2000000) only [go_sem, app_size]) ?_
    simp -implicitDefEqProofs (maxSteps := 2000000) only [go_sem, app_size]
    omega
theorem specFormatQuery_sat (l : List Rel) (q : Qu) (hl : l.length ≤ 9223372036854775807) (hq : q.ok) : Sat Tryz.prog 26 [lRels l, lQu q] [lStr (quText l q)] [g1, g3] := by
  refine sat_of_body mixed Tryz.func26 rfl (by kernel_rfl) (by kernel_rfl) (rs := [.tmp 4]) rfl rfl rfl ?_
  have hqf : q.fit := hq.fit
  unfold quText
  rcases g : goodQu l q
  · rw [if_neg (by simp)]
    simp -implicitDefEqProofs (maxSteps := 2000000) only [go_sem]
    refine call_of (specIsValidQuery_sat l q hl hqf) (by simp -implicitDefEqProofs (maxSteps := 2000000) only [go_sem, g]) (by kernel_rfl) (by simp -implicitDefEqProofs (maxSteps := 2000000) only [go_sem, g]) ?_
    simp -implicitDefEqProofs (maxSteps := 2000000) only [go_sem, g]
    first | done | rfl | exact ⟨rfl, rfl⟩ | exact ⟨rfl, rfl, rfl⟩ | (refine tr_and ?_ ?_ <;> first | rfl | exact ⟨rfl, rfl⟩ | kernel_rfl)
  rw [if_pos rfl]
  obtain ⟨hv, hn1, hn⟩ := goodQu_parts g
  have hf := goodFree g
  have hfl : q.free.length ≤ 1048576 := hq.2
  have s3 : askB.size = 1 := rfl
  have s4 : blB.size = 1 := rfl
  simp -implicitDefEqProofs (maxSteps := 2000000) only [go_sem]
  refine call_of (specIsValidQuery_sat l q hl hqf) (by simp -implicitDefEqProofs (maxSteps := 2000000) only [go_sem, g]) (by kernel_rfl) (by simp -implicitDefEqProofs (maxSteps := 2000000) only [go_sem, g]) ?_
  simp -implicitDefEqProofs (maxSteps := 2000000) only [go_sem, g]
  refine awp_loop Nat (fun k => mkSt [(0, .one (.im 3 (rels l))), (3, .one (.vad 1000 0)), (5, .sc (.string (catT (q.free.take k)))), (6, .sc (.int .i64 k))] [(1000, sQu q)] [] 6000)
    (fun k => k ≤ q.free.length) (fun k => q.free.length - k) 0 (by omega) (le_st _ _ [] [] _ rfl (by simp -implicitDefEqProofs (maxSteps := 2000000) only [go_sem, List.take_zero, catT_nil] <;> rfl) (by simp -implicitDefEqProofs (maxSteps := 2000000) only [go_sem, List.take_zero, catT_nil] <;> rfl) (by simp -implicitDefEqProofs (maxSteps := 2000000) only [go_sem, List.take_zero, catT_nil] <;> rfl)) ?_
  rintro k h1
  by_cases c1 : k < q.free.length
  · have wk : IntKind.i64.wrap ((k : Int) + 1) = ((k + 1 : Nat) : Int) := i64_succ (by omega)
    have hst := catT_step c1
    have hr := hf _ (mem_getD 0 c1)
    have s5 := catT_size (q.free.take k)
    rw [List.length_take] at s5
    have s6 := fmtT_size (q.free.getD k 0)
    simp -implicitDefEqProofs (maxSteps := 2000000) only [go_sem, c1]
    refine call_of (specFormatTerm_sat (q.free.getD k 0) (by omega)) (by simp -implicitDefEqProofs (maxSteps := 2000000) only [go_sem, c1]) (by kernel_rfl) (by simp -implicitDefEqProofs (maxSteps := 2000000) only [go_sem, c1]) ?_
    simp -implicitDefEqProofs (maxSteps := 2000000) only [go_sem, c1]
    refine ⟨by omega, ?_⟩
    rw [wk]
    exact ⟨k + 1, c1, by omega, (le_st _ _ [] [] _ rfl (by simp -implicitDefEqProofs (maxSteps := 2000000) only [go_sem, hst] <;> rfl) (by simp -implicitDefEqProofs (maxSteps := 2000000) only [go_sem, hst] <;> rfl) (by simp -implicitDefEqProofs (maxSteps := 2000000) only [go_sem, hst] <;> rfl))⟩
  obtain rfl : k = q.free.length := by omega
  have s5 := catT_size q.free
  rw [List.take_length]
  simp -implicitDefEqProofs (maxSteps := 2000000) only [go_sem, c1, app_size]
  refine ⟨by omega, ?_⟩
  refine awp_loop Nat (fun k => mkSt [(0, .one (.im 3 (rels l))), (3, .one (.vad 1000 0)), (5, .sc (.string (catT q.free ++ askB ++ joinB (atTs l (q.atoms.take k)) blB))), (7, .sc (.int .i64 k))] [(1000, sQu q)] [] 9000)
    (fun k => k ≤ q.atoms.length) (fun k => q.atoms.length - k) 0 (by omega) (le_st _ _ [] [] _ rfl (by simp -implicitDefEqProofs (maxSteps := 2000000) only [go_sem, atTs, List.take_zero, List.map_nil, joinB_nil, app_noB] <;> rfl) (by simp -implicitDefEqProofs (maxSteps := 2000000) only [go_sem, atTs, List.take_zero, List.map_nil, joinB_nil, app_noB] <;> rfl) (by simp -implicitDefEqProofs (maxSteps := 2000000) only [go_sem, atTs, List.take_zero, List.map_nil, joinB_nil, app_noB] <;> rfl)) ?_
  rintro k h2
  by_cases c2 : k < q.atoms.length
  · have wk : IntKind.i64.wrap ((k : Int) + 1) = ((k + 1 : Nat) : Int) := i64_succ (by omega)
    obtain ⟨n, m, G⟩ := goodAt_of g c2
    have hst := atTs_step (l := l) c2
    have s6 := atomText_size G
    have s7 := joinB_size blB 7 (atTs l (q.atoms.take k)) (fun x hx => by
      obtain ⟨a, ha, rfl⟩ := List.mem_map.mp hx
      exact qTexts_mem g _ (List.mem_map.mpr ⟨a, List.mem_of_mem_take ha, rfl⟩))
    rw [atTs_len, List.length_take, s4] at s7
    have s8 : min k q.atoms.length * (7 + 1) ≤ 3 * 8 := Nat.mul_le_mul (by omega) (by omega)
    rcases k with _ | k
    · have e1 : catT q.free ++ askB ++ joinB (atTs l (q.atoms.take (0 + 1))) blB = catT q.free ++ askB ++ atomText l (q.atoms.getD 0 default) := by
        rw [hst, show atTs l (q.atoms.take 0) = [] from rfl, List.nil_append, joinB_one]
      have e0 : joinB (atTs l []) blB = noB := joinB_nil _
      have d1 : decide ((0 : Int) < ((q.atoms.length : Nat) : Int)) = true := decide_eq_true (by omega)
      simp -implicitDefEqProofs (maxSteps := 2000000) only [go_sem, d1, c2, app_size, e0, app_noB]
      refine call_of (l11Atom_sat l (q.atoms.getD 0 default) n m hl G) (by simp -implicitDefEqProofs (maxSteps := 2000000) only [go_sem, c2, app_size, e0, app_noB]) (by kernel_rfl) (by simp -implicitDefEqProofs (maxSteps := 2000000) only [go_sem, c2, app_size, e0, app_noB]) ?_
      simp -implicitDefEqProofs (maxSteps := 2000000) only [go_sem, c2, app_size, e0, app_noB]
      refine ⟨by omega, ?_⟩
      exact ⟨0 + 1, c2, by omega, (le_st _ _ [] [] _ rfl (by simp -implicitDefEqProofs (maxSteps := 2000000) only [go_sem, e1] <;> rfl) (by simp -implicitDefEqProofs (maxSteps := 2000000) only [go_sem, e1] <;> rfl) (by simp -implicitDefEqProofs (maxSteps := 2000000) only [go_sem, e1] <;> rfl))⟩
    · have hne : atTs l (q.atoms.take (k + 1)) ≠ [] := fun e => by
        have := congrArg List.length e
        rw [atTs_len, List.length_take] at this
        rw [List.length_nil] at this
        omega
      have e1 : catT q.free ++ askB ++ joinB (atTs l (q.atoms.take (k + 1 + 1))) blB = catT q.free ++ askB ++ joinB (atTs l (q.atoms.take (k + 1))) blB ++ blB ++ atomText l (q.atoms.getD (k + 1) default) := by
        rw [hst, joinB_snoc hne]
        simp only [app_ass]
      have d1 : decide (((k + 1 : Nat) : Int) > 0) = true := decide_eq_true (by omega)
      simp -implicitDefEqProofs (maxSteps := 2000000) only [go_sem, c2, d1, app_size]
      refine ⟨by omega, ?_⟩
      refine call_of (l11Atom_sat l (q.atoms.getD (k + 1) default) n m hl G) (by simp -implicitDefEqProofs (maxSteps := 2000000) only [go_sem, c2, app_size]) (by kernel_rfl) (by simp -implicitDefEqProofs (maxSteps := 2000000) only [go_sem, c2, app_size]) ?_
      simp -implicitDefEqProofs (maxSteps := 2000000) only [go_sem, c2, app_size]
      refine ⟨by omega, ?_⟩
      rw [wk]
      exact ⟨k + 1 + 1, c2, by omega, (le_st _ _ [] [] _ rfl (by simp -implicitDefEqProofs (maxSteps := 2000000) only [go_sem, e1] <;> rfl) (by simp -implicitDefEqProofs (maxSteps := 2000000) only [go_sem, e1] <;> rfl) (by simp -implicitDefEqProofs (maxSteps := 2000000) only [go_sem, e1] <;> rfl))⟩
  · obtain rfl : k = q.atoms.length := by omega
    rw [List.take_length]
    simp -implicitDefEqProofs (maxSteps := 2000000) only [go_sem, c2]
    first | done | rfl | exact ⟨rfl, rfl⟩ | exact ⟨rfl, rfl, rfl⟩ | (refine tr_and ?_ ?_ <;> first | rfl | exact ⟨rfl, rfl⟩ | kernel_rfl)
end Go.Proofs.YtedciihjgbkjgacGreatDoor.A


/- WHAT IS DRAWN FROM A CODE: the reference's cursor. Conditions: none. -/
namespace Go.Proofs.YtedciihjgbkjgacGreatDoor.A
open Go
set_option linter.unusedSimpArgs false
set_option linter.unusedVariables false
set_option maxRecDepth 100000

/-! #### bytes -/
def cBy (z : Int) : List Cell := [.sc (.int .u8 z)]
def bys (l : List Int) : Rows := l.map cBy
theorem bys_length (l : List Int) : (bys l).length = l.length := by simp [bys]
theorem bys_get {l : List Int} {i : Nat} (h : i < l.length) : (bys l).getD i [] = [.sc (.int .u8 (l.getD i 0))] := by
  simp [bys, cBy, List.getD_eq_getElem?_getD, h]
theorem bys_frz (l : List Int) : frz (bys l) = bys l := frz_map _ _ (fun _ => rfl) l
attribute [go_sem] bys_length bys_get bys_frz
abbrev lBys (l : List Int) : LV := .one (.im 1 (bys l))
structure Cur where
  b : List Int
  i : Nat
  h : Int
abbrev fCur (c : Cur) : List Fld := [.im 1 (bys c.b), .sc (.int .i64 c.i), .sc (.int .i64 c.h)]
abbrev lCur (c : Cur) : LV := .one (.op (fCur c))
abbrev sCur (c : Cur) : List SV := [.im 1 (bys c.b), .sc (.int .i64 c.i), .sc (.int .i64 c.h)]
def bytesOk (l : List Int) : Prop := ∀ z ∈ l, 0 ≤ z ∧ z ≤ 255
/-- The lowest bits. -/
def low (a m : Int) : Int := IntKind.i64.wrap ((BitVec.ofInt IntKind.i64.bits a &&& BitVec.ofInt IntKind.i64.bits m).toNat : Int)
theorem low_255 (a : Int) : 0 ≤ low a 255 ∧ low a 255 ≤ 255 := by
  unfold low
  have h : (BitVec.ofInt IntKind.i64.bits a &&& BitVec.ofInt IntKind.i64.bits 255).toNat ≤ 255 := by
    rw [BitVec.toNat_and]
    exact Nat.and_le_right
  rw [IntWalk.i64_in _ (by omega)]
  omega
def hAt (b : List Int) : Nat → Int
  | 0 => IntKind.i64.wrap (10101 + (b.length : Int))
  | k + 1 => low (IntKind.i64.wrap (IntKind.i64.wrap (IntKind.i64.wrap (hAt b k * 131) + IntKind.i64.wrap (b.getD k 0)) + 7)) 1073741823
def curN (b : List Int) : Cur := ⟨b, 0, hAt b (min b.length 4000)⟩
theorem l1New_sat (b : List Int) (h : b.length ≤ 9223372036854775807) : Sat Tryz.prog 24 [lBys b] [lCur (curN b)] [g1] := by
  refine sat_of_body mixed Tryz.func24 rfl (by kernel_rfl) (by kernel_rfl) (rs := [.tmp 2]) rfl rfl rfl ?_
  simp -implicitDefEqProofs (maxSteps := 2000000) only [go_sem]
  refine awp_loop Nat (fun k => mkSt [(0, .one (.im 1 (bys b))), (3, .sc (.int .i64 (hAt b k))), (4, .sc (.int .i64 k))] [] [] 2000)
    (fun k => k ≤ b.length ∧ k ≤ 4000) (fun k => b.length - k) 0 ⟨by omega, by omega⟩ (le_st _ _ [] [] _ rfl (by simp -implicitDefEqProofs (maxSteps := 2000000) only [go_sem, hAt] <;> rfl) (by simp -implicitDefEqProofs (maxSteps := 2000000) only [go_sem, hAt] <;> rfl) (by simp -implicitDefEqProofs (maxSteps := 2000000) only [go_sem, hAt] <;> rfl)) ?_
  rintro k ⟨h1, h2⟩
  by_cases c1 : k < b.length
  · by_cases c2 : k < 4000
    · have d2 : decide ((k : Int) < 4000) = true := decide_eq_true (by omega)
      have wk : IntKind.i64.wrap ((k : Int) + 1) = ((k + 1 : Nat) : Int) := i64_succ (by omega)
      simp -implicitDefEqProofs (maxSteps := 2000000) only [go_sem, c1, d2]
      rw [wk]
      exact ⟨k + 1, ⟨c1, by omega⟩, by omega, (le_st _ _ [] [] _ rfl (by simp -implicitDefEqProofs (maxSteps := 2000000) only [go_sem, hAt, low] <;> rfl) (by simp -implicitDefEqProofs (maxSteps := 2000000) only [go_sem, hAt, low] <;> rfl) (by simp -implicitDefEqProofs (maxSteps := 2000000) only [go_sem, hAt, low] <;> rfl))⟩
    · have d2 : decide ((k : Int) < 4000) = false := decide_eq_false (by omega)
      obtain rfl : k = 4000 := by omega
      simp -implicitDefEqProofs (maxSteps := 2000000) only [go_sem, c1, d2]
      rw [curN, Nat.min_eq_right (by omega)]
      first | done | rfl | exact ⟨rfl, rfl⟩ | exact ⟨rfl, rfl, rfl⟩ | (refine tr_and ?_ ?_ <;> first | rfl | exact ⟨rfl, rfl⟩ | kernel_rfl)
  · obtain rfl : k = b.length := by omega
    simp -implicitDefEqProofs (maxSteps := 2000000) only [go_sem, c1]
    rw [curN, Nat.min_eq_left (by omega)]
    first | done | rfl | exact ⟨rfl, rfl⟩ | exact ⟨rfl, rfl, rfl⟩ | (refine tr_and ?_ ?_ <;> first | rfl | exact ⟨rfl, rfl⟩ | kernel_rfl)
def hNext (h : Int) : Int := IntKind.i64.wrap (IntKind.i64.wrap (h * 6364136223846793005) + 1442695040888963407)
def mixB (h : Int) : Int := low (IntKind.i64.wrap ((BitVec.ofInt IntKind.i64.bits (h.fdiv (2 ^ min 33 64)) ^^^ BitVec.ofInt IntKind.i64.bits (h.fdiv (2 ^ min 45 64))).toNat : Int)) 255
def byV (c : Cur) : Int := if c.i < c.b.length then low (IntKind.i64.wrap (mixB (hNext c.h) + IntKind.i64.wrap (c.b.getD c.i 0))) 255 else mixB (hNext c.h)
def byC (c : Cur) : Cur := ⟨c.b, if c.i < c.b.length then c.i + 1 else c.i, hNext c.h⟩
/-- The cursor stands within its bytes. -/
def Cur.ok (c : Cur) : Prop := c.i ≤ c.b.length ∧ c.b.length ≤ 1048576
theorem byC_ok {c : Cur} (h : c.ok) : (byC c).ok := by
  obtain ⟨h1, h2⟩ := h
  refine ⟨?_, h2⟩
  show (if c.i < c.b.length then c.i + 1 else c.i) ≤ c.b.length
  split <;> omega
theorem curN_ok {b : List Int} (h : b.length ≤ 1048576) : (curN b).ok := ⟨Nat.zero_le _, h⟩
theorem byV_lo (c : Cur) : 0 ≤ byV c ∧ byV c ≤ 255 := by
  unfold byV
  split
  · exact low_255 _
  · exact low_255 _
theorem l1Byte_sat (c : Cur) (hc : c.ok) : Sat Tryz.prog 66 [lCur c] [lInt (byV c)] [lCur (byC c)] := by
  refine sat_of_body mixed Tryz.func66 rfl (by kernel_rfl) (by kernel_rfl) (rs := [.tmp 2]) rfl rfl rfl ?_
  rcases c with ⟨b, i, h⟩
  obtain ⟨hi, hb⟩ := hc
  simp only at hi hb
  by_cases c1 : i < b.length
  · have wi : IntKind.i64.wrap ((i : Int) + 1) = ((i + 1 : Nat) : Int) := i64_succ (by omega)
    have e1 : byV ⟨b, i, h⟩ = low (IntKind.i64.wrap (mixB (hNext h) + IntKind.i64.wrap (b.getD i 0))) 255 := if_pos c1
    have e2 : byC ⟨b, i, h⟩ = ⟨b, i + 1, hNext h⟩ := by unfold byC; simp only; rw [if_pos c1]
    rw [e1, e2]
    simp -implicitDefEqProofs (maxSteps := 2000000) only [go_sem, c1, wi]
    exact ⟨rfl, rfl, rfl⟩
  · have e1 : byV ⟨b, i, h⟩ = mixB (hNext h) := if_neg c1
    have e2 : byC ⟨b, i, h⟩ = ⟨b, i, hNext h⟩ := by unfold byC; simp only; rw [if_neg c1]
    rw [e1, e2]
    simp -implicitDefEqProofs (maxSteps := 2000000) only [go_sem, c1]
    exact ⟨rfl, rfl, rfl⟩
/-- Less than this. -/
def beV (c : Cur) (n : Nat) : Nat := (byV c).toNat % n
theorem beV_lt (c : Cur) {n : Nat} (h : 0 < n) : beV c n < n := Nat.mod_lt _ h
theorem l1Below_sat (c : Cur) (n : Nat) (hc : c.ok) (h1 : 0 < n) (h2 : n ≤ 256) : Sat Tryz.prog 60 [lCur c, lInt n] [lInt (beV c n)] [lCur (byC c), g1] := by
  refine sat_of_body mixed Tryz.func60 rfl (by kernel_rfl) (by kernel_rfl) (rs := [.tmp 4]) rfl rfl rfl ?_
  have d1 : decide ((n : Int) ≤ 0) = false := decide_eq_false (by omega)
  have d2 : decide ((n : Int) ≤ 256) = true := decide_eq_true (by omega)
  have hv := byV_lo c
  have e : Int.tmod (byV c) (n : Int) = ((beV c n : Nat) : Int) := by
    obtain ⟨v, hv'⟩ : ∃ v : Nat, byV c = v := ⟨(byV c).toNat, by omega⟩
    unfold beV
    rw [hv', Int.toNat_natCast, ← Int.ofNat_tmod]
  have hn0 : ¬ ((n : Int) = 0) := by omega
  simp -implicitDefEqProofs (maxSteps := 2000000) only [go_sem, d1, d2]
  refine call_of (l1Byte_sat c hc) (by simp -implicitDefEqProofs (maxSteps := 2000000) only [go_sem, e, hn0]) (by kernel_rfl) (by simp -implicitDefEqProofs (maxSteps := 2000000) only [go_sem, e, hn0]) ?_
  simp -implicitDefEqProofs (maxSteps := 2000000) only [go_sem, e, hn0]
  exact ⟨hn0, rfl⟩
theorem l1PickInt_sat (c : Cur) (l : List Int) (hc : c.ok) (h1 : 0 < l.length) (h2 : l.length ≤ 256) : Sat Tryz.prog 59 [lCur c, lInts l] [lInt (l.getD (beV c l.length) 0)] [lCur (byC c), g1] := by
  refine sat_of_body mixed Tryz.func59 rfl (by kernel_rfl) (by kernel_rfl) (rs := [.tmp 4]) rfl rfl rfl ?_
  have hv := beV_lt c h1
  simp -implicitDefEqProofs (maxSteps := 2000000) only [go_sem]
  refine call_of (l1Below_sat c l.length hc h1 h2) (by simp -implicitDefEqProofs (maxSteps := 2000000) only [go_sem, hv]) (by kernel_rfl) (by simp -implicitDefEqProofs (maxSteps := 2000000) only [go_sem, hv]) ?_
  simp -implicitDefEqProofs (maxSteps := 2000000) only [go_sem, hv]
  rfl
/-- The same, of a list that is handed over. -/
theorem l1PickInt_own (c : Cur) (l : List Int) (hc : c.ok) (h1 : 0 < l.length) (h2 : l.length ≤ 256) : Sat Tryz.prog 59 [lCur c, oInts l] [lInt (l.getD (beV c l.length) 0)] [lCur (byC c), g1] := by
  refine sat_of_body mixed Tryz.func59 rfl (by kernel_rfl) (by kernel_rfl) (rs := [.tmp 4]) rfl rfl rfl ?_
  have hv := beV_lt c h1
  simp -implicitDefEqProofs (maxSteps := 2000000) only [go_sem]
  refine call_of (l1Below_sat c l.length hc h1 h2) (by simp -implicitDefEqProofs (maxSteps := 2000000) only [go_sem, hv]) (by kernel_rfl) (by simp -implicitDefEqProofs (maxSteps := 2000000) only [go_sem, hv]) ?_
  simp -implicitDefEqProofs (maxSteps := 2000000) only [go_sem, hv]
  rfl
end Go.Proofs.YtedciihjgbkjgacGreatDoor.A


/- DENIAL CONSTRAINTS: data, validity, violation. Conditions: none. -/
namespace Go.Proofs.YtedciihjgbkjgacGreatDoor.A
open Go
set_option linter.unusedSimpArgs false
set_option linter.unusedVariables false
set_option maxRecDepth 100000

structure Den where
  fr : Int
  sr : Int
  fj : Int
  sj : Int
  fc : Int
  sc : Int
  cp : Int
  deriving DecidableEq
instance : Inhabited Den := ⟨⟨0, 0, 0, 0, 0, 0, 0⟩⟩
def cDen (x : Den) : List Cell := [.sc (.int .i64 x.fr), .sc (.int .i64 x.sr), .sc (.int .i64 x.fj), .sc (.int .i64 x.sj), .sc (.int .i64 x.fc), .sc (.int .i64 x.sc), .sc (.int .i64 x.cp)]
def dens (l : List Den) : Rows := l.map cDen
theorem dens_length (l : List Den) : (dens l).length = l.length := by simp [dens]
theorem dens_get {l : List Den} {i : Nat} (h : i < l.length) : (dens l).getD i [] = [.sc (.int .i64 (l.getD i default).fr), .sc (.int .i64 (l.getD i default).sr), .sc (.int .i64 (l.getD i default).fj), .sc (.int .i64 (l.getD i default).sj), .sc (.int .i64 (l.getD i default).fc), .sc (.int .i64 (l.getD i default).sc), .sc (.int .i64 (l.getD i default).cp)] := get_map default cDen h
theorem dens_frz (l : List Den) : frz (dens l) = dens l := frz_map _ _ (fun _ => rfl) l
theorem dens_rst (l : List Den) : rst (dens l) = dens l := rst_map _ _ (fun _ => rfl) l
theorem dens_stm (n : Nat) (l : List Den) : stm n (dens l) = dens l := stm_map n _ _ (fun _ => rfl) l
theorem dens_flat (l : List Den) : flatB (dens l) = true := by simp [flatB, dens, cDen, Cell.flatB]
theorem dens_take (l : List Den) (k : Nat) : (dens l).take k = dens (l.take k) := by simp [dens]
theorem dens_drop (l : List Den) (k : Nat) : (dens l).drop k = dens (l.drop k) := by simp [dens]
theorem dens_set (l : List Den) (i : Nat) (a b c d e f g : Int) : (dens l).set i [.sc (.int .i64 a), .sc (.int .i64 b), .sc (.int .i64 c), .sc (.int .i64 d), .sc (.int .i64 e), .sc (.int .i64 f), .sc (.int .i64 g)] = dens (l.set i ⟨a, b, c, d, e, f, g⟩) := by simp [dens, List.map_set, cDen]
theorem dens_rep (n : Nat) (a b c d e f g : Int) : List.replicate n [Cell.sc (.int .i64 a), .sc (.int .i64 b), .sc (.int .i64 c), .sc (.int .i64 d), .sc (.int .i64 e), .sc (.int .i64 f), .sc (.int .i64 g)] = dens (List.replicate n ⟨a, b, c, d, e, f, g⟩) := by simp [dens, cDen]
theorem dens_still (l : List Den) : stillRows (dens l) = true := by simp [stillRows, dens, cDen, Cell.still]
attribute [go_sem] dens_length dens_get dens_frz dens_rst dens_stm dens_flat dens_take dens_drop dens_set dens_rep
abbrev lDen (x : Den) : LV := .agg [.sc (.int .i64 x.fr), .sc (.int .i64 x.sr), .sc (.int .i64 x.fj), .sc (.int .i64 x.sj), .sc (.int .i64 x.fc), .sc (.int .i64 x.sc), .sc (.int .i64 x.cp)]
abbrev sDen (x : Den) : List SV := [.sc (.int .i64 x.fr), .sc (.int .i64 x.sr), .sc (.int .i64 x.fj), .sc (.int .i64 x.sj), .sc (.int .i64 x.fc), .sc (.int .i64 x.sc), .sc (.int .i64 x.cp)]
abbrev lDens (l : List Den) : LV := .one (.im 7 (dens l))
abbrev oDens (l : List Den) : LV := .one (.ow 7 (dens l))
abbrev g7 : LV := .agg [.gone, .gone, .gone, .gone, .gone, .gone, .gone]
def szDens (a : List Den) (n : Int) : Int := if n - a.length < 0 then -1 else n - a.length
theorem szDens_ok : SzOk szDens (fun a => a.length ≤ 1048576) := by
  intro a n h
  unfold szDens
  split
  · exact ⟨by omega, fun h => absurd (by omega) h⟩
  · exact ⟨by omega, fun h => by omega⟩
theorem rel_of {l : List Rel} {k : Nat} (h : goodRels l = true) (hk : k < l.length) : (1 ≤ (l.getD k default).ar ∧ (l.getD k default).ar ≤ 3) ∧ 0 ≤ (l.getD k default).kl ∧ (l.getD k default).kl ≤ (l.getD k default).ar := by
  unfold goodRels at h
  rw [Bool.and_eq_true] at h
  have h1 := upTo_at h.1 hk
  unfold relOk goodRel at h1
  simp only [Bool.and_eq_true] at h1
  exact ⟨inB_of h1.1.2.2.2.1, inB_of h1.1.2.2.2.2⟩
theorem db_of {d : Db} (h : goodDb d = true) : goodRels d.rels = true ∧ d.facts.length ≤ 14 ∧ upTo (factOk d) d.facts.length = true := by
  unfold goodDb at h
  simp only [Bool.and_eq_true] at h
  refine ⟨h.1, ?_, h.2.2⟩
  have := of_decide_eq_true h.2.1
  omega
theorem fact_of {d : Db} {k : Nat} (h : goodDb d = true) (hk : k < d.facts.length) : goodFact d.rels (d.facts.getD k default) = true := by
  have h1 := upTo_at (db_of h).2.2 hk
  unfold factOk at h1
  rw [Bool.and_eq_true] at h1
  exact h1.1
theorem fact_at {l : List Rel} {f : RI} (h : goodFact l f = true) : ∃ m : Nat, f.r = m ∧ m < l.length ∧ (f.l.length : Int) = (l.getD m default).ar := by
  unfold goodFact at h
  simp only [Bool.and_eq_true] at h
  obtain ⟨h1, h2⟩ := inB_of h.1
  refine ⟨f.r.toNat, by omega, by omega, eq_of_beq h.2.1⟩

/-! #### valid constraints -/
abbrev arOf (d : Db) (r : Int) : Int := (d.rels.getD r.toNat default).ar
def goodDen (d : Db) (x : Den) : Bool := goodDb d && (inB x.fr 0 ((d.rels.length : Int) - 1) && (inB x.sr 0 ((d.rels.length : Int) - 1) && (inB x.fj 0 (arOf d x.fr - 1) && (inB x.fc 0 (arOf d x.fr - 1) && (inB x.sj 0 (arOf d x.sr - 1) && (inB x.sc 0 (arOf d x.sr - 1) && inB x.cp 1 2))))))
end Go.Proofs.YtedciihjgbkjgacGreatDoor.A


/- RELATIONS AND FACTS DRAWN. Conditions: none. -/
namespace Go.Proofs.YtedciihjgbkjgacGreatDoor.A
open Go
set_option linter.unusedSimpArgs false
set_option linter.unusedVariables false
set_option maxRecDepth 100000

/-! #### lists of texts -/
def cTx (s : ByteArray) : List Cell := [.sc (.string s)]
def txs (l : List ByteArray) : Rows := l.map cTx
theorem txs_length (l : List ByteArray) : (txs l).length = l.length := by simp [txs]
theorem txs_get {l : List ByteArray} {i : Nat} (h : i < l.length) : (txs l).getD i [] = [.sc (.string (l.getD i ⟨#[]⟩))] := get_map (⟨#[]⟩ : ByteArray) cTx h
theorem txs_rst (l : List ByteArray) : rst (txs l) = txs l := rst_map _ _ (fun _ => rfl) l
theorem txs_set (l : List ByteArray) (i : Nat) (s : ByteArray) : (txs l).set i [.sc (.string s)] = txs (l.set i s) := by simp [txs, List.map_set, cTx]
theorem txs_rep (n : Nat) (s : ByteArray) : List.replicate n [Cell.sc (.string s)] = txs (List.replicate n s) := by simp [txs, cTx]
theorem txs_take (l : List ByteArray) (k : Nat) : (txs l).take k = txs (l.take k) := by simp [txs]
attribute [go_sem] txs_length txs_rst txs_set txs_rep txs_take
abbrev oTxs (l : List ByteArray) : LV := .one (.ow 1 (txs l))
theorem l1Pick_own (c : Cur) (l : List ByteArray) (hc : c.ok) (h1 : 0 < l.length) (h2 : l.length ≤ 256) : Sat Tryz.prog 29 [lCur c, oTxs l] [lStr (l.getD (beV c l.length) ⟨#[]⟩)] [lCur (byC c), g1] := by
  refine sat_of_body mixed Tryz.func29 rfl (by kernel_rfl) (by kernel_rfl) (rs := [.tmp 4]) rfl rfl rfl ?_
  have hv := beV_lt c h1
  have e := txs_get hv
  simp -implicitDefEqProofs (maxSteps := 2000000) only [go_sem]
  refine call_of (l1Below_sat c l.length hc h1 h2) (by simp -implicitDefEqProofs (maxSteps := 2000000) only [go_sem, hv, e]) (by kernel_rfl) (by simp -implicitDefEqProofs (maxSteps := 2000000) only [go_sem, hv, e]) ?_
  simp -implicitDefEqProofs (maxSteps := 2000000) only [go_sem, hv, e]
  rfl

/-! #### relations -/
def sigL : List Int := [1, 1, 2, 0]
def sigK (c : Cur) : Int := sigL.getD (beV c 4) 0
def sigU (c : Cur) : Int := 1 + ((beV c 2 : Nat) : Int)
def sigR (a b : Int) : List Rel := [⟨⟨#[114]⟩, 2, 1⟩, ⟨⟨#[115]⟩, 2, 1⟩, ⟨⟨#[116]⟩, 2, a⟩, ⟨⟨#[117]⟩, 3, b⟩]
def sigs (c : Cur) : List Rel := sigR (sigK c) (sigU (byC c))
theorem l2Sigs_sat (c : Cur) (hc : c.ok) : Sat Tryz.prog 25 [lCur c] [oRels (sigs c)] [lCur (byC (byC c))] := by
  refine sat_of_body mixed Tryz.func25 rfl (by kernel_rfl) (by kernel_rfl) (rs := [.tmp 2]) rfl rfl rfl ?_
  have eL : ((((List.replicate 4 (0 : Int)).set 0 1).set 1 1).set 2 2).set 3 0 = sigL := rfl
  have el : sigL.length = 4 := rfl
  have hb := beV_lt (byC c) (n := 2) (by decide)
  have w : IntKind.i64.wrap (1 + ((beV (byC c) 2 : Nat) : Int)) = sigU (byC c) := IntWalk.i64_in _ (by omega)
  simp -implicitDefEqProofs (maxSteps := 2000000) only [go_sem]
  refine call_of (l1PickInt_own c sigL hc (by decide) (by decide)) (by simp -implicitDefEqProofs (maxSteps := 2000000) only [go_sem, eL, el]) (by kernel_rfl) (by simp -implicitDefEqProofs (maxSteps := 2000000) only [go_sem, eL, el]) ?_
  simp -implicitDefEqProofs (maxSteps := 2000000) only [go_sem, eL, el]
  refine call_of (l1Below_sat (byC c) 2 (byC_ok hc) (by decide) (by decide)) (by simp -implicitDefEqProofs (maxSteps := 2000000) only [go_sem, w] <;> and_intros <;> rfl) (by kernel_rfl) (by simp -implicitDefEqProofs (maxSteps := 2000000) only [go_sem, w]) ?_
  simp -implicitDefEqProofs (maxSteps := 2000000) only [go_sem, w]
  exact ⟨rfl, rfl⟩
def anyN : List ByteArray := [⟨#[114]⟩, ⟨#[122]⟩, ⟨#[97]⟩, ⟨#[]⟩, ⟨#[82]⟩, ⟨#[97, 98]⟩]
theorem anyN_ok : ∀ i : Fin 6, (anyN.getD i.val ⟨#[]⟩).size ≤ 2 := by decide
def anyR (c : Cur) : Rel := ⟨anyN.getD (beV c 6) ⟨#[]⟩, ((beV (byC c) 6 : Nat) : Int) - 1, ((beV (byC (byC c)) 5 : Nat) : Int) - 1⟩
def drawN (c : Cur) (v : Nat) : Nat → List Int × Cur
  | 0 => ([], c)
  | k + 1 => ((drawN c v k).1 ++ [((beV (drawN c v k).2 v : Nat) : Int)], byC (drawN c v k).2)
theorem drawN_len (c : Cur) (v : Nat) : ∀ k, (drawN c v k).1.length = k
  | 0 => rfl
  | k + 1 => by rw [drawN, List.length_append, drawN_len c v k]; rfl
theorem drawN_ok {c : Cur} (h : c.ok) (v : Nat) : ∀ k, (drawN c v k).2.ok
  | 0 => h
  | k + 1 => byC_ok (drawN_ok h v k)
def factA (c : Cur) (l : List Rel) : Nat := (l.getD (beV c l.length) default).ar.toNat
def factD (c : Cur) (l : List Rel) (v : Nat) : RI := ⟨((beV c l.length : Nat) : Int), (drawN (byC c) v (factA c l)).1⟩
def factC (c : Cur) (l : List Rel) (v : Nat) : Cur := (drawN (byC c) v (factA c l)).2
theorem factC_ok {c : Cur} (h : c.ok) (l : List Rel) (v : Nat) : (factC c l v).ok := drawN_ok (byC_ok h) v _
theorem factD_len (c : Cur) (l : List Rel) (v : Nat) : (factD c l v).l.length = factA c l := drawN_len _ _ _
abbrev zRI : List SV := [.sc (.int .i64 0), .sc (.slice none 0 0)]
end Go.Proofs.YtedciihjgbkjgacGreatDoor.A


/- A QUERY READ FROM A TEXT: the reference. Conditions: none. -/
namespace Go.Proofs.YtedciihjgbkjgacGreatDoor.A
open Go
set_option linter.unusedSimpArgs false
set_option linter.unusedVariables false
set_option maxRecDepth 100000

/-! #### a text cut at a sign -/
abbrev byA (s : ByteArray) (i : Nat) : Nat := (s.data.toList.getD i 0).toNat
def splA (s : ByteArray) (c : Nat) : Nat → Nat
  | 0 => 0
  | i + 1 => if byA s i = c then i + 1 else splA s c i
def splO (s : ByteArray) (c : Nat) : Nat → List ByteArray
  | 0 => []
  | i + 1 => if byA s i = c then splO s c i ++ [s.extract (splA s c i) i] else splO s c i
def splS (s : ByteArray) (c : Nat) : List ByteArray := splO s c s.size ++ [s.extract (splA s c s.size) s.size]
theorem splA_le (s : ByteArray) (c : Nat) : ∀ i, splA s c i ≤ i
  | 0 => Nat.le_refl _
  | i + 1 => by
    have := splA_le s c i
    rw [splA]; split <;> omega
theorem splO_len (s : ByteArray) (c : Nat) : ∀ i, (splO s c i).length ≤ i
  | 0 => Nat.le_refl _
  | i + 1 => by
    have := splO_len s c i
    rw [splO]; split
    · rw [List.length_append, List.length_singleton]; omega
    · omega
theorem splS_len (s : ByteArray) (c : Nat) : (splS s c).length ≤ s.size + 1 := by
  have := splO_len s c s.size
  unfold splS
  rw [List.length_append, List.length_singleton]; omega
theorem ext_size (s : ByteArray) (a b : Nat) : (s.extract a b).size ≤ s.size := by
  rw [ByteArray.size_extract]; omega
theorem splO_mem (s : ByteArray) (c : Nat) : ∀ (i : Nat), ∀ x ∈ splO s c i, x.size ≤ s.size
  | 0, x, hx => by cases hx
  | i + 1, x, hx => by
    rw [splO] at hx
    split at hx
    · rcases List.mem_append.mp hx with h | h
      · exact splO_mem s c i x h
      · rw [List.mem_singleton.mp h]; exact ext_size _ _ _
    · exact splO_mem s c i x hx
theorem splS_mem (s : ByteArray) (c : Nat) : ∀ x ∈ splS s c, x.size ≤ s.size := by
  intro x hx
  rcases List.mem_append.mp hx with h | h
  · exact splO_mem s c _ x h
  · rw [List.mem_singleton.mp h]; exact ext_size _ _ _
theorem txs_one (s : ByteArray) : [[Cell.sc (.string s)]] = txs [s] := rfl
theorem txs_append (a b : List ByteArray) : txs a ++ txs b = txs (a ++ b) := by simp [txs]
theorem txs_flat (a : List ByteArray) : flatB (txs a) = true := by simp [flatB, txs, cTx, Cell.flatB]
theorem txs_stm (n : Nat) (a : List ByteArray) : stm n (txs a) = txs a := stm_map n _ _ (fun _ => rfl) a
theorem txs_still (a : List ByteArray) : stillRows (txs a) = true := by simp [stillRows, txs, cTx, Cell.still]
theorem txs_nil : txs [] = [] := rfl
attribute [go_sem] txs_append txs_flat txs_stm
theorem repP {α : Type} (a : α) : List.replicate 1 a = [a] := rfl
theorem u8_eq {a b : Nat} : (((a : Nat) : Int) == ((b : Nat) : Int)) = decide (a = b) := by
  rw [Bool.eq_iff_iff, beq_iff_eq, decide_eq_true_iff]; omega
theorem l6Cut_sat (s : ByteArray) (c : Nat) (h : s.size ≤ 1048576) : Sat Tryz.prog 31 [lStr s, .one (.sc (.int .u8 c))] [.one (.ow 1 (txs (splS s c)))] [g1, g1] := by
  refine sat_of_body mixed Tryz.func31 rfl (by kernel_rfl) (by kernel_rfl) (rs := [.tmp 4]) rfl rfl rfl ?_
  simp -implicitDefEqProofs (maxSteps := 2000000) only [go_sem]
  refine awp_loop Nat (fun i => mkSt [(0, .sc (.string s)), (1, .sc (.int .u8 c)), (5, .one (.ref 960 1 0 (splO s c i).length)), (6, .sc (.int .i64 (splA s c i))), (7, .sc (.int .i64 i))] [] [(960, (1, txs (splO s c i)))] 4000)
    (fun i => i ≤ s.size) (fun i => s.size - i) 0 (by omega) (le_st' _ _ [⟨960, some _, false, 1, _⟩] [] _ (by simp -implicitDefEqProofs (maxSteps := 2000000) only [go_sem, splO, splA, txs_nil, List.length_nil] <;> and_intros <;> rfl) (by simp -implicitDefEqProofs (maxSteps := 2000000) only [go_sem, splO, splA, txs_nil, List.length_nil] <;> and_intros <;> rfl) (by simp -implicitDefEqProofs (maxSteps := 2000000) only [go_sem, splO, splA, txs_nil, List.length_nil] <;> and_intros <;> rfl) (by rfl)) ?_
  rintro i h1
  have hl := splO_len s c i
  have ha := splA_le s c i
  by_cases c1 : i < s.size
  · have wi : IntKind.i64.wrap ((i : Int) + 1) = ((i + 1 : Nat) : Int) := i64_succ (by omega)
    rcases d : decide (byA s i = c)
    · have e1 : splO s c (i + 1) = splO s c i := by rw [splO, if_neg (of_decide_eq_false d)]
      have e2 : splA s c (i + 1) = splA s c i := by rw [splA, if_neg (of_decide_eq_false d)]
      simp -implicitDefEqProofs (maxSteps := 2000000) only [go_sem, c1, u8_eq, d, wi]
      exact ⟨i + 1, c1, by omega, (le_st' _ _ [⟨960, some _, false, 1, _⟩] [] _ (by simp -implicitDefEqProofs (maxSteps := 2000000) only [go_sem, e1, e2] <;> and_intros <;> rfl) (by simp -implicitDefEqProofs (maxSteps := 2000000) only [go_sem, e1, e2] <;> and_intros <;> rfl) (by simp -implicitDefEqProofs (maxSteps := 2000000) only [go_sem, e1, e2] <;> and_intros <;> rfl) (by rfl))⟩
    · have e1 : splO s c (i + 1) = splO s c i ++ [s.extract (splA s c i) i] := by rw [splO, if_pos (of_decide_eq_true d)]
      have e2 : splA s c (i + 1) = i + 1 := by rw [splA, if_pos (of_decide_eq_true d)]
      simp -implicitDefEqProofs (maxSteps := 2000000) only [go_sem, c1, u8_eq, d, wi]
      repeat (refine And.intro (by omega) ?_)
      exact ⟨i + 1, c1, by omega, (le_st' _ _ [⟨960, some _, false, 1, _⟩] [] _ (by simp -implicitDefEqProofs (maxSteps := 2000000) only [go_sem, e1, e2, repP, List.set_cons_zero] <;> and_intros <;> rfl) (by simp -implicitDefEqProofs (maxSteps := 2000000) only [go_sem, e1, e2, repP, List.set_cons_zero] <;> and_intros <;> rfl) (by simp -implicitDefEqProofs (maxSteps := 2000000) only [go_sem, e1, e2, repP, List.set_cons_zero] <;> and_intros <;> rfl) (by rfl))⟩
  · obtain rfl : i = s.size := by omega
    simp -implicitDefEqProofs (maxSteps := 2000000) only [go_sem, c1]
    repeat (refine And.intro (by omega) ?_)
    exact ⟨rfl, rfl⟩
/-! #### where a name stands -/
def nameNo (l : List Rel) (s : ByteArray) (i : Nat) : Bool := !decide ((l.getD i default).name = s)
def relIx (l : List Rel) (s : ByteArray) : Int := firstNo (nameNo l s) l.length 0
theorem specRelationIndex_sat (l : List Rel) (s : ByteArray) (h : l.length ≤ 9223372036854775807) : Sat Tryz.prog 33 [lRels l, lStr s] [lInt (relIx l s)] [g1, g1] := by
  refine sat_of_body mixed Tryz.func33 rfl (by kernel_rfl) (by kernel_rfl) (rs := [.tmp 4]) rfl rfl rfl ?_
  unfold relIx
  generalize hp : nameNo l s = p
  have hp' : ∀ i, p i = !decide ((l.getD i default).name = s) := fun i => by rw [← hp]; rfl
  simp -implicitDefEqProofs (maxSteps := 2000000) only [go_sem]
  refine awp_loop Nat (fun k => mkSt [(0, .one (.im 3 (rels l))), (1, .sc (.string s)), (5, .sc (.int .i64 k))] [] [] 3000)
    (fun k => k ≤ l.length ∧ firstNo p (l.length - k) k = firstNo p l.length 0) (fun k => l.length - k) 0 ⟨by omega, by rw [Nat.sub_zero]⟩ (le_st _ _ [] [] _ rfl (by simp -implicitDefEqProofs (maxSteps := 2000000) only [go_sem] <;> rfl) trivial trivial) ?_
  rintro k ⟨h1, h2⟩
  by_cases c1 : k < l.length
  · rw [show l.length - k = (l.length - (k + 1)) + 1 by omega, firstNo, hp'] at h2
    rcases e : decide ((l.getD k default).name = s)
    · rw [e, Bool.not_false, if_pos rfl] at h2
      simp -implicitDefEqProofs (maxSteps := 2000000) only [go_sem, c1, e]
      rw [i64_succ (by omega)]
      exact ⟨k + 1, ⟨c1, h2⟩, by omega, (le_st _ _ [] [] _ rfl (by simp -implicitDefEqProofs (maxSteps := 2000000) only [go_sem] <;> rfl) trivial trivial)⟩
    · rw [e, Bool.not_true, if_neg (by simp)] at h2
      simp -implicitDefEqProofs (maxSteps := 2000000) only [go_sem, c1, e]
      rw [← h2]
  · obtain rfl : k = l.length := by omega
    rw [Nat.sub_self, firstNo] at h2
    simp -implicitDefEqProofs (maxSteps := 2000000) only [go_sem, c1]
    rw [← h2]
/-! #### the parts of a query's text -/
def t1 (s : ByteArray) (i : Nat) : Int := (pT (s.extract i (i + 1))).1
def freeT (w : ByteArray) : Nat → List Int
  | 0 => []
  | i + 1 => freeT w i ++ [t1 w i]
def skipT (p : ByteArray) (k : Nat) : Bool := decide (k = 0) || decide (byA p k = 124)
def wordT (p : ByteArray) : Nat → List Int
  | 0 => []
  | k + 1 => if skipT p k then wordT p k else wordT p k ++ [t1 p k]
def wordV (p : ByteArray) (m : Int) : Nat → Int
  | 0 => m
  | k + 1 => if skipT p k then wordV p m k else if t1 p k + 1 > wordV p m k then t1 p k + 1 else wordV p m k
def wordR (l : List Rel) (p : ByteArray) : Nat → Int
  | 0 => 0
  | k + 1 => if k = 0 then relIx l (p.extract 0 1) else wordR l p k
def wordA (l : List Rel) (p : ByteArray) : RI := ⟨wordR l p p.size, wordT p p.size⟩
def allV (ps : List ByteArray) : Nat → Int
  | 0 => 0
  | i + 1 => wordV (ps.getD i ⟨#[]⟩) (allV ps i) (ps.getD i ⟨#[]⟩).size
def allA (l : List Rel) (ps : List ByteArray) (n : Nat) : List RI := (ps.take n).map (wordA l)
def readQ (l : List Rel) (s : ByteArray) : Qu := ⟨allV (splS ((splS s 63).getD 1 ⟨#[]⟩) 32) (splS ((splS s 63).getD 1 ⟨#[]⟩) 32).length, allA l (splS ((splS s 63).getD 1 ⟨#[]⟩) 32) (splS ((splS s 63).getD 1 ⟨#[]⟩) 32).length, freeT ((splS s 63).getD 0 ⟨#[]⟩) ((splS s 63).getD 0 ⟨#[]⟩).size⟩
def noQ : Qu := ⟨0, [], []⟩
def okQ (l : List Rel) (s : ByteArray) : Bool := decide ((splS s 63).length = 2) && decide (quText l (readQ l s) = s)
def parQ (l : List Rel) (s : ByteArray) : Qu := if okQ l s then readQ l s else noQ
theorem freeT_len (w : ByteArray) : ∀ i, (freeT w i).length = i
  | 0 => rfl
  | i + 1 => by rw [freeT, List.length_append, freeT_len w i]; rfl
theorem wordT_len (p : ByteArray) : ∀ i, (wordT p i).length ≤ i
  | 0 => Nat.le_refl _
  | i + 1 => by
    have := wordT_len p i
    rw [wordT]; split
    · omega
    · rw [List.length_append, List.length_singleton]; omega
theorem pT_lo (s : ByteArray) : -10 ≤ (pT s).1 ∧ (pT s).1 ≤ 3 := by
  unfold pT
  split
  · unfold p1
    split
    · simp
    split
    · simp
    split
    · simp
    split
    · simp
    split
    · simp only; omega
    · simp
  · simp
theorem wordV_lo {p : ByteArray} {m : Int} (h : 0 ≤ m ∧ m ≤ 4) : ∀ k, 0 ≤ wordV p m k ∧ wordV p m k ≤ 4
  | 0 => h
  | k + 1 => by
    have h1 := wordV_lo (p := p) h k
    have h2 := pT_lo (p.extract k (k + 1))
    rw [wordV]; split
    · exact h1
    · unfold t1; split <;> omega
theorem allV_lo (ps : List ByteArray) : ∀ i, 0 ≤ allV ps i ∧ allV ps i ≤ 4
  | 0 => by simp [allV]
  | i + 1 => wordV_lo (allV_lo ps i) _
theorem splO_lt (s : ByteArray) (c : Nat) : ∀ (i : Nat), ∀ x ∈ splO s c i, x.size + 1 ≤ i
  | 0, x, hx => by cases hx
  | i + 1, x, hx => by
    rw [splO] at hx
    split at hx
    · rcases List.mem_append.mp hx with h | h
      · have := splO_lt s c i x h; omega
      · rw [List.mem_singleton.mp h, ByteArray.size_extract]; omega
    · have := splO_lt s c i x hx; omega
theorem splA_pos (s : ByteArray) (c : Nat) : ∀ (i : Nat), splO s c i ≠ [] → 1 ≤ splA s c i
  | 0, h => absurd rfl h
  | i + 1, h => by
    rw [splO] at h
    rw [splA]
    split
    · omega
    · rename_i e
      rw [if_neg e] at h
      exact splA_pos s c i h
theorem splS_lt {s : ByteArray} {c : Nat} (h : 2 ≤ (splS s c).length) : ∀ x ∈ splS s c, x.size + 1 ≤ s.size := by
  intro x hx
  have hne : splO s c s.size ≠ [] := by
    intro e
    unfold splS at h
    rw [e] at h
    simp at h
  have h1 := splA_pos s c s.size hne
  have h2 := splA_le s c s.size
  rcases List.mem_append.mp hx with hx | hx
  · exact splO_lt s c _ x hx
  · rw [List.mem_singleton.mp hx, ByteArray.size_extract]; omega
theorem readQ_ok {l : List Rel} {s : ByteArray} (h : s.size ≤ 1048576) : (readQ l s).ok := by
  have m1 : ∀ i, ((splS s 63).getD i ⟨#[]⟩).size ≤ s.size := by
    intro i
    rcases Nat.lt_or_ge i (splS s 63).length with hi | hi
    · exact splS_mem s 63 _ (mem_getD (⟨#[]⟩ : ByteArray) hi)
    · rw [List.getD_eq_getElem?_getD, List.getElem?_eq_none hi]; exact Nat.zero_le _
  have a0 := m1 0
  have a1 : ((splS s 63).getD 1 ⟨#[]⟩).size + 1 ≤ 1048576 := by
    rcases Nat.lt_or_ge 1 (splS s 63).length with hi | hi
    · have := splS_lt hi _ (mem_getD (⟨#[]⟩ : ByteArray) hi); omega
    · rw [List.getD_eq_getElem?_getD, List.getElem?_eq_none hi]; decide
  unfold readQ Qu.ok
  generalize (splS s 63).getD 1 ⟨#[]⟩ = w at a1
  have b1 := splS_len w 32
  refine ⟨⟨?_, fun x hx => ?_⟩, ?_⟩
  · show (allA l (splS w 32) (splS w 32).length).length ≤ _
    unfold allA
    rw [List.length_map, List.length_take]; omega
  · unfold allA at hx
    obtain ⟨p, hp, rfl⟩ := List.mem_map.mp hx
    have b2 := splS_mem w 32 p (List.mem_of_mem_take hp)
    have b3 := wordT_len p p.size
    unfold RI.ok wordA
    simp only
    omega
  · show (freeT _ _).length ≤ _
    rw [freeT_len]; omega
theorem wordA_step {l : List Rel} {ps : List ByteArray} {k : Nat} (h : k < ps.length) : allA l ps (k + 1) = allA l ps k ++ [wordA l (ps.getD k ⟨#[]⟩)] := by
  unfold allA
  rw [take_snoc (⟨#[]⟩ : ByteArray) h, List.map_append]; rfl
theorem allA_len (l : List Rel) (ps : List ByteArray) {k : Nat} (h : k ≤ ps.length) : (allA l ps k).length = k := by
  unfold allA
  rw [List.length_map, List.length_take]; omega
abbrev zQ3 : List SV := [.sc (.int .i64 0), .sc (.slice none 0 0), .sc (.slice none 0 0)]
set_option maxHeartbeats 8000000 in
theorem specParseQuery_sat (l : List Rel) (s : ByteArray) (hl : l.length ≤ 9223372036854775807) (h : s.size ≤ 1048576) : Sat Tryz.prog 9 [lRels l, lStr s] [oQu (parQ l s), lBool (okQ l s)] [g1, g1] := by
  refine sat_of_body mixed Tryz.func9 rfl (by kernel_rfl) (by kernel_rfl) (rs := [.cell 4 28, .tmp 5]) rfl rfl rfl ?_
  have hq := readQ_ok (l := l) h
  have hcl := splS_len s 63
  by_cases h2 : (splS s 63).length = 2
  case neg =>
    have e1 : parQ l s = noQ := by rw [parQ, okQ, decide_eq_false h2]; rfl
    have e2 : okQ l s = false := by rw [okQ, decide_eq_false h2]; rfl
    have d2 : ((((splS s 63).length : Nat) : Int) != 2) = true := by rw [bne_iff_ne]; omega
    rw [e1, e2]
    simp -implicitDefEqProofs (maxSteps := 2000000) only [go_sem]
    refine call_of (l6Cut_sat s 63 (by omega)) (by simp -implicitDefEqProofs (maxSteps := 2000000) only [go_sem, d2] <;> and_intros <;> rfl) (by kernel_rfl) (by simp -implicitDefEqProofs (maxSteps := 2000000) only [go_sem, d2]) ?_
    simp -implicitDefEqProofs (maxSteps := 2000000) only [go_sem, d2]
    and_intros <;> rfl
  have d2 : (((2 : Nat) : Int) != 2) = false := rfl
  have hrd : readQ l s = readQ l s := rfl
  obtain ⟨w0, w1, hw⟩ : ∃ w0 w1, splS s 63 = [w0, w1] := by
    rcases e : splS s 63 with _ | ⟨a, _ | ⟨b, _ | ⟨c, r⟩⟩⟩
    · rw [e] at h2; simp at h2
    · rw [e] at h2; simp at h2
    · exact ⟨a, b, rfl⟩
    · rw [e] at h2; simp at h2
  have hs0 : w0.size ≤ s.size := splS_mem s 63 w0 (by rw [hw]; simp)
  have hs1 : w1.size ≤ s.size := splS_mem s 63 w1 (by rw [hw]; simp)
  have s1 := l6Cut_sat s 63 (by omega)
  rw [hw] at s1
  have hR : readQ l s = ⟨allV (splS w1 32) (splS w1 32).length, allA l (splS w1 32) (splS w1 32).length, freeT w0 w0.size⟩ := by unfold readQ; rw [hw]; rfl
  have hpl := splS_len w1 32
  have hpm := splS_mem w1 32
  have e0 : (txs [w0, w1]).getD 0 [] = [.sc (.string w0)] := rfl
  have e1 : (txs [w0, w1]).getD 1 [] = [.sc (.string w1)] := rfl
  have e2 : okQ l s = decide (quText l (readQ l s) = s) := by rw [okQ, decide_eq_true h2, Bool.true_and]
  have s2 := l6Cut_sat w1 32 (by omega)
  rw [parQ, e2]
  rw [hR] at hq ⊢
  generalize splS w1 32 = ps at hpl hpm s2 hq ⊢
  simp -implicitDefEqProofs (maxSteps := 2000000) only [go_sem]
  refine call_of (s1) (by simp -implicitDefEqProofs (maxSteps := 2000000) only [go_sem, d2] <;> and_intros <;> rfl) (by kernel_rfl) (by simp -implicitDefEqProofs (maxSteps := 2000000) only [go_sem, d2]) ?_
  simp -implicitDefEqProofs (maxSteps := 2000000) only [go_sem, d2]
  refine awp_loop Nat (fun i => mkSt [(0, .one (.im 3 (rels l))), (1, .sc (.string s)), (4, .one (.vad 1000 0)), (5, .sc (.bool false)), (6, .one (.ref 960 1 0 2)), (7, .one (.vad 1576 0)), (8, .sc (.int .i64 i))] [(1000, zQ3), (1576, [.sc (.int .i64 0), .sc (.slice none 0 0), .ref 961 1 0 i])] [(960, (1, txs [w0, w1])), (961, (1, ints (freeT w0 i)))] 4000)
    (fun i => i ≤ w0.size) (fun i => w0.size - i) 0 (by omega) (le_st' _ _ [⟨960, some _, false, 1, _⟩, ⟨961, none, false, 1, _⟩] [] _ (by simp -implicitDefEqProofs (maxSteps := 2000000) only [go_sem, freeT, ints_nil] <;> and_intros <;> rfl) (by simp -implicitDefEqProofs (maxSteps := 2000000) only [go_sem, freeT, ints_nil] <;> and_intros <;> rfl) (by simp -implicitDefEqProofs (maxSteps := 2000000) only [go_sem, freeT, ints_nil] <;> and_intros <;> rfl) (by rfl)) ?_
  rintro i h1
  have hfl := freeT_len w0 i
  by_cases c1 : i < w0.size
  · have wi : IntKind.i64.wrap ((i : Int) + 1) = ((i + 1 : Nat) : Int) := i64_succ (by omega)
    have hc1 : i + 1 ≤ w0.size := c1
    have hst : freeT w0 (i + 1) = freeT w0 i ++ [t1 w0 i] := rfl
    simp -implicitDefEqProofs (maxSteps := 2000000) only [go_sem, e0, c1, wi, hc1, Nat.le_add_right]
    refine call_of (specParseTerm_sat (w0.extract i (i + 1))) (by simp -implicitDefEqProofs (maxSteps := 2000000) only [go_sem]) (by kernel_rfl) (by simp -implicitDefEqProofs (maxSteps := 2000000) only [go_sem]) ?_
    simp -implicitDefEqProofs (maxSteps := 2000000) only [go_sem]
    repeat (refine And.intro (by omega) ?_)
    rw [show (pT (w0.extract i (i + 1))).1 = t1 w0 i from rfl, wi]
    refine ⟨i + 1, c1, by omega, ?_⟩
    rw [hst]
    exact (le_st' _ _ [⟨960, some _, false, 1, _⟩, ⟨961, some _, false, 1, _⟩] [] _ (by simp -implicitDefEqProofs (maxSteps := 2000000) only [go_sem, hfl, repP, List.set_cons_zero] <;> and_intros <;> rfl) (by simp -implicitDefEqProofs (maxSteps := 2000000) only [go_sem, hfl, repP, List.set_cons_zero] <;> and_intros <;> rfl) (by simp -implicitDefEqProofs (maxSteps := 2000000) only [go_sem, hfl, repP, List.set_cons_zero] <;> and_intros <;> rfl) (by rfl))
  obtain rfl : i = w0.size := by omega
  simp -implicitDefEqProofs (maxSteps := 2000000) only [go_sem, e0, e1, c1]
  refine call_of (s2) (by simp -implicitDefEqProofs (maxSteps := 2000000) only [go_sem] <;> and_intros <;> rfl) (by kernel_rfl) (by simp -implicitDefEqProofs (maxSteps := 2000000) only [go_sem]) ?_
  simp -implicitDefEqProofs (maxSteps := 2000000) only [go_sem]
  have hA := fun k (hk : k ≤ ps.length) => allA_len l ps hk
  refine awp_loop Nat (fun i => mkSt [(0, .one (.im 3 (rels l))), (1, .sc (.string s)), (4, .one (.vad 1000 0)), (5, .sc (.bool false)), (7, .one (.vad 1576 0)), (11, .one (.ref 960 1 0 ps.length)), (12, .sc (.int .i64 i))] [(1000, zQ3), (1576, [.sc (.int .i64 (allV ps i)), .ref 962 2 0 i, .ref 961 1 0 w0.size])] [(960, (1, txs ps)), (961, (1, ints (freeT w0 w0.size))), (962, (2, ris 999 (allA l ps i)))] 20000)
    (fun i => i ≤ ps.length) (fun i => ps.length - i) 0 (by omega) (le_st' _ _ [⟨960, some _, false, 1, _⟩, ⟨961, some _, false, 1, _⟩, ⟨962, none, false, 2, _⟩] [] _ (by simp -implicitDefEqProofs (maxSteps := 2000000) only [go_sem, hfl, allV, allA, List.take_zero, List.map_nil, ris_nil] <;> and_intros <;> rfl) (by simp -implicitDefEqProofs (maxSteps := 2000000) only [go_sem, hfl, allV, allA, List.take_zero, List.map_nil, ris_nil] <;> and_intros <;> rfl) (by simp -implicitDefEqProofs (maxSteps := 2000000) only [go_sem, hfl, allV, allA, List.take_zero, List.map_nil, ris_nil] <;> and_intros <;> rfl) (by rfl)) ?_
  rintro i h3
  have hAi := hA i h3
  have hVi := allV_lo ps i
  by_cases c2 : i < ps.length
  · have wi : IntKind.i64.wrap ((i : Int) + 1) = ((i + 1 : Nat) : Int) := i64_succ (by omega)
    have hstA := wordA_step (l := l) c2
    have hstV : allV ps (i + 1) = wordV (ps.getD i ⟨#[]⟩) (allV ps i) (ps.getD i ⟨#[]⟩).size := rfl
    have hpz := hpm _ (mem_getD (⟨#[]⟩ : ByteArray) c2)
    have eg := txs_get c2
    have hwA : wordA l (ps.getD i ⟨#[]⟩) = ⟨wordR l (ps.getD i ⟨#[]⟩) (ps.getD i ⟨#[]⟩).size, wordT (ps.getD i ⟨#[]⟩) (ps.getD i ⟨#[]⟩).size⟩ := rfl
    rw [hwA] at hstA
    clear hwA
    generalize ps.getD i ⟨#[]⟩ = p at hstA hstV hpz eg
    generalize allV ps i = m0 at hVi hstV
    simp -implicitDefEqProofs (maxSteps := 2000000) only [go_sem, c2, eg]
    refine awp_loop Nat (fun k => mkSt [(0, .one (.im 3 (rels l))), (1, .sc (.string s)), (4, .one (.vad 1000 0)), (5, .sc (.bool false)), (7, .one (.vad 1576 0)), (11, .one (.ref 960 1 0 ps.length)), (12, .sc (.int .i64 i)), (13, .one (.vad 20320 0)), (14, .sc (.int .i64 k))] [(1000, zQ3), (1576, [.sc (.int .i64 (wordV p m0 k)), .ref 962 2 0 i, .ref 961 1 0 w0.size]), (20320, [.sc (.int .i64 (wordR l p k)), .ref 963 1 0 (wordT p k).length])] [(960, (1, txs ps)), (961, (1, ints (freeT w0 w0.size))), (962, (2, ris 999 (allA l ps i))), (963, (1, ints (wordT p k)))] 40000)
      (fun k => k ≤ p.size) (fun k => p.size - k) 0 (by omega) (le_st' _ _ [⟨960, some _, false, 1, _⟩, ⟨961, some _, false, 1, _⟩, ⟨962, some _, false, 2, _⟩, ⟨963, none, false, 1, _⟩] [] _ (by simp -implicitDefEqProofs (maxSteps := 2000000) only [go_sem, wordV, wordR, wordT, ints_nil, List.length_nil] <;> and_intros <;> rfl) (by simp -implicitDefEqProofs (maxSteps := 2000000) only [go_sem, wordV, wordR, wordT, ints_nil, List.length_nil] <;> and_intros <;> rfl) (by simp -implicitDefEqProofs (maxSteps := 2000000) only [go_sem, wordV, wordR, wordT, ints_nil, List.length_nil] <;> and_intros <;> rfl) (by rfl)) ?_
    rintro k h4
    have hTl := wordT_len p k
    have hVk := wordV_lo (p := p) hVi k
    by_cases c3 : k < p.size
    · have wk : IntKind.i64.wrap ((k : Int) + 1) = ((k + 1 : Nat) : Int) := i64_succ (by omega)
      have c4 : k + 1 ≤ p.size := c3
      by_cases k0 : k = 0
      · have d0 : (((k : Nat) : Int) == 0) = true := by rw [k0]; rfl
        have hp1 : 1 ≤ p.size := by omega
        have hs : skipT p k = true := by unfold skipT; rw [decide_eq_true k0]; rfl
        have q1 : wordV p m0 (k + 1) = wordV p m0 k := by rw [wordV, if_pos hs]
        have q2 : wordT p (k + 1) = wordT p k := by rw [wordT, if_pos hs]
        have q3 : wordR l p (k + 1) = relIx l (p.extract 0 1) := by rw [wordR, if_pos k0]
        simp -implicitDefEqProofs (maxSteps := 2000000) only [go_sem, c2, eg, c3, d0, hp1]
        repeat (refine And.intro (by first | omega | decide) ?_)
        simp -implicitDefEqProofs (maxSteps := 2000000) only [go_sem]
        refine call_of (specRelationIndex_sat l (p.extract 0 1) hl) (by simp -implicitDefEqProofs (maxSteps := 2000000) only [go_sem]) (by kernel_rfl) (by simp -implicitDefEqProofs (maxSteps := 2000000) only [go_sem]) ?_
        simp -implicitDefEqProofs (maxSteps := 2000000) only [go_sem]
        rw [wk]
        exact ⟨k + 1, c3, by omega, (le_st' _ _ [⟨960, some _, false, 1, _⟩, ⟨961, some _, false, 1, _⟩, ⟨962, some _, false, 2, _⟩, ⟨963, some _, false, 1, _⟩] [] _ (by simp -implicitDefEqProofs (maxSteps := 2000000) only [go_sem, q1, q2, q3] <;> and_intros <;> rfl) (by simp -implicitDefEqProofs (maxSteps := 2000000) only [go_sem, q1, q2, q3] <;> and_intros <;> rfl) (by simp -implicitDefEqProofs (maxSteps := 2000000) only [go_sem, q1, q2, q3] <;> and_intros <;> rfl) (by rfl))⟩
      have d0 : (((k : Nat) : Int) == 0) = false := by rw [beq_eq_false_iff_ne]; omega
      have q3 : wordR l p (k + 1) = wordR l p k := by rw [wordR, if_neg k0]
      by_cases k1 : byA p k = 124
      · have d1 : (((byA p k : Nat) : Int) == 124) = true := by rw [k1]; rfl
        have hs : skipT p k = true := by unfold skipT; rw [decide_eq_true k1, Bool.or_true]
        have q1 : wordV p m0 (k + 1) = wordV p m0 k := by rw [wordV, if_pos hs]
        have q2 : wordT p (k + 1) = wordT p k := by rw [wordT, if_pos hs]
        simp -implicitDefEqProofs (maxSteps := 2000000) only [go_sem, c2, eg, c3, d0, d1]
        rw [wk]
        exact ⟨k + 1, c3, by omega, (le_st' _ _ [⟨960, some _, false, 1, _⟩, ⟨961, some _, false, 1, _⟩, ⟨962, some _, false, 2, _⟩, ⟨963, some _, false, 1, _⟩] [] _ (by simp -implicitDefEqProofs (maxSteps := 2000000) only [go_sem, q1, q2, q3] <;> and_intros <;> rfl) (by simp -implicitDefEqProofs (maxSteps := 2000000) only [go_sem, q1, q2, q3] <;> and_intros <;> rfl) (by simp -implicitDefEqProofs (maxSteps := 2000000) only [go_sem, q1, q2, q3] <;> and_intros <;> rfl) (by rfl))⟩
      have d1 : (((byA p k : Nat) : Int) == 124) = false := by rw [beq_eq_false_iff_ne]; omega
      have hs : skipT p k = false := by unfold skipT; rw [decide_eq_false k0, decide_eq_false k1]; rfl
      have q2 : wordT p (k + 1) = wordT p k ++ [t1 p k] := by rw [wordT, hs, if_neg (by simp)]
      have q1 : wordV p m0 (k + 1) = if t1 p k + 1 > wordV p m0 k then t1 p k + 1 else wordV p m0 k := by rw [wordV, hs, if_neg (by simp)]
      have htl := pT_lo (p.extract k (k + 1))
      have wt : IntKind.i64.wrap (t1 p k + 1) = t1 p k + 1 := by unfold t1; exact IntWalk.i64_in _ (by omega)
      have etk : List.take (wordT p k).length (wordT p k) = wordT p k := List.take_length
      simp -implicitDefEqProofs (maxSteps := 2000000) only [go_sem, c2, eg, c3, d0, d1, wk, c4, Nat.le_add_right]
      refine call_of (specParseTerm_sat (p.extract k (k + 1))) (by simp -implicitDefEqProofs (maxSteps := 2000000) only [go_sem]) (by kernel_rfl) (by simp -implicitDefEqProofs (maxSteps := 2000000) only [go_sem]) ?_
      simp -implicitDefEqProofs (maxSteps := 2000000) only [go_sem]
      rw [show (pT (p.extract k (k + 1))).1 = t1 p k from rfl, wt]
      repeat (refine And.intro (by omega) ?_)
      rw [wk]
      refine ⟨k + 1, c3, by omega, ?_⟩
      exact (le_st' _ _ [⟨960, some _, false, 1, _⟩, ⟨961, some _, false, 1, _⟩, ⟨962, some _, false, 2, _⟩, ⟨963, some _, false, 1, _⟩] [] _ (by simp -implicitDefEqProofs (maxSteps := 2000000) only [go_sem, q1, q2, q3, repP, List.set_cons_zero, List.length_append, List.length_singleton] <;> and_intros <;> rfl) (by simp -implicitDefEqProofs (maxSteps := 2000000) only [go_sem, q1, q2, q3, repP, List.set_cons_zero, List.length_append, List.length_singleton] <;> and_intros <;> rfl) (by simp -implicitDefEqProofs (maxSteps := 2000000) only [go_sem, q1, q2, q3, repP, List.set_cons_zero, List.length_append, List.length_singleton] <;> and_intros <;> rfl) (by rfl))
    · obtain rfl : k = p.size := by omega
      simp -implicitDefEqProofs (maxSteps := 2000000) only [go_sem, c2, eg, c3]
      repeat (refine And.intro (by omega) ?_)
      rw [wi]
      refine ⟨i + 1, c2, by omega, ?_⟩
      exact (le_st' _ _ [⟨960, some _, false, 1, _⟩, ⟨961, some _, false, 1, _⟩, ⟨962, some _, false, 2, _⟩] [] _ (by simp -implicitDefEqProofs (maxSteps := 2000000) only [go_sem, hstA, hstV, hAi, repP, List.set_cons_zero] <;> and_intros <;> rfl) (by simp -implicitDefEqProofs (maxSteps := 2000000) only [go_sem, hstA, hstV, hAi, repP, List.set_cons_zero] <;> and_intros <;> rfl) (by simp -implicitDefEqProofs (maxSteps := 2000000) only [go_sem, hstA, hstV, hAi, repP, List.set_cons_zero] <;> and_intros <;> rfl) (by rfl))
  obtain rfl : i = ps.length := by omega
  have rtk : List.take ps.length (allA l ps ps.length) = allA l ps ps.length := List.take_of_length_le (by omega)
  have ftk : List.take w0.size (freeT w0 w0.size) = freeT w0 w0.size := List.take_of_length_le (by omega)
  rcases g : decide (quText l ⟨allV ps ps.length, allA l ps ps.length, freeT w0 w0.size⟩ = s)
  · simp -implicitDefEqProofs (maxSteps := 2000000) only [go_sem, c2, rtk, ftk]
    refine call_of (specFormatQuery_sat l ⟨allV ps ps.length, allA l ps ps.length, freeT w0 w0.size⟩ hl hq) (by simp -implicitDefEqProofs (maxSteps := 2000000) only [go_sem, g, rtk, ftk]) (callOk_still (by kernel_rfl) (by simp only [List.all_cons, List.all_nil, LV.still, LV.leaves, Leaf.still, ints_still, ris_still, eds_still, rels_still, iss_still, ems_still, Bool.and_self, Bool.and_true])) (by simp -implicitDefEqProofs (maxSteps := 2000000) only [go_sem, g, rtk, ftk]) ?_
    simp -implicitDefEqProofs (maxSteps := 2000000) only [go_sem, g, rtk, ftk]
    and_intros <;> rfl
  · simp -implicitDefEqProofs (maxSteps := 2000000) only [go_sem, c2, rtk, ftk]
    refine call_of (specFormatQuery_sat l ⟨allV ps ps.length, allA l ps ps.length, freeT w0 w0.size⟩ hl hq) (by simp -implicitDefEqProofs (maxSteps := 2000000) only [go_sem, g, rtk, ftk]) (callOk_still (by kernel_rfl) (by simp only [List.all_cons, List.all_nil, LV.still, LV.leaves, Leaf.still, ints_still, ris_still, eds_still, rels_still, iss_still, ems_still, Bool.and_self, Bool.and_true])) (by simp -implicitDefEqProofs (maxSteps := 2000000) only [go_sem, g, rtk, ftk]) ?_
    simp -implicitDefEqProofs (maxSteps := 2000000) only [go_sem, g, rtk, ftk]
    exact ⟨⟨by omega, by omega⟩, rfl⟩
end Go.Proofs.YtedciihjgbkjgacGreatDoor.A


/- TEXTS CUT AT A SIGN: the library. Conditions: none. -/
namespace Go.Proofs.YtedciihjgbkjgacGreatDoor.A
open Go
set_option linter.unusedSimpArgs false
set_option linter.unusedVariables false
set_option maxRecDepth 100000

/-! #### functions that the model runs by itself -/
theorem extern2_sat {P : Program} {f : FuncId} {fn : Func} {e : Array Value → Sem Value} (hf : P.funcs[f]? = some fn) (hname : (fn.name == "runtime.NumGoroutine") = false)
    (hb : fn.body.isNone = true) (hn : Extern.findNext fn = none) (he : Extern.find fn = some e) (v1 v2 v : Value) (hr : ∀ W, (e #[v1, v2]).run P W = .ok v W) :
    Sat P f [.one (.sc v1), .one (.sc v2)] [.one (.sc v)] [.one .gone, .one .gone] := by
  refine ⟨rfl, rfl, fun W lab vs hdead hrep => ?_⟩
  rcases vs with _ | ⟨u1, _ | ⟨u2, _ | ⟨_, _⟩⟩⟩
  · exact hrep.elim
  · exact hrep.2.elim
  rotate_left
  · exact hrep.2.2.elim
  obtain ⟨h1, h2, -⟩ := hrep
  obtain rfl : u1 = v1 := h1
  obtain rfl : u2 = v2 := h2
  unfold CallF
  rw [run_callFunc_extern hf hname hb hn he, hr]
  exact ⟨lab, rfl, ⟨trivial, trivial, trivial⟩, ⟨rfl, rfl, rfl, Nat.le_refl _, fun _ _ _ => ⟨rfl, rfl⟩, hdead⟩⟩
theorem indexByteString_sat (s : ByteArray) (c : Int) : Sat Tryz.prog 108 [lStr s, .one (.sc (.int .u8 c))] [lInt (Lib.indexByte s.data.toList c.toNat.toUInt8)] [g1, g1] :=
  extern2_sat Tryz.func108 (by kernel_rfl) (by kernel_rfl) (by kernel_rfl) (e := Extern.BytealgIndexByte.indexByte) (by kernel_rfl) _ _ _ (fun W => Lib.run_indexByteString s c W)
theorem countString_sat (s : ByteArray) (c : Int) : Sat Tryz.prog 112 [lStr s, .one (.sc (.int .u8 c))] [lInt (Lib.countByte s.data.toList c.toNat.toUInt8)] [g1, g1] :=
  extern2_sat Tryz.func112 (by kernel_rfl) (by kernel_rfl) (by kernel_rfl) (e := Extern.BytealgCount.count) (by kernel_rfl) _ _ _ (fun W => Lib.run_countString s c W)
/-! #### where a sign stands -/
theorem ixB_none {c : UInt8} : ∀ {l : List UInt8}, c ∉ l → Lib.indexByte l c = -1
  | [], _ => rfl
  | b :: l, h => by
    rw [List.mem_cons, not_or] at h
    unfold Lib.indexByte
    rw [if_neg (by rw [beq_iff_eq]; exact fun e => h.1 e.symm), ixB_none h.2]; rfl
theorem ixB_some {c : UInt8} {l2 : List UInt8} : ∀ {l1 : List UInt8}, c ∉ l1 → Lib.indexByte (l1 ++ c :: l2) c = l1.length
  | [], _ => by
    rw [List.nil_append]
    unfold Lib.indexByte
    rw [if_pos (beq_self_eq_true c)]; rfl
  | b :: l, h => by
    rw [List.mem_cons, not_or] at h
    rw [List.cons_append]
    unfold Lib.indexByte
    have e := ixB_some (l2 := l2) h.2
    rw [if_neg (by rw [beq_iff_eq]; exact fun e => h.1 e.symm), e, if_neg (by rw [beq_iff_eq]; omega), List.length_cons]; omega
abbrev oneB (c : UInt8) : ByteArray := ⟨#[c]⟩
def hasB (s : ByteArray) (c : UInt8) : Prop := c ∈ s.data.toList
theorem ixS_no {s : ByteArray} {c : UInt8} (h : ¬ hasB s c) : Lib.indexByte s.data.toList c = -1 := ixB_none h
theorem ixS_at {a b : ByteArray} {c : UInt8} (h : ¬ hasB a c) : Lib.indexByte (a ++ oneB c ++ b).data.toList c = (a.size : Int) := by
  rw [byt_app, byt_app, List.append_assoc]
  have := ixB_some (c := c) (l2 := b.data.toList) h
  rw [show (oneB c).data.toList ++ b.data.toList = c :: b.data.toList from rfl, this, Array.length_toList]; rfl
theorem cut3_size (a b : ByteArray) (c : UInt8) : (a ++ oneB c ++ b).size = a.size + 1 + b.size := by
  rw [app_size, app_size]; rfl
theorem ext_left (a b : ByteArray) (c : UInt8) : (a ++ oneB c ++ b).extract 0 a.size = a := by
  apply byt_eq
  rw [ByteArray.data_extract, Array.toList_extract, byt_app, byt_app, List.append_assoc]
  simp [List.extract, List.take_append]
theorem ext_right (a b : ByteArray) (c : UInt8) : (a ++ oneB c ++ b).extract (a.size + 1) (a ++ oneB c ++ b).size = b := by
  apply byt_eq
  rw [ByteArray.data_extract, Array.toList_extract, cut3_size, byt_app, byt_app, List.append_assoc, show (oneB c).data.toList ++ b.data.toList = c :: b.data.toList from rfl]
  have h1 : a.size = a.data.toList.length := Array.length_toList.symm
  have h2 : b.size = b.data.toList.length := Array.length_toList.symm
  simp only [List.extract]
  rw [h1, h2, show a.data.toList.length + 1 + b.data.toList.length - (a.data.toList.length + 1) = b.data.toList.length by omega, List.drop_append, List.drop_of_length_le (by omega), List.nil_append, show a.data.toList.length + 1 - a.data.toList.length = 1 by omega, List.drop_one, List.tail_cons, List.take_length]
theorem u8_back (c : UInt8) : (((c.toNat : Nat) : Int)).toNat.toUInt8 = c := by
  rw [Int.toNat_natCast]; exact UInt8.ofNat_toNat
theorem byte0 (c : UInt8) : ((oneB c).data.toList.getD 0 0).toNat = c.toNat := rfl
theorem stringsliteIndexByte_sat (s : ByteArray) (c : UInt8) : Sat Tryz.prog 87 [lStr s, .one (.sc (.int .u8 c.toNat))] [lInt (Lib.indexByte s.data.toList c)] [g1, g1] := by
  refine sat_of_body mixed Tryz.func87 rfl (by kernel_rfl) (by kernel_rfl) (rs := [.tmp 4]) rfl rfl rfl ?_
  have h := indexByteString_sat s (c.toNat : Int)
  rw [u8_back] at h
  simp -implicitDefEqProofs (maxSteps := 2000000) only [go_sem]
  refine call_of (h) (by simp -implicitDefEqProofs (maxSteps := 2000000) only [go_sem]) (by kernel_rfl) (by simp -implicitDefEqProofs (maxSteps := 2000000) only [go_sem]) ?_
  simp -implicitDefEqProofs (maxSteps := 2000000) only [go_sem]
theorem stringsliteIndex_sat (s : ByteArray) (c : UInt8) : Sat Tryz.prog 73 [lStr s, lStr (oneB c)] [lInt (Lib.indexByte s.data.toList c)] [g1, g1] := by
  refine sat_of_body mixed Tryz.func73 rfl (by kernel_rfl) (by kernel_rfl) (rs := [.tmp 4]) rfl rfl rfl ?_
  have hs : (oneB c).size = 1 := rfl
  have z0 : (((1 : Nat) : Int) == 0) = false := rfl
  have z1 : (((1 : Nat) : Int) == 1) = true := rfl
  by_cases e : oneB c = s
  · have e1 : Lib.indexByte s.data.toList c = 0 := by rw [← e]; show Lib.indexByte [c] c = 0; unfold Lib.indexByte; rw [if_pos (beq_self_eq_true c)]
    rw [e1]
    have d := decide_eq_true e
    simp -implicitDefEqProofs (maxSteps := 2000000) only [go_sem, hs, z0, z1, d]
    first | done | rfl | exact ⟨rfl, rfl⟩ | exact ⟨rfl, rfl, rfl⟩ | (refine tr_and ?_ ?_ <;> first | rfl | exact ⟨rfl, rfl⟩ | kernel_rfl)
  · have d := decide_eq_false e
    simp -implicitDefEqProofs (maxSteps := 2000000) only [go_sem, hs, z0, z1, d, byte0]
    refine call_of (stringsliteIndexByte_sat s c) (by simp -implicitDefEqProofs (maxSteps := 2000000) only [go_sem]) (by kernel_rfl) (by simp -implicitDefEqProofs (maxSteps := 2000000) only [go_sem]) ?_
    simp -implicitDefEqProofs (maxSteps := 2000000) only [go_sem]
theorem stringsIndex_sat (s : ByteArray) (c : UInt8) : Sat Tryz.prog 93 [lStr s, lStr (oneB c)] [lInt (Lib.indexByte s.data.toList c)] [g1, g1] := by
  refine sat_of_body mixed Tryz.func93 rfl (by kernel_rfl) (by kernel_rfl) (rs := [.tmp 4]) rfl rfl rfl ?_
  simp -implicitDefEqProofs (maxSteps := 2000000) only [go_sem]
  refine call_of (stringsliteIndex_sat s c) (by simp -implicitDefEqProofs (maxSteps := 2000000) only [go_sem]) (by kernel_rfl) (by simp -implicitDefEqProofs (maxSteps := 2000000) only [go_sem]) ?_
  simp -implicitDefEqProofs (maxSteps := 2000000) only [go_sem]
theorem stringsCount_sat (s : ByteArray) (c : UInt8) : Sat Tryz.prog 92 [lStr s, lStr (oneB c)] [lInt (Lib.countByte s.data.toList c)] [g1, g1] := by
  refine sat_of_body mixed Tryz.func92 rfl (by kernel_rfl) (by kernel_rfl) (rs := [.tmp 4]) rfl rfl rfl ?_
  have hs : (oneB c).size = 1 := rfl
  have h := countString_sat s (c.toNat : Int)
  rw [u8_back] at h
  have z0 : (((1 : Nat) : Int) == 0) = false := rfl
  have z1 : (((1 : Nat) : Int) == 1) = true := rfl
  simp -implicitDefEqProofs (maxSteps := 2000000) only [go_sem, hs, z0, z1, byte0]
  refine call_of (h) (by simp -implicitDefEqProofs (maxSteps := 2000000) only [go_sem]) (by kernel_rfl) (by simp -implicitDefEqProofs (maxSteps := 2000000) only [go_sem]) ?_
  simp -implicitDefEqProofs (maxSteps := 2000000) only [go_sem]
/-! #### a text cut at the first sign -/
theorem sliteCut_no (s : ByteArray) (c : UInt8) (h : ¬ hasB s c) : Sat Tryz.prog 49 [lStr s, lStr (oneB c)] [lStr s, lStr ⟨#[]⟩, lBool false] [g1, g1] := by
  refine sat_of_body mixed Tryz.func49 rfl (by kernel_rfl) (by kernel_rfl) (rs := [.tmp 4, .tmp 5, .tmp 6]) rfl rfl rfl ?_
  have e := ixS_no h
  have d : decide ((-1 : Int) ≥ 0) = false := rfl
  simp -implicitDefEqProofs (maxSteps := 2000000) only [go_sem]
  refine call_of (stringsliteIndex_sat s c) (by simp -implicitDefEqProofs (maxSteps := 2000000) only [go_sem, e, d]) (by kernel_rfl) (by simp -implicitDefEqProofs (maxSteps := 2000000) only [go_sem, e, d]) ?_
  simp -implicitDefEqProofs (maxSteps := 2000000) only [go_sem, e, d]
  first | done | rfl | exact ⟨rfl, rfl⟩ | exact ⟨rfl, rfl, rfl⟩ | (refine tr_and ?_ ?_ <;> first | rfl | exact ⟨rfl, rfl⟩ | kernel_rfl)
theorem sliteCut_yes (a b : ByteArray) (c : UInt8) (h : ¬ hasB a c) (hl : (a ++ oneB c ++ b).size ≤ 9223372036854775807) : Sat Tryz.prog 49 [lStr (a ++ oneB c ++ b), lStr (oneB c)] [lStr a, lStr b, lBool true] [g1, g1] := by
  refine sat_of_body mixed Tryz.func49 rfl (by kernel_rfl) (by kernel_rfl) (rs := [.tmp 4, .tmp 5, .tmp 6]) rfl rfl rfl ?_
  have e := ixS_at (b := b) h
  have hz := cut3_size a b c
  have x1 := ext_left a b c
  have x2 := ext_right a b c
  generalize a ++ oneB c ++ b = s at e hz x1 x2 hl ⊢
  have d : decide (((a.size : Nat) : Int) ≥ 0) = true := decide_eq_true (by omega)
  have hs : (oneB c).size = 1 := rfl
  have w1 : IntKind.i64.wrap ((a.size : Int) + ((1 : Nat) : Int)) = ((a.size + 1 : Nat) : Int) := by rw [IntWalk.i64_in _ (by omega)]; omega
  simp -implicitDefEqProofs (maxSteps := 2000000) only [go_sem]
  refine call_of (stringsliteIndex_sat s c) (by simp -implicitDefEqProofs (maxSteps := 2000000) only [go_sem, e, d, hs, w1, x1, x2]) (by kernel_rfl) (by simp -implicitDefEqProofs (maxSteps := 2000000) only [go_sem, e, d, hs, w1, x1, x2]) ?_
  simp -implicitDefEqProofs (maxSteps := 2000000) only [go_sem, e, d, hs, w1, x1, x2]
  and_intros <;> omega
theorem stringsCut_no (s : ByteArray) (c : UInt8) (h : ¬ hasB s c) : Sat Tryz.prog 16 [lStr s, lStr (oneB c)] [lStr s, lStr ⟨#[]⟩, lBool false] [g1, g1] := by
  refine sat_of_body mixed Tryz.func16 rfl (by kernel_rfl) (by kernel_rfl) (rs := [.tmp 4, .tmp 5, .tmp 6]) rfl rfl rfl ?_
  simp -implicitDefEqProofs (maxSteps := 2000000) only [go_sem]
  refine call_of (sliteCut_no s c h) (by simp -implicitDefEqProofs (maxSteps := 2000000) only [go_sem]) (by kernel_rfl) (by simp -implicitDefEqProofs (maxSteps := 2000000) only [go_sem]) ?_
  simp -implicitDefEqProofs (maxSteps := 2000000) only [go_sem]
  first | done | rfl | exact ⟨rfl, rfl⟩ | exact ⟨rfl, rfl, rfl⟩ | (refine tr_and ?_ ?_ <;> first | rfl | exact ⟨rfl, rfl⟩ | kernel_rfl)
theorem stringsCut_yes (a b : ByteArray) (c : UInt8) (h : ¬ hasB a c) (hl : (a ++ oneB c ++ b).size ≤ 9223372036854775807) : Sat Tryz.prog 16 [lStr (a ++ oneB c ++ b), lStr (oneB c)] [lStr a, lStr b, lBool true] [g1, g1] := by
  refine sat_of_body mixed Tryz.func16 rfl (by kernel_rfl) (by kernel_rfl) (rs := [.tmp 4, .tmp 5, .tmp 6]) rfl rfl rfl ?_
  have s0 := sliteCut_yes a b c h hl
  generalize a ++ oneB c ++ b = s at s0 ⊢
  simp -implicitDefEqProofs (maxSteps := 2000000) only [go_sem]
  refine call_of (s0) (by simp -implicitDefEqProofs (maxSteps := 2000000) only [go_sem]) (by kernel_rfl) (by simp -implicitDefEqProofs (maxSteps := 2000000) only [go_sem]) ?_
  simp -implicitDefEqProofs (maxSteps := 2000000) only [go_sem]
  first | done | rfl | exact ⟨rfl, rfl⟩ | exact ⟨rfl, rfl, rfl⟩ | (refine tr_and ?_ ?_ <;> first | rfl | exact ⟨rfl, rfl⟩ | kernel_rfl)
end Go.Proofs.YtedciihjgbkjgacGreatDoor.A


/- TEXTS CUT AT EVERY SIGN: the library; words. Conditions: none. -/
namespace Go.Proofs.YtedciihjgbkjgacGreatDoor.A
open Go
set_option linter.unusedSimpArgs false
set_option linter.unusedVariables false
set_option maxRecDepth 100000

theorem joinB_cc (x y : ByteArray) (r : List ByteArray) (sep : ByteArray) : joinB (x :: y :: r) sep = x ++ sep ++ joinB (y :: r) sep := by
  apply byt_eq
  rw [byt_app, byt_app, joinB_data, joinB_data, List.map_cons, List.map_cons, Lib.join_cons, Lib.join_cons]
  simp [Lib.joinTail, List.append_assoc]
theorem mem_first {c : UInt8} : ∀ {l : List UInt8}, c ∈ l → ∃ l1 l2, l = l1 ++ c :: l2 ∧ c ∉ l1
  | b :: l, h => by
    by_cases e : b = c
    · exact ⟨[], l, by rw [e]; rfl, by simp⟩
    · obtain ⟨l1, l2, h1, h2⟩ := mem_first (l := l) (by
        rcases List.mem_cons.mp h with h | h
        · exact absurd h.symm e
        · exact h)
      refine ⟨b :: l1, l2, by rw [h1]; rfl, fun hm => ?_⟩
      rcases List.mem_cons.mp hm with h | h
      · exact e h.symm
      · exact h2 h
theorem first_B {s : ByteArray} {c : UInt8} (h : hasB s c) : ∃ a b : ByteArray, s = a ++ oneB c ++ b ∧ ¬ hasB a c := by
  obtain ⟨l1, l2, h1, h2⟩ := mem_first h
  refine ⟨⟨l1.toArray⟩, ⟨l2.toArray⟩, byt_eq ?_, by unfold hasB; simpa using h2⟩
  rw [byt_app, byt_app, h1]
  simp
/-- Every text is words with signs between. -/
theorem words_of (c : UInt8) : ∀ (n : Nat) (s : ByteArray), s.size ≤ n → ∃ ws : List ByteArray, ws ≠ [] ∧ s = joinB ws (oneB c) ∧ ∀ w ∈ ws, ¬ hasB w c := by
  intro n
  induction n with
  | zero =>
    intro s hs
    refine ⟨[s], by simp, (joinB_one s _).symm, fun w hw => ?_⟩
    rw [List.mem_singleton.mp hw]
    unfold hasB
    have : s.data.toList = [] := List.length_eq_zero_iff.mp (by rw [Array.length_toList]; show s.size = 0; omega)
    rw [this]; simp
  | succ n ih =>
    intro s hs
    by_cases h : hasB s c
    · obtain ⟨a, b, rfl, h2⟩ := first_B h
      have hz := cut3_size a b c
      obtain ⟨ws, h3, h4, h5⟩ := ih b (by omega)
      obtain ⟨w, r, rfl⟩ := List.exists_cons_of_ne_nil h3
      refine ⟨a :: w :: r, by simp, by rw [joinB_cc, ← h4], fun x hx => ?_⟩
      rcases List.mem_cons.mp hx with rfl | hx
      · exact h2
      · exact h5 x hx
    · refine ⟨[s], by simp, (joinB_one s _).symm, fun w hw => ?_⟩
      rw [List.mem_singleton.mp hw]; exact h
theorem count_words (c : UInt8) : ∀ (ws : List ByteArray), (∀ w ∈ ws, ¬ hasB w c) → Lib.countByte (joinB ws (oneB c)).data.toList c = ws.length - 1
  | [], _ => by rw [joinB_nil]; rfl
  | [w], h => by
    rw [joinB_one]
    exact List.count_eq_zero.mpr (h w (by simp))
  | w :: v :: r, h => by
    have ih := count_words c (v :: r) fun x hx => h x (List.mem_cons_of_mem _ hx)
    have hw : ¬ hasB w c := h w (by simp)
    unfold Lib.countByte at ih ⊢
    rw [joinB_cc, byt_app, byt_app, List.count_append, List.count_append, ih, List.count_eq_zero.mpr hw, show (oneB c).data.toList = [c] from rfl, List.count_singleton_self]
    simp only [List.length_cons]
    omega
theorem words_size (c : UInt8) : ∀ (ws : List ByteArray), ws.length ≤ (joinB ws (oneB c)).size + 1
  | [] => by simp
  | [w] => by simp
  | w :: v :: r => by
    have ih := words_size c (v :: r)
    rw [joinB_cc, cut3_size, List.length_cons]
    omega
theorem drop_size (c : UInt8) : ∀ (k : Nat) (ws : List ByteArray), (joinB (ws.drop k) (oneB c)).size ≤ (joinB ws (oneB c)).size
  | 0, ws => Nat.le_refl _
  | k + 1, [] => by rw [List.drop_nil]; exact Nat.le_refl _
  | k + 1, [w] => by
    rw [List.drop_succ_cons, List.drop_nil, joinB_nil]; exact Nat.zero_le _
  | k + 1, w :: v :: r => by
    have ih := drop_size c k (v :: r)
    rw [List.drop_succ_cons, joinB_cc, cut3_size]
    omega
theorem drop_two {α : Type} {l : List α} {d : α} {k : Nat} (h : k + 1 < l.length) : l.drop k = l.getD k d :: l.getD (k + 1) d :: l.drop (k + 2) := by
  rw [List.drop_eq_getElem_cons (by omega), List.drop_eq_getElem_cons h]
  simp [List.getD_eq_getElem?_getD, show k < l.length by omega, h]
theorem fill_set {α : Type} {l : List α} {d e : α} {k : Nat} (h : k < l.length) : (l.take k ++ List.replicate (l.length - k) e).set k (l.getD k d) = l.take (k + 1) ++ List.replicate (l.length - (k + 1)) e := by
  have hl : (l.take k).length = k := by rw [List.length_take]; omega
  rw [List.set_append_right _ _ (by omega), hl, Nat.sub_self, show l.length - k = (l.length - (k + 1)) + 1 by omega, List.replicate_succ, List.set_cons_zero, take_snoc d h, List.append_assoc]; rfl
theorem genSplit_sat (c : UInt8) (ws : List ByteArray) (hne : ws ≠ []) (h : ∀ w ∈ ws, ¬ hasB w c) (hl : (joinB ws (oneB c)).size ≤ 1048576) :
    Sat Tryz.prog 76 [lStr (joinB ws (oneB c)), lStr (oneB c), lInt 0, lInt (-1)] [.one (.ow 1 (txs ws))] [g1, g1, g1, g1] := by
  refine sat_of_body mixed Tryz.func76 rfl (by kernel_rfl) (by kernel_rfl) (rs := [.tmp 8]) rfl rfl rfl ?_
  have hN : 0 < ws.length := List.length_pos_iff.mpr hne
  have h1 := words_size c ws
  have h2 := stringsCount_sat (joinB ws (oneB c)) c
  rw [count_words c ws h] at h2
  have hs : (oneB c).size = 1 := rfl
  have e1 : decide (oneB c = (⟨#[]⟩ : ByteArray)) = false := by
    rw [decide_eq_false_iff_not]
    intro e
    have := congrArg ByteArray.size e
    simp [ByteArray.size] at this
  have w1 : IntKind.i64.wrap (((ws.length - 1 : Nat) : Int) + 1) = ((ws.length : Nat) : Int) := by rw [IntWalk.i64_in _ (by omega)]; omega
  have w2 : IntKind.i64.wrap ((((joinB ws (oneB c)).size : Nat) : Int) + 1) = (((joinB ws (oneB c)).size + 1 : Nat) : Int) := by rw [IntWalk.i64_in _ (by omega)]; omega
  have w3 : IntKind.i64.wrap (((ws.length : Nat) : Int) - 1) = ((ws.length - 1 : Nat) : Int) := by rw [IntWalk.i64_in _ (by omega)]; omega
  have d0 : ((-1 : Int) == 0) = false := rfl
  have d1 : decide ((-1 : Int) < 0) = true := rfl
  simp -implicitDefEqProofs (maxSteps := 2000000) only [go_sem, d0, d1, e1]
  refine call_of (h2) (by simp -implicitDefEqProofs (maxSteps := 2000000) only [go_sem, w1, w2, w3, if_neg (show ¬ (joinB ws (oneB c)).size + 1 < ws.length by omega)]) (by kernel_rfl) (by simp -implicitDefEqProofs (maxSteps := 2000000) only [go_sem, w1, w2, w3, if_neg (show ¬ (joinB ws (oneB c)).size + 1 < ws.length by omega)]) ?_
  simp -implicitDefEqProofs (maxSteps := 2000000) only [go_sem, w1, w2, w3, if_neg (show ¬ (joinB ws (oneB c)).size + 1 < ws.length by omega)]
  repeat (refine And.intro (by omega) ?_)
  refine awp_loop Nat (fun k => mkSt [(0, .sc (.string (joinB (ws.drop k) (oneB c)))), (1, .sc (.string (oneB c))), (2, .sc (.int .i64 0)), (3, .sc (.int .i64 ((ws.length - 1 : Nat) : Int))), (9, .one (.ref 960 1 0 ws.length)), (10, .sc (.int .i64 k))] [] [(960, (1, txs (ws.take k ++ List.replicate (ws.length - k) ⟨#[]⟩)))] 8000)
    (fun k => k ≤ ws.length - 1) (fun k => ws.length - 1 - k) 0 (by omega) (le_st' _ _ [⟨960, some _, false, 1, _⟩] [] _ (by simp -implicitDefEqProofs (maxSteps := 2000000) only [go_sem, List.drop_zero, List.take_zero, List.nil_append, Nat.sub_zero] <;> and_intros <;> rfl) (by simp -implicitDefEqProofs (maxSteps := 2000000) only [go_sem, List.drop_zero, List.take_zero, List.nil_append, Nat.sub_zero] <;> and_intros <;> rfl) (by simp -implicitDefEqProofs (maxSteps := 2000000) only [go_sem, List.drop_zero, List.take_zero, List.nil_append, Nat.sub_zero] <;> and_intros <;> rfl) (by rfl)) ?_
  rintro k q1
  have hfl : (ws.take k ++ List.replicate (ws.length - k) (⟨#[]⟩ : ByteArray)).length = ws.length := by simp; omega
  have hfs := fill_set (l := ws) (d := (⟨#[]⟩ : ByteArray)) (e := (⟨#[]⟩ : ByteArray)) (k := k) (by omega)
  have wk : IntKind.i64.wrap ((k : Int) + 1) = ((k + 1 : Nat) : Int) := i64_succ (by omega)
  by_cases c1 : k < ws.length - 1
  · have hd := drop_two (l := ws) (d := (⟨#[]⟩ : ByteArray)) (k := k) (by omega)
    have hd1 : ws.drop (k + 1) = ws.getD (k + 1) ⟨#[]⟩ :: ws.drop (k + 2) := by
      rw [List.drop_eq_getElem_cons (by omega)]
      simp [List.getD_eq_getElem?_getD, show k + 1 < ws.length by omega]
    have hw := h _ (mem_getD (⟨#[]⟩ : ByteArray) (show k < ws.length by omega))
    have hj : joinB (ws.drop k) (oneB c) = ws.getD k ⟨#[]⟩ ++ oneB c ++ joinB (ws.drop (k + 1)) (oneB c) := by rw [hd, joinB_cc, hd1]
    have ix := ixS_at (b := joinB (ws.drop (k + 1)) (oneB c)) hw
    have x1 := ext_left (ws.getD k ⟨#[]⟩) (joinB (ws.drop (k + 1)) (oneB c)) c
    have x2 := ext_right (ws.getD k ⟨#[]⟩) (joinB (ws.drop (k + 1)) (oneB c)) c
    have hz := cut3_size (ws.getD k ⟨#[]⟩) (joinB (ws.drop (k + 1)) (oneB c)) c
    rw [← hj] at ix x1 x2 hz
    have hzl : (joinB (ws.drop k) (oneB c)).size ≤ 1048576 := Nat.le_trans (drop_size c k ws) hl
    generalize joinB (ws.drop k) (oneB c) = s0 at hj ix x1 x2 hz hzl ⊢
    have si := stringsIndex_sat s0 c
    rw [ix] at si
    have d2 : decide (((ws.getD k ⟨#[]⟩).size : Int) < 0) = false := decide_eq_false (by omega)
    have w4 : IntKind.i64.wrap (((ws.getD k ⟨#[]⟩).size : Int) + 0) = ((ws.getD k ⟨#[]⟩).size : Int) := by rw [IntWalk.i64_in _ (by omega)]; omega
    have w5 : IntKind.i64.wrap (((ws.getD k ⟨#[]⟩).size : Int) + ((1 : Nat) : Int)) = (((ws.getD k ⟨#[]⟩).size + 1 : Nat) : Int) := by rw [IntWalk.i64_in _ (by omega)]; omega
    have w6 : IntKind.i64.wrap (((ws.getD k ⟨#[]⟩).size : Nat) : Int) = (((ws.getD k ⟨#[]⟩).size : Nat) : Int) := IntWalk.i64_in _ (by omega)
    have c2 : k < ws.length := by omega
    simp -implicitDefEqProofs (maxSteps := 2000000) only [go_sem, c1]
    have eg := txs_get (l := ws.take k ++ List.replicate (ws.length - k) ⟨#[]⟩) (i := k) (by rw [hfl]; omega)
    refine call_of (si) (by simp -implicitDefEqProofs (maxSteps := 2000000) only [go_sem, d2, w4, w5, w6, x1, x2, hs, c2, hfl, eg, hfs]) (by kernel_rfl) (by simp -implicitDefEqProofs (maxSteps := 2000000) only [go_sem, d2, w4, w5, w6, x1, x2, hs, c2, hfl, eg, hfs]) ?_
    simp -implicitDefEqProofs (maxSteps := 2000000) only [go_sem, d2, w4, w5, w6, x1, x2, hs, c2, hfl, eg, hfs]
    repeat (refine And.intro (by omega) ?_)
    rw [wk]
    exact ⟨k + 1, by omega, by omega, (le_st' _ _ [⟨960, some _, false, 1, _⟩] [] _ (by simp -implicitDefEqProofs (maxSteps := 2000000) only [go_sem, hfs] <;> and_intros <;> rfl) (by simp -implicitDefEqProofs (maxSteps := 2000000) only [go_sem, hfs] <;> and_intros <;> rfl) (by simp -implicitDefEqProofs (maxSteps := 2000000) only [go_sem, hfs] <;> and_intros <;> rfl) (by rfl))⟩
  · obtain rfl : k = ws.length - 1 := by omega
    have c2 : ws.length - 1 < ws.length := by omega
    have eg := txs_get (l := ws.take (ws.length - 1) ++ List.replicate (ws.length - (ws.length - 1)) ⟨#[]⟩) (i := ws.length - 1) (by rw [hfl]; omega)
    have hlast : joinB (ws.drop (ws.length - 1)) (oneB c) = ws.getD (ws.length - 1) ⟨#[]⟩ := by
      rw [List.drop_eq_getElem_cons c2, show ws.length - 1 + 1 = ws.length by omega, List.drop_length, joinB_one]
      simp [List.getD_eq_getElem?_getD, c2]
    have hend : ws.take (ws.length - 1 + 1) ++ List.replicate (ws.length - (ws.length - 1 + 1)) (⟨#[]⟩ : ByteArray) = ws := by
      rw [show ws.length - 1 + 1 = ws.length by omega, Nat.sub_self, List.replicate_zero, List.append_nil, List.take_length]
    rw [hend] at hfs
    rw [hlast]
    simp -implicitDefEqProofs (maxSteps := 2000000) only [go_sem, c1, c2, hfl, eg, hfs, wk]
    exact ⟨by omega, by omega, by kernel_rfl⟩
theorem stringsSplit_sat (c : UInt8) (ws : List ByteArray) (hne : ws ≠ []) (h : ∀ w ∈ ws, ¬ hasB w c) (hl : (joinB ws (oneB c)).size ≤ 1048576) :
    Sat Tryz.prog 51 [lStr (joinB ws (oneB c)), lStr (oneB c)] [.one (.ow 1 (txs ws))] [g1, g1] := by
  refine sat_of_body mixed Tryz.func51 rfl (by kernel_rfl) (by kernel_rfl) (rs := [.tmp 4]) rfl rfl rfl ?_
  have s0 := genSplit_sat c ws hne h hl
  simp -implicitDefEqProofs (maxSteps := 2000000) only [go_sem]
  refine call_of (s0) (by simp -implicitDefEqProofs (maxSteps := 2000000) only [go_sem]) (by kernel_rfl) (by simp -implicitDefEqProofs (maxSteps := 2000000) only [go_sem]) ?_
  simp -implicitDefEqProofs (maxSteps := 2000000) only [go_sem]
  first | done | rfl | exact ⟨rfl, rfl⟩ | exact ⟨rfl, rfl, rfl⟩ | (refine tr_and ?_ ?_ <;> first | rfl | exact ⟨rfl, rfl⟩ | kernel_rfl)
/-- The words of a text that is not empty. -/
theorem implWords_sat (ws : List ByteArray) (h : ∀ w ∈ ws, ¬ hasB w 32) (h0 : 0 < (joinB ws (oneB 32)).size) (hl : (joinB ws (oneB 32)).size ≤ 1048576) :
    Sat Tryz.prog 18 [lStr (joinB ws (oneB 32))] [.one (.ow 1 (txs ws))] [g1] := by
  refine sat_of_body mixed Tryz.func18 rfl (by kernel_rfl) (by kernel_rfl) (rs := [.tmp 2]) rfl rfl rfl ?_
  have hne : ws ≠ [] := by rintro rfl; rw [joinB_nil] at h0; exact absurd h0 (by decide)
  have s0 := stringsSplit_sat 32 ws hne h hl
  have d : decide (joinB ws (oneB 32) = (⟨#[]⟩ : ByteArray)) = false := decide_eq_false (noB_ne h0)
  simp -implicitDefEqProofs (maxSteps := 2000000) only [go_sem, d]
  refine call_of (s0) (by simp -implicitDefEqProofs (maxSteps := 2000000) only [go_sem]) (by kernel_rfl) (by simp -implicitDefEqProofs (maxSteps := 2000000) only [go_sem]) ?_
  simp -implicitDefEqProofs (maxSteps := 2000000) only [go_sem]
  first | done | rfl | exact ⟨rfl, rfl⟩ | exact ⟨rfl, rfl, rfl⟩ | (refine tr_and ?_ ?_ <;> first | rfl | exact ⟨rfl, rfl⟩ | kernel_rfl)
theorem implWords_none : Sat Tryz.prog 18 [lStr ⟨#[]⟩] [.one (.ow 1 (txs []))] [g1] := by
  refine sat_of_body mixed Tryz.func18 rfl (by kernel_rfl) (by kernel_rfl) (rs := [.tmp 2]) rfl rfl rfl ?_
  simp -implicitDefEqProofs (maxSteps := 2000000) only [go_sem]
  first | done | rfl | exact ⟨rfl, rfl⟩ | exact ⟨rfl, rfl, rfl⟩ | (refine tr_and ?_ ?_ <;> first | rfl | exact ⟨rfl, rfl⟩ | kernel_rfl)
end Go.Proofs.YtedciihjgbkjgacGreatDoor.A


/- TERMS OF A WORD AND THE PLACE OF A RELATION: the program's walk. Conditions: none. -/
namespace Go.Proofs.YtedciihjgbkjgacGreatDoor.A
open Go
set_option linter.unusedSimpArgs false
set_option linter.unusedVariables false
set_option maxRecDepth 100000

def barA (s : ByteArray) (i : Nat) : Bool := decide (byA s i = 124)
def okU (s : ByteArray) (i : Nat) : Bool := barA s i || (pT (s.extract i (i + 1))).2
def selT (s : ByteArray) : Nat → List Int
  | 0 => []
  | i + 1 => if barA s i then selT s i else selT s i ++ [t1 s i]
def okT (s : ByteArray) : Bool := upTo (okU s) s.size
def trT (s : ByteArray) : List Int := if okT s then selT s s.size else []
theorem selT_len (s : ByteArray) : ∀ i, (selT s i).length ≤ i
  | 0 => Nat.le_refl _
  | i + 1 => by
    have := selT_len s i
    rw [selT]; split
    · omega
    · rw [List.length_append, List.length_singleton]; omega
theorem trT_len (s : ByteArray) : (trT s).length ≤ s.size := by
  unfold trT
  split
  · exact selT_len s _
  · exact Nat.zero_le _
theorem implParseTerms_sat (s : ByteArray) (h : s.size ≤ 1048576) : Sat Tryz.prog 17 [lStr s] [oInts (trT s), lBool (okT s)] [g1] := by
  refine sat_of_body mixed Tryz.func17 rfl (by kernel_rfl) (by kernel_rfl) (rs := [.tmp 2, .tmp 3]) rfl rfl rfl ?_
  unfold trT
  simp -implicitDefEqProofs (maxSteps := 2000000) only [go_sem]
  refine awp_loop Nat (fun i => mkSt [(0, .sc (.string s)), (4, .one (.ref 960 1 0 (selT s i).length)), (5, .sc (.int .i64 i))] [] [(960, (1, ints (selT s i)))] 4000)
    (fun i => i ≤ s.size ∧ upTo (okU s) i = true) (fun i => s.size - i) 0 ⟨by omega, rfl⟩ (le_st' _ _ [⟨960, some _, false, 1, _⟩] [] _ (by simp -implicitDefEqProofs (maxSteps := 2000000) only [go_sem, selT, ints_nil, List.length_nil] <;> and_intros <;> rfl) (by simp -implicitDefEqProofs (maxSteps := 2000000) only [go_sem, selT, ints_nil, List.length_nil] <;> and_intros <;> rfl) (by simp -implicitDefEqProofs (maxSteps := 2000000) only [go_sem, selT, ints_nil, List.length_nil] <;> and_intros <;> rfl) (by rfl)) ?_
  rintro i ⟨h1, h2⟩
  have hl := selT_len s i
  by_cases c1 : i < s.size
  · have wi : IntKind.i64.wrap ((i : Int) + 1) = ((i + 1 : Nat) : Int) := i64_succ (by omega)
    have c2 : i + 1 ≤ s.size := c1
    rcases d : barA s i
    · have d' : (((byA s i : Nat) : Int) == 124) = false := by
        have := of_decide_eq_false d
        rw [beq_eq_false_iff_ne]; omega
      have hz := ext_size s i (i + 1)
      rcases e : (pT (s.extract i (i + 1))).2
      · have hno : okT s = false := upTo_false c1 (by unfold okU; rw [d, e]; rfl)
        rw [hno]
        simp -implicitDefEqProofs (maxSteps := 2000000) only [go_sem, c1, d', wi, c2, Nat.le_add_right]
        refine call_of (implParseTerm_sat (s.extract i (i + 1)) (by omega)) (by simp -implicitDefEqProofs (maxSteps := 2000000) only [go_sem, e]) (by kernel_rfl) (by simp -implicitDefEqProofs (maxSteps := 2000000) only [go_sem, e]) ?_
        simp -implicitDefEqProofs (maxSteps := 2000000) only [go_sem, e]
        first | done | rfl | exact ⟨rfl, rfl⟩ | exact ⟨rfl, rfl, rfl⟩ | (refine tr_and ?_ ?_ <;> first | rfl | exact ⟨rfl, rfl⟩ | kernel_rfl)
      · have hst : selT s (i + 1) = selT s i ++ [t1 s i] := by rw [selT, d]; rfl
        have hok : upTo (okU s) (i + 1) = true := by rw [upTo, h2]; unfold okU; rw [e]; simp
        simp -implicitDefEqProofs (maxSteps := 2000000) only [go_sem, c1, d', wi, c2, Nat.le_add_right]
        refine call_of (implParseTerm_sat (s.extract i (i + 1)) (by omega)) (by simp -implicitDefEqProofs (maxSteps := 2000000) only [go_sem, e]) (by kernel_rfl) (by simp -implicitDefEqProofs (maxSteps := 2000000) only [go_sem, e]) ?_
        simp -implicitDefEqProofs (maxSteps := 2000000) only [go_sem, e]
        rw [show (pT (s.extract i (i + 1))).1 = t1 s i from rfl]
        repeat (refine And.intro (by omega) ?_)
        rw [wi]
        exact ⟨i + 1, ⟨c1, hok⟩, by omega, (le_st' _ _ [⟨960, some _, false, 1, _⟩] [] _ (by simp -implicitDefEqProofs (maxSteps := 2000000) only [go_sem, hst, repP, List.set_cons_zero] <;> and_intros <;> rfl) (by simp -implicitDefEqProofs (maxSteps := 2000000) only [go_sem, hst, repP, List.set_cons_zero] <;> and_intros <;> rfl) (by simp -implicitDefEqProofs (maxSteps := 2000000) only [go_sem, hst, repP, List.set_cons_zero] <;> and_intros <;> rfl) (by rfl))⟩
    · have d' : (((byA s i : Nat) : Int) == 124) = true := by
        have := of_decide_eq_true d
        rw [this]; rfl
      have hst : selT s (i + 1) = selT s i := by rw [selT, d, if_pos rfl]
      have hok : upTo (okU s) (i + 1) = true := by rw [upTo, h2]; unfold okU; rw [d]; rfl
      simp -implicitDefEqProofs (maxSteps := 2000000) only [go_sem, c1, d']
      rw [wi]
      exact ⟨i + 1, ⟨c1, hok⟩, by omega, (le_st' _ _ [⟨960, some _, false, 1, _⟩] [] _ (by simp -implicitDefEqProofs (maxSteps := 2000000) only [go_sem, hst] <;> and_intros <;> rfl) (by simp -implicitDefEqProofs (maxSteps := 2000000) only [go_sem, hst] <;> and_intros <;> rfl) (by simp -implicitDefEqProofs (maxSteps := 2000000) only [go_sem, hst] <;> and_intros <;> rfl) (by rfl))⟩
  · obtain rfl : i = s.size := by omega
    have hok : okT s = true := h2
    rw [hok]
    simp -implicitDefEqProofs (maxSteps := 2000000) only [go_sem, c1]
    first | done | rfl | exact ⟨rfl, rfl⟩ | exact ⟨rfl, rfl, rfl⟩ | (refine tr_and ?_ ?_ <;> first | rfl | exact ⟨rfl, rfl⟩ | kernel_rfl)
/-! #### the place of a relation -/
theorem relationIndex1_sat (r : Rel) (s : ByteArray) : Sat Tryz.prog 53 [lRel r, .one (.ip [.sc (.string s)])] [lBool (decide (r.name = s))] [g3, g1] := by
  refine sat_of_body mixed Tryz.func53 rfl (by kernel_rfl) (by kernel_rfl) (rs := [.tmp 3]) rfl rfl rfl ?_
  simp -implicitDefEqProofs (maxSteps := 2000000) only [go_sem]
  first | done | rfl | exact ⟨rfl, rfl⟩ | exact ⟨rfl, rfl, rfl⟩ | (refine tr_and ?_ ?_ <;> first | rfl | exact ⟨rfl, rfl⟩ | kernel_rfl)
theorem relIndexF_sat (l : List Rel) (s : ByteArray) (h : l.length ≤ 9223372036854775807) : Sat Tryz.prog 52 [lRels l, .one (.fn 53 [[.sc (.string s)]])] [lInt (relIx l s)] [g1, g1] := by
  refine sat_of_body mixed Tryz.func52 rfl (by kernel_rfl) (by kernel_rfl) (rs := [.tmp 4]) rfl rfl rfl ?_
  unfold relIx
  generalize hp : nameNo l s = p
  have hp' : ∀ i, p i = !decide ((l.getD i default).name = s) := fun i => by rw [← hp]; rfl
  simp -implicitDefEqProofs (maxSteps := 2000000) only [go_sem]
  refine awp_loop Nat (fun k => mkSt [(0, .one (.im 3 (rels l))), (1, .one (.fni 53 [[.sc (.string s)]])), (7, .sc (.int .i64 l.length)), (8, .sc (.int .i64 k))] [] [] 3000)
    (fun k => k ≤ l.length ∧ firstNo p (l.length - k) k = firstNo p l.length 0) (fun k => l.length - k) 0 ⟨by omega, by rw [Nat.sub_zero]⟩ (le_st _ _ [] [] _ rfl (by simp -implicitDefEqProofs (maxSteps := 2000000) only [go_sem] <;> rfl) trivial trivial) ?_
  rintro k ⟨h1, h2⟩
  by_cases c1 : k < l.length
  · have wk : IntKind.i64.wrap ((k : Int) + 1) = ((k + 1 : Nat) : Int) := i64_succ (by omega)
    rw [show l.length - k = (l.length - (k + 1)) + 1 by omega, firstNo, hp'] at h2
    rcases e : decide ((l.getD k default).name = s)
    · rw [e, Bool.not_false, if_pos rfl] at h2
      simp -implicitDefEqProofs (maxSteps := 2000000) only [go_sem, c1]
      refine call_of (relationIndex1_sat (l.getD k default) s) (by simp -implicitDefEqProofs (maxSteps := 2000000) only [go_sem, c1, e]) (by kernel_rfl) (by simp -implicitDefEqProofs (maxSteps := 2000000) only [go_sem, c1, e]) ?_
      simp -implicitDefEqProofs (maxSteps := 2000000) only [go_sem, c1, e]
      rw [wk]
      exact ⟨k + 1, ⟨c1, h2⟩, by omega, (le_st _ _ [] [] _ rfl (by simp -implicitDefEqProofs (maxSteps := 2000000) only [go_sem] <;> rfl) trivial trivial)⟩
    · rw [e, Bool.not_true, if_neg (by simp)] at h2
      simp -implicitDefEqProofs (maxSteps := 2000000) only [go_sem, c1]
      refine call_of (relationIndex1_sat (l.getD k default) s) (by simp -implicitDefEqProofs (maxSteps := 2000000) only [go_sem, c1, e]) (by kernel_rfl) (by simp -implicitDefEqProofs (maxSteps := 2000000) only [go_sem, c1, e]) ?_
      simp -implicitDefEqProofs (maxSteps := 2000000) only [go_sem, c1, e]
      rw [← h2]
  · obtain rfl : k = l.length := by omega
    rw [Nat.sub_self, firstNo] at h2
    simp -implicitDefEqProofs (maxSteps := 2000000) only [go_sem, c1]
    rw [← h2]
theorem implRelationIndex_sat (l : List Rel) (s : ByteArray) (h : l.length ≤ 9223372036854775807) : Sat Tryz.prog 19 [lRels l, lStr s] [lInt (relIx l s)] [g1, g1] := by
  refine sat_of_body mixed Tryz.func19 rfl (by kernel_rfl) (by kernel_rfl) (rs := [.tmp 4]) rfl rfl rfl ?_
  simp -implicitDefEqProofs (maxSteps := 2000000) only [go_sem]
  refine call_of (relIndexF_sat l s h) (by simp -implicitDefEqProofs (maxSteps := 2000000) only [go_sem]) (by kernel_rfl) (by simp -implicitDefEqProofs (maxSteps := 2000000) only [go_sem]) ?_
  simp -implicitDefEqProofs (maxSteps := 2000000) only [go_sem]
end Go.Proofs.YtedciihjgbkjgacGreatDoor.A


/- slices.Delete OF ONE ATOM, as a contract of the abstract semantics. Conditions: none. -/
namespace Go.Proofs.YtedciihjgbkjgacGreatDoor.A
open Go Go.RowKit Go.Lib
set_option linter.unusedSimpArgs false
set_option linter.unusedVariables false

/-! #### what lies in a block behind cells that are set -/
theorem heap_setCells (b : Nat) : ∀ (vs : List Value) (o : Nat) (w : World) (c : Array Value) (t : TypeId), w.heap[b]? = some (.cells c t (0, 0)) → o + vs.length ≤ c.size →
    ∃ c' : Array Value, (w.setCells b o vs).heap[b]? = some (.cells c' t (0, 0)) ∧ c'.size = c.size ∧ ∀ k : Nat, c'[k]? = if o ≤ k ∧ k < o + vs.length then vs[k - o]? else c[k]?
  | [], o, w, c, t, h, _ => ⟨c, h, rfl, fun k => by rw [if_neg (by simp)]⟩
  | v :: r, o, w, c, t, h, hl => by
    rw [List.length_cons] at hl
    have h1 : (w.setCell ⟨b, o, none⟩ v).heap[b]? = some (.cells (c.setIfInBounds o v) t (0, 0)) := by
      have hb : b < w.heap.size := (Array.getElem?_eq_some_iff.1 h).1
      have hv : w.heap[b] = .cells c t (0, 0) := (Array.getElem?_eq_some_iff.1 h).2
      simp [World.setCell, Array.getElem?_modify, h]
    obtain ⟨c', h2, h3, h4⟩ := heap_setCells b r (o + 1) _ _ t h1 (by simp; omega)
    refine ⟨c', h2, by simpa using h3, fun k => ?_⟩
    rw [h4 k, List.length_cons]
    by_cases e : k = o
    · subst e
      rw [if_neg (by omega), if_pos (by omega), Nat.sub_self, List.getElem?_cons_zero, Array.getElem?_setIfInBounds_self_of_lt (by omega)]
    · by_cases e2 : o + 1 ≤ k ∧ k < o + 1 + r.length
      · rw [if_pos e2, if_pos (by omega), show k - o = (k - (o + 1)) + 1 by omega, List.getElem?_cons_succ]
      · rw [if_neg e2, if_neg (by omega), Array.getElem?_setIfInBounds_ne (by omega)]
theorem heap_setCells_ne (b : Nat) {k : Nat} (h : k ≠ b) : ∀ (vs : List Value) (o : Nat) (w : World), (w.setCells b o vs).heap[k]? = w.heap[k]?
  | [], _, _ => rfl
  | v :: r, o, w => by
    rw [World.setCells, heap_setCells_ne b h r]
    simp [World.setCell, Array.getElem?_modify, Ne.symm h]
theorem setCells_rest (b : Nat) : ∀ (vs : List Value) (o : Nat) (w : World), (w.setCells b o vs).os = w.os ∧ (w.setCells b o vs).tape = w.tape ∧ (w.setCells b o vs).output = w.output ∧ (w.setCells b o vs).heap.size = w.heap.size
  | [], _, _ => ⟨rfl, rfl, rfl, rfl⟩
  | v :: r, o, w => by
    obtain ⟨h1, h2, h3, h4⟩ := setCells_rest b r (o + 1) (w.setCell ⟨b, o, none⟩ v)
    exact ⟨h1, h2, h3, by rw [World.setCells, h4]; simp [World.setCell]⟩
def zAt : List Value := [.int .i64 0, .slice none 0 0]
/-- 'clear' of one atom. -/
theorem run_clear_atom (w : World) (e ty t : TypeId) (ht : Tryz.prog.underlying t = some (.slice e)) (hv : ∀ w, (zeroValue e).run Tryz.prog w = .ok (.agg zAt.toArray) w) (b o c : Nat)
    (hc : ∀ j, j < 2 → (w.cell? ⟨b, o + j, none⟩).isSome = true) (hf : ∀ j, j < 2 → w.frozen? ⟨b, o + j, none⟩ = false) :
    (Builtin.clear_ #[t] ty #[.slice (some ⟨b, o, none⟩) 1 c]).run Tryz.prog w = .ok (.tuple #[]) (w.setCells b o zAt) := by
  have hst := run_storeCells_cells (P := Tryz.prog) b o zAt 0 w (by simpa [zAt] using hc) (by simpa [zAt] using hf) (by intro v hv'; simp [zAt] at hv'; rcases hv' with rfl | rfl <;> rfl)
  simp only [Nat.add_zero] at hst
  have hz : (Builtin.zeroCells (Value.agg zAt.toArray).cells 1).toList = zAt := by kernel_rfl
  simp [Builtin.clear_, run_underlying ht, hv, hz, hst]
/-! #### the call -/
theorem entersD {P : Program} {f : FuncId} {fn : Func} {c : Code} (hf : P.funcs[f]? = some fn) (hb : fn.body = some c) (hn : (fn.name == "runtime.NumGoroutine") = false) (vs : Array Value) (W : World) : (callFunc f vs).run P W = .ok (.enter f vs) W := by
  have h1 : fn.name ≠ "runtime.NumGoroutine" := by simpa using hn
  simp [callFunc, hf, h1, hb, Sem.run, program]
theorem ris_erase (s : Nat) (l : List RI) (i : Nat) : (ris s l).eraseIdx i = ris s (l.eraseIdx i) := by
  unfold ris
  refine List.ext_getElem? fun m => ?_
  rw [List.getElem?_eraseIdx, List.getElem?_map, List.getElem?_map, List.getElem?_map, List.getElem?_eraseIdx]
  split <;> rfl
def delL (i : Nat) : Lab → Lab
  | .own 0 => .own 4096
  | .inn 0 p j => if p < i then .inn 4096 p j else if p = i then .far else .inn 4096 (p - 1) j
  | L => L
theorem delL_inn {i p j : Nat} : delL i (.inn 0 (if p < i then p else p + 1) j) = .inn 4096 p j := by
  unfold delL
  by_cases h : p < i
  · rw [if_pos h]; simp [h]
  · rw [if_neg h]; simp only; rw [if_neg (by omega), if_neg (by omega), Nat.add_sub_cancel]
end Go.Proofs.YtedciihjgbkjgacGreatDoor.A


/- THE REGION THAT APPENDS TO A SLICE WITH TWO OWNERS: by hand. Conditions: none. -/
namespace Go.Proofs.YtedciihjgbkjgacGreatDoor.A
open Go Go.RowKit Go.Lib
set_option linter.unusedSimpArgs false
set_option linter.unusedVariables false

theorem step_calls {P : Program} {ops : Array Oper} {o : Oper} {a : Act} {w : World} {K : Act → World → Prop} {Q : Exit → Act → World → Prop} {E : Prop}
    (hg : o.guard = none) (f : FuncId) (x : Operand) (t : TypeId) (hop : o.op = Op.call { callee := Callee.value (Operand.func f), args := #[x], argTypes := #[t] })
    {fn : Func} {c : Code} (hf : P.funcs[f]? = some fn) (hb : fn.body = some c) (hn : (fn.name == "runtime.NumGoroutine") = false)
    (u v : Value) (hu : a.eval x = u) (hc : Calls P f #[u] w fun e w' => e = .returned v ∧ w' = w) (hK : K (a.put o.dst v) w) :
    if Region.wanted o (yielded ops a.tmps) = true then Oper.wp P o a w K Q else E := by
  have hw : Region.wanted o (yielded ops a.tmps) = true := by simp [Region.wanted, hg]
  rw [if_pos hw]
  have hcf : (callFunc f #[u]).run P w = .ok (.enter f #[u]) w := by
    have h1 : fn.name ≠ "runtime.NumGoroutine" := by simpa using hn
    simp [callFunc, hf, h1, hb, Sem.run, program]
  unfold Oper.wp
  have he : (execOp a.eval o).run P w = .ok (.enter f #[u]) w := by
    simp [execOp, hop, resolve, Deferred.ofValue, invoke, Act.eval] at hu ⊢
    rw [hu]; exact hcf
  rw [he, Oper.upon_enter]
  refine hc.mono ?_
  rintro e w' ⟨rfl, rfl⟩
  exact hK
/-- What an append leaves of the world. -/
structure AppR (w W1 : World) (b n : Nat) (c : Array Value) (t : TypeId) (b1 : Nat) (ys : List Value) : Prop where
  os : W1.os = w.os
  tape : W1.tape = w.tape
  output : W1.output = w.output
  size : w.heap.size ≤ W1.heap.size
  same : ∀ k, k < w.heap.size → k ≠ b → W1.heap[k]? = w.heap[k]?
  blk : w.heap[b]? = some (.cells c t (0, 0)) → ∃ c1 : Array Value, W1.heap[b]? = some (.cells c1 t (0, 0)) ∧ c1.size = c.size ∧ ∀ k : Nat, k < n → c1[k]? = c[k]?
  new : ∀ (j : Nat) (u : Value), ys[j]? = some u → W1.cell? ⟨b1, 0 + j, none⟩ = some u
/-- What is appended to: a slice with its block, or none. -/
def App1 (H : Array Obj) (hd : Value) (b n cap : Nat) (c : Array Value) (tb : TypeId) (olds : List Value) : Prop :=
  (hd = .slice (some ⟨b, 0, none⟩) n cap ∧ n ≤ cap ∧ H[b]? = some (.cells c tb (0, 0)) ∧ c.size = cap ∧ ∀ (j : Nat) (u : Value), olds[j]? = some u → c[j]? = some u) ∨ ((∃ A, hd = .slice A 0 0) ∧ n = 0)
theorem step_app {P : Program} {ops : Array Oper} {o : Oper} {a : Act} {w : World} {K : Act → World → Prop} {Q : Exit → Act → World → Prop} {E : Prop}
    (hg : o.guard = none) (s x : Operand) (t : TypeId) (hop : o.op = Op.call { callee := Callee.builtin Builtin.append, args := #[s, x], argTypes := #[t, t] })
    (e : TypeId) (i : TypeInfo) (z : Value) (bytes : Nat) (h1 : P.underlying t = some (.slice e)) (h2 : P.info? e = some i) (h3 : i.zero = some z) (h4 : i.size = 1) (h5 : i.bytes = bytes) (h6 : z.cells.size = 1)
    (hd : Value) (b n cap : Nat) (c : Array Value) (tb : TypeId) (olds : List Value) (hs : a.eval s = hd) (hap : App1 w.heap hd b n cap c tb olds) (hlo : olds.length = n)
    (nb : Nat) (nw : Value) (h1w : nw.oneCell' = true) (hx : a.eval x = .slice (some ⟨nb, 0, none⟩) 1 1) (hnb : w.cell? ⟨nb, 0, none⟩ = some nw) (hnn : n ≤ 1048576) (hby : bytes ≤ 4096)
    (hK : ∀ W1 b1 cap1, AppR w W1 b n c tb b1 (olds ++ [nw]) → K (a.put o.dst (.slice (some ⟨b1, 0, none⟩) (n + 1) cap1)) W1) :
    if Region.wanted o (yielded ops a.tmps) = true then Oper.wp P o a w K Q else E := by
  have hw : Region.wanted o (yielded ops a.tmps) = true := by simp [Region.wanted, hg]
  rw [if_pos hw]
  rcases hap with ⟨hd1, hn, hb, hsz, holds⟩ | ⟨⟨A, hd1⟩, hn0⟩
  case inr =>
    subst hn0
    subst hd1
    have ho : olds = [] := List.length_eq_zero_iff.mp hlo
    subst ho
    have hnw : ∀ (j : Nat) (v : Value), [nw][j]? = some v → w.cell? ((⟨nb, 0, none⟩ : Addr).add j) = some v := by
      intro j u hu
      rcases j with _ | j
      · cases hu; simpa [Addr.add] using hnb
      · cases hu
    have hrun : ∃ cap1 zs, (Builtin.append_ #[t, t] o.type #[.slice A 0 0, .slice (some ⟨nb, 0, none⟩) 1 1]).run P w = .ok (.slice (some ⟨w.heap.size, 0, none⟩) 1 cap1) (w.drew.alloc (.cells (([nw] : List Value).toArray ++ zs) e)) := by
      cases A with
      | none => exact ⟨_, _, run_append_nil (P := P) (w := w) t o.type e i z h1 h2 h3 ⟨nb, 0, none⟩ 1 1 [nw] (by rw [h4]; rfl) hnw (by omega) (by omega) (by omega)⟩
      | some A =>
        have hr := run_append_grow (P := P) (w := w) t o.type e i z h1 h2 h3 A 0 0 [] (by simp) (by simp) ⟨nb, 0, none⟩ 1 1 [nw] (by rw [h4]; rfl) hnw (by omega) (by omega) (by
          rw [nextslicecap_zero (by omega)]; omega)
        exact ⟨grownCap w 1 0 e, Builtin.zeroCells z.cells (grownCap w 1 0 e - 1), by simpa using hr⟩
    obtain ⟨cap1, zs, hrun⟩ := hrun
    have hk := hK (w.drew.alloc (.cells (([nw] : List Value).toArray ++ zs) e)) w.heap.size cap1 ⟨rfl, rfl, rfl, by rw [alloc_size]; exact Nat.le_succ _, fun k hk _ => by
      rw [alloc_get, if_neg (by show k ≠ w.heap.size; omega)]; rfl, fun hb => ⟨c, by
      have := (Array.getElem?_eq_some_iff.mp hb).1
      rw [alloc_get, if_neg (by show b ≠ w.heap.size; omega)]; exact hb, rfl, fun _ _ => rfl⟩, fun j u hu => by
      rw [cell_cells (by rw [alloc_get]; exact if_pos rfl)]
      rcases j with _ | j
      · cases hu; rw [Array.getElem?_append_left (by simp)]; rfl
      · cases hu⟩
    unfold Oper.wp
    simp [execOp, hop, resolve, invoke, builtin, hs, hx, hrun, Result.andThen]
    exact hk
  rw [hd1] at hs
  have hcell : ∀ k, w.cell? ⟨b, k, none⟩ = c[k]? := fun k => cell_cells hb
  have hnews : ∀ (j : Nat) (u : Value), [nw][j]? = some u → w.cell? ((⟨nb, 0, none⟩ : Addr).add j) = some u := by
    intro j u hu
    rcases j with _ | j
    · cases hu; simpa [Addr.add] using hnb
    · cases hu
  have hb' : b < w.heap.size := (Array.getElem?_eq_some_iff.mp hb).1
  by_cases hr : n + 1 ≤ cap
  · have hrun := run_append_room_cells (P := P) w t o.type e i h1 h2 b 0 n cap ⟨nb, 0, none⟩ 1 1 [nw] (by rw [h4]; rfl) hnews (by intro u hu; rw [List.mem_singleton.mp hu]; exact h1w) hr
      (fun j hj => by rw [hcell, Array.getElem?_eq_getElem (by rw [h4]; simp at hj; omega)]; rfl) (fun j hj => by simp [World.frozen?, hb])
    rw [h4, Nat.zero_add, Nat.mul_one] at hrun
    obtain ⟨c1, k1, k2, k3⟩ := heap_setCells b [nw] n w c tb hb (by simp; omega)
    obtain ⟨r1, r2, r3, r4⟩ := setCells_rest b [nw] n w
    have hk := hK (w.setCells b n [nw]) b cap ⟨r1, r2, r3, by rw [r4]; exact Nat.le_refl _, fun k hk hkb => heap_setCells_ne b hkb _ _ _, fun _ => ⟨c1, k1, k2, fun k hk => by rw [k3, if_neg (by omega)]⟩, fun j u hu => by
      rw [cell_cells k1, k3, Nat.zero_add]
      rcases Nat.lt_or_ge j n with hj | hj
      · rw [if_neg (by omega)]
        rw [List.getElem?_append_left (by omega)] at hu
        exact holds j u hu
      · rw [List.getElem?_append_right (by omega), hlo] at hu
        have hj1 : j - n < 1 := (List.getElem?_eq_some_iff.mp hu).1
        rw [if_pos (by simp; omega)]
        exact hu⟩
    unfold Oper.wp
    simp [execOp, hop, resolve, invoke, builtin, hs, hx, hrun, Result.andThen]
    exact hk
  · obtain ⟨v', w', hrun, hown, hgrow⟩ := run_append_arg_grows (P := P) w t o.type e i z 1 bytes h1 h2 h3 h4 h5 h6 (by omega) ⟨b, 0, none⟩ n cap olds (by omega) (fun j u hu => by
        rw [Addr.add_lit, Nat.zero_add, hcell]; exact holds j u hu) ⟨nb, 0, none⟩ 1 1 [nw] rfl hnews (by omega) (by simp only [maxLen]; omega) (by
        have := Nat.mul_le_mul (show n + 1 ≤ 1048577 by omega) hby; omega)
    obtain ⟨g1, ⟨g2, g3⟩ | ⟨g, cap1, cur, rfl, g4, g5, g6, g7, g8, g9⟩⟩ := hown
    · omega
    obtain ⟨q1, q2, q3, q4, q5⟩ := hgrow
    have hk := hK w' g cap1 ⟨by first | exact q1 | exact q1.symm, by first | exact q2 | exact q2.symm, by first | exact q3 | exact q3.symm, q4, fun k hk _ => by have := q5 k hk (by simp); first | exact this | exact this.symm, fun _ => ⟨c, by have := q5 b hb' (by simp); first | exact this.trans hb | exact this.symm.trans hb, rfl, fun _ _ => rfl⟩, fun j u hu => by
      rw [cell_cells g5, Nat.zero_add]
      have hj : j < n + 1 := by have := (List.getElem?_eq_some_iff.mp hu).1; rw [List.length_append, hlo] at this; exact this
      rw [← g9, List.getElem?_take, if_pos (by omega)] at hu
      simpa using hu⟩
    unfold Oper.wp
    simp [execOp, hop, resolve, invoke, builtin, hs, hx, hrun, Result.andThen]
    exact hk
/-- A function's region of this number. -/
def regionNo (n : Nat) : Code → Option Code
  | .region i ops d => if i = n then some (.region i ops d) else none
  | .seq a b => match regionNo n a with
    | some c => some c
    | none => regionNo n b
  | .cond _ a b => match regionNo n a with
    | some c => some c
    | none => regionNo n b
  | .block _ b => regionNo n b
  | .loop b => regionNo n b
  | _ => none
noncomputable def regMax : Code := (Tryz.f6.body.bind (regionNo 15)).getD .skip
theorem AppR.var {w W1 : World} {b n b1 : Nat} {c : Array Value} {t : TypeId} {ys : List Value} (R : AppR w W1 b n c t b1 ys) {bv : Nat} {cv : Array Value} {tv : TypeId} (hv : w.heap[bv]? = some (.cells cv tv (0, 0))) (hne : bv ≠ b) : W1.heap[bv]? = some (.cells cv tv (0, 0)) := by
  rw [R.same bv (Array.getElem?_eq_some_iff.mp hv).1 hne, hv]
theorem frz0 {W : World} {b : Nat} {c : Array Value} {t : TypeId} (h : W.heap[b]? = some (.cells c t (0, 0))) (k : Nat) : W.frozen? ⟨b, k, none⟩ = false := by simp [World.frozen?, h]
theorem AppR.ints {w W1 : World} {b n b1 : Nat} {c : Array Value} {t : TypeId} {zs : List Int} (R : AppR w W1 b n c t b1 (zs.map (Value.int .i64))) : ∀ j, j < zs.length → W1.cell? ⟨b1, 0 + j, none⟩ = some (.int .i64 (zs.getD j 0)) := fun j hj =>
  R.new j _ (by simp [List.getD_eq_getElem?_getD, hj])
/-- The region's end. -/
def RegEnd (W : World) (tmps : Array Value) (bv b n : Nat) (c : Array Value) (t : TypeId) (zs : List Int) (v : Int) (Q : Act → World → Prop) : Prop :=
  ∀ (ts : Array Value) (W0 W1 W2 : World) (b1 : Nat) (T : TypeId), W0.heap = (W.alloc (.cells #[.int .i64 (-1)] T)).heap → W0.os = W.os ∧ W0.tape = W.tape ∧ W0.output = W.output → AppR W0 W1 b n c t b1 (zs.map (Value.int .i64)) →
    W2.heap = (W1.setCell ⟨bv, 0, none⟩ (.int .i64 v)).heap → W2.os = W1.os ∧ W2.tape = W1.tape ∧ W2.output = W1.output → ts.size = 83 → (∀ i, i < 66 ∨ 74 < i → ts.getD i undef = tmps.getD i undef) → Q ⟨ts, []⟩ W2
def onlyN (Q : Act → World → Prop) : Exit → Act → World → Prop
  | .normal, a, w => Q a w
  | _, _, _ => False
theorem getD_low {i n : Nat} (a b : Array Value) (h : a.toList.take n = b.toList.take n) (hi : i < n) : a.getD i undef = b.getD i undef := by
  have h1 : (a.toList.take n)[i]? = (b.toList.take n)[i]? := by rw [h]
  rw [List.getElem?_take, List.getElem?_take, if_pos hi, if_pos hi] at h1
  simp only [Array.getD_eq_getD_getElem?, ← Array.getElem?_toList, h1]
theorem getD_high {i n : Nat} (a b : Array Value) (h : a.toList.drop (n + 1) = b.toList.drop (n + 1)) (hi : n < i) : a.getD i undef = b.getD i undef := by
  have h1 : (a.toList.drop (n + 1))[i - (n + 1)]? = (b.toList.drop (n + 1))[i - (n + 1)]? := by rw [h]
  rw [List.getElem?_drop, List.getElem?_drop, show n + 1 + (i - (n + 1)) = i by omega] at h1
  simp only [Array.getD_eq_getD_getElem?, ← Array.getElem?_toList, h1]
set_option maxHeartbeats 8000000 in
set_option maxRecDepth 1000000 in
theorem regMax_lit {Q : Act → World → Prop} (W : World) (x : Nat → Value) (hd : Value) (bv b n cap : Nat) (cv c : Array Value) (tv t : TypeId) (xs : List Int) (m0 mx : Int)
    (hxs : xs.length = n) (hv : W.heap[bv]? = some (.cells cv tv (0, 0))) (h0 : cv[0]? = some (.int .i64 m0)) (hap : App1 W.heap hd b n cap c t (xs.map (Value.int .i64))) (hbv : bv ≠ b)
    (hn : n ≤ 1048576) (hmx : mx = Lib.maxOf ((xs ++ [-1]).take (n + 1))) (hm : -1000 ≤ mx ∧ mx ≤ 1000)
    (hQ : RegEnd W #[x 0, x 1, x 2, x 3, x 4, x 5, x 6, x 7, x 8, x 9, x 10, .pointer (some ⟨bv, 0, none⟩), x 12, x 13, hd, x 15, x 16, x 17, x 18, x 19, x 20, x 21, x 22, x 23, x 24, x 25, x 26, x 27, x 28, x 29, x 30, x 31, x 32, x 33, x 34, x 35, x 36, x 37, x 38, x 39, x 40, x 41, x 42, x 43, x 44, x 45, x 46, x 47, x 48, x 49, x 50, x 51, x 52, x 53, x 54, x 55, x 56, x 57, x 58, x 59, x 60, x 61, x 62, x 63, x 64, x 65, x 66, x 67, x 68, x 69, x 70, x 71, x 72, x 73, x 74, x 75, x 76, x 77, x 78, x 79, x 80, x 81, x 82] bv b n c t (xs ++ [-1]) (max m0 (mx + 1)) Q) :
    regMax.wp Tryz.prog (onlyN Q) ⟨#[x 0, x 1, x 2, x 3, x 4, x 5, x 6, x 7, x 8, x 9, x 10, .pointer (some ⟨bv, 0, none⟩), x 12, x 13, hd, x 15, x 16, x 17, x 18, x 19, x 20, x 21, x 22, x 23, x 24, x 25, x 26, x 27, x 28, x 29, x 30, x 31, x 32, x 33, x 34, x 35, x 36, x 37, x 38, x 39, x 40, x 41, x 42, x 43, x 44, x 45, x 46, x 47, x 48, x 49, x 50, x 51, x 52, x 53, x 54, x 55, x 56, x 57, x 58, x 59, x 60, x 61, x 62, x 63, x 64, x 65, x 66, x 67, x 68, x 69, x 70, x 71, x 72, x 73, x 74, x 75, x 76, x 77, x 78, x 79, x 80, x 81, x 82], []⟩ W := by
  have mixed := mixed
  have hz : (Tryz.prog.info? 3).map (fun i => (i.zero, i.size, i.bytes)) = some (some (.int .i64 0), 1, 8) := by kernel_rfl
  obtain ⟨i0, hi0, hz3⟩ := Option.map_eq_some_iff.mp hz
  clear hz
  have hza : i0.zero = some (.int .i64 0) := congrArg (·.1) hz3
  have hzb : i0.size = 1 := congrArg (·.2.1) hz3
  have hzc : i0.bytes = 8 := congrArg (·.2.2) hz3
  clear hz3
  have hcv : W.cell? ⟨bv, 0, none⟩ = some (.int .i64 m0) := by rw [cell_cells hv, h0]
  have hfv : W.frozen? ⟨bv, 0, none⟩ = false := frz0 hv 0
  have hB : Hid (∀ o : Obj, App1 (W.alloc o).heap hd b n cap c t (xs.map (Value.int .i64))) := fun o => by
    rcases hap with ⟨h1, h2, h3, h4⟩ | h
    · exact .inl ⟨h1, h2, by rw [alloc_get, if_neg (by have := (Array.getElem?_eq_some_iff.mp h3).1; omega)]; exact h3, h4⟩
    · exact .inr h
  have hV : Hid (∀ o : Obj, (W.alloc o).heap[bv]? = some (.cells cv tv (0, 0))) := fun o => by rw [alloc_get, if_neg (by have := (Array.getElem?_eq_some_iff.mp hv).1; omega)]; exact hv
  have hN : Hid (∀ T : TypeId, (W.alloc (.cells #[.int .i64 (-1)] T)).cell? ⟨W.heap.size, 0, none⟩ = some (.int .i64 (-1))) := fun T => cell_cells (show (W.alloc (.cells #[.int .i64 (-1)] T)).heap[W.heap.size]? = some (.cells #[.int .i64 (-1)] T (0, 0)) by rw [alloc_get, if_pos rfl])
  have hM : Hid (∀ (b1 cap1 : Nat) (w : World), (∀ j, j < (xs ++ [-1]).length → w.cell? ⟨b1, 0 + j, none⟩ = some (.int .i64 ((xs ++ [-1]).getD j 0))) → Calls Tryz.prog 20 #[.slice (some ⟨b1, 0, none⟩) (n + 1) cap1] w fun e w' => e = .returned (.int .i64 mx) ∧ w' = w) := fun b1 cap1 w h => by
    have hl : (xs ++ [-1]).length = n + 1 := by rw [List.length_append, hxs]; rfl
    rw [hmx]
    exact max_calls b1 (n + 1) cap1 (xs ++ [-1]) w (by omega) (by omega) (by omega) h
  have hL : Hid ((xs.map (Value.int .i64)).length = n) := by show _ = _; rw [List.length_map, hxs]
  have hA : Hid (xs.map (Value.int .i64) ++ [.int .i64 (-1)] = (xs ++ [-1]).map (Value.int .i64)) := by show _ = _; rw [List.map_append]; rfl
  have hV0 : Hid (cv[0]? = some (.int .i64 m0)) := h0
  have hQ' : Hid (RegEnd W #[x 0, x 1, x 2, x 3, x 4, x 5, x 6, x 7, x 8, x 9, x 10, .pointer (some ⟨bv, 0, none⟩), x 12, x 13, hd, x 15, x 16, x 17, x 18, x 19, x 20, x 21, x 22, x 23, x 24, x 25, x 26, x 27, x 28, x 29, x 30, x 31, x 32, x 33, x 34, x 35, x 36, x 37, x 38, x 39, x 40, x 41, x 42, x 43, x 44, x 45, x 46, x 47, x 48, x 49, x 50, x 51, x 52, x 53, x 54, x 55, x 56, x 57, x 58, x 59, x 60, x 61, x 62, x 63, x 64, x 65, x 66, x 67, x 68, x 69, x 70, x 71, x 72, x 73, x 74, x 75, x 76, x 77, x 78, x 79, x 80, x 81, x 82] bv b n c t (xs ++ [-1]) (max m0 (mx + 1)) Q) := hQ
  have w1 : IntKind.i64.wrap (mx + 1) = mx + 1 := IntWalk.i64_in _ (by omega)
  have hcv2 : ∀ o : Obj, (W.alloc o).cell? ⟨bv, 0, none⟩ = some (.int .i64 m0) := fun o => (cell_cells (hV.out o)).trans hV0.out
  clear hQ h0 hap hv hmx hxs
  conv in regMax => whnf
  go_region_law (first | (refine step_app rfl (.tmp 68) (.tmp 69) 26 rfl 3 i0 (.int .i64 0) 8 Tryz.underlying26 hi0 hza hzb hzc rfl hd b n cap c t (xs.map (Value.int .i64)) (by simp [Act.eval, Act.put]) (hB.out _) hL.out W.heap.size (.int .i64 (-1)) rfl (by simp [Act.eval, Act.put]) (hN.out _) hn (by decide) ?_; rw [hA.out]; intro W1 b1 cap1 R; have k0 := Lib.hid (R.var (hV.out _) hbv); have k1 : W1.cell? ⟨bv, 0, none⟩ = some (.int .i64 m0) := (cell_cells k0.out).trans hV0.out; have k2 : W1.frozen? ⟨bv, 0, none⟩ = false := frz0 k0.out 0) | (refine step_calls rfl 20 (.tmp 70) 26 rfl Tryz.func20 rfl (by kernel_rfl) (.slice (some ⟨b1, 0, none⟩) (n + 1) cap1) (.int .i64 mx) (by simp [Act.eval, Act.put]) (hM.out b1 cap1 _ R.ints) ?_))
  all_goals
    refine hQ'.out _ _ _ _ _ 3 ?_ ?_ R ?_ ?_ ?_ ?_
    · rfl
    · exact ⟨rfl, rfl, rfl⟩
    · rfl
    · exact ⟨rfl, rfl, rfl⟩
    · rfl
    · intro i hi
      rcases Nat.lt_or_ge i 83 with h | h
      · rcases hi with hi | hi
        · exact getD_low _ _ rfl hi
        · exact getD_high _ _ rfl hi
      · simp [Array.getD, Nat.not_lt.mpr h]
end Go.Proofs.YtedciihjgbkjgacGreatDoor.A


/- THE REGION THAT APPENDS TO A SLICE WITH TWO OWNERS, seen from the state. Conditions: none. -/
namespace Go.Proofs.YtedciihjgbkjgacGreatDoor.A
open Go Go.RowKit Go.Lib
set_option linter.unusedSimpArgs false
set_option linter.unusedVariables false

def spillL (W W' : World) (lab : Nat → Lab) : Nat → Lab := fun b => if b < W.heap.size then lab b else if b < W'.heap.size then .far else .dead
section sp
variable {cx : Cx} {st : St} {sh : Sh} {a : Act} {W : World} {Fr : Nat → Prop}
/-- Blocks on which nothing leans change, and new ones appear. -/
theorem InvS.spill (h : InvS cx st sh a W Fr) (hpins : ∀ q ∈ cx.pins, q.1 < 1000) {W' : World} (h2 : W'.os = W.os) (h3 : W'.tape = W.tape) (h4 : W'.output = W.output) (hsz : W.heap.size ≤ W'.heap.size)
    (hag : ∀ b, b < W.heap.size → sh.lab b ≠ .far → W'.heap[b]? = W.heap[b]?) (hfar : ∀ b, b < cx.W0.heap.size → cx.lab0 b = .far → W'.heap[b]? = W.heap[b]?) : InvS cx st ⟨spillL W W' sh.lab, sh.μ, sh.β⟩ a W' Fr := by
  have ag : Agree W sh.lab W' (spillL W W' sh.lab) (fun L => L ≠ .dead ∧ L ≠ .far) := fun b hb => by
    have hlt := h.below hb.1
    exact ⟨by unfold spillL; rw [if_pos hlt], hag b hlt hb.2⟩
  have k : Keeps st W sh ⟨st.slots, st.vars, st.objs, st.next⟩ W' ⟨spillL W W' sh.lab, sh.μ, sh.β⟩ (fun _ => False) := by
    refine ⟨agree_mono ag (by rintro _ rfl; simp), fun id _ hv => ⟨hv, rfl⟩, fun q w rows' _ hs => ⟨rfl, rows', hs, rfl, fun i j s xs' _ _ hc => ⟨xs', hc, rfl, headAt_agree fun b' L n e => ?_⟩⟩⟩
    have hne : rows' ≠ [] := by
      intro e; rw [e] at hc; have := (cell_ne hc).1; simp at this
    refine (ag b' ?_).2
    rw [h.own_block hs e hne]
    simp
  refine h.move k (fun _ h => h.elim) (fun _ h => h) ?_ (fun id fs hf => ?_) (fun id w rows hs => ?_) (fun id hf => ⟨(h.fresh id hf).1, (h.fresh id hf).2.1⟩) h.stamps (fun id _ hs => ⟨hs, rfl⟩) (fun id _ hv => ⟨hv, rfl⟩) hpins
  · obtain ⟨g1, g2, g3, g4, g5, g6⟩ := h.ext
    refine ⟨by rw [h2, g1], by rw [h3, g2], by rw [h4, g3], Nat.le_trans g4 hsz, fun b hb hl => ?_, fun b hb => ?_⟩
    · obtain ⟨k1, k2⟩ := g5 b hb hl
      have hlt := Nat.lt_of_lt_of_le hb g4
      refine ⟨by show spillL W W' sh.lab b = _; unfold spillL; rw [if_pos hlt, k1], ?_⟩
      rcases hl with hl | hl
      · rw [hag b hlt (by rw [k1, hl]; simp), k2]
      · rw [hfar b hb hl, k2]
    · show spillL W W' sh.lab b = _
      unfold spillL; rw [if_neg (by omega), if_neg (by omega)]
  · obtain ⟨g1, c, t, g2, g3⟩ := h.vars id fs hf
    have := ag (sh.β id) (by rw [g1]; simp)
    exact ⟨⟨this.1.trans g1, c, t, by rw [this.2]; exact g2, all2_mono (fun s u m g => svRep_keeps k (fun _ _ h => h) g) g3⟩, fun id' hf' s m => (h.fresh id' hf').2.2.2 id fs hf s m⟩
  · exact ownRep_agree ag (by simp) (by simp) (by simp) (h.objs id w rows hs)
/-- Slots are forgotten. -/
theorem InvS.unslot (h : InvS cx st sh a W Fr) {ts : Array Value} (hts : ts.size = cx.n) {slots' : Nat → AV} (hs : ∀ t, slots' t = .un ∨ slots' t = st.slots t ∧ ts.getD t undef = a.tmps.getD t undef) : InvS cx ⟨slots', st.vars, st.objs, st.next⟩ sh ⟨ts, []⟩ W Fr := by
  have k : Keeps st W sh ⟨slots', st.vars, st.objs, st.next⟩ W sh (fun _ => False) := Keeps.same rfl rfl
  refine ⟨rfl, hts, h.ext, fun t => ?_, fun id fs hf => ?_, h.objs, fun id hf => ?_, h.low, h.stamps, h.pinO, h.pinV⟩
  · rcases hs t with e | ⟨e, e2⟩
    · show AVRep _ W sh (slots' t) _
      rw [e]; trivial
    · show AVRep _ W sh (slots' t) (ts.getD t undef)
      rw [e, e2]
      exact avRep_keeps k (fun _ _ h => h) (h.slots t)
  · obtain ⟨g1, c, t, g2, g3⟩ := h.vars id fs hf
    exact ⟨g1, c, t, g2, all2_mono (fun s u m g => svRep_keeps k (fun _ _ h => h) g) g3⟩
  · obtain ⟨g1, g2, g3, g4⟩ := h.fresh id hf
    refine ⟨g1, g2, fun t => ?_, g4⟩
    rcases hs t with e | ⟨e, -⟩
    · show id ∉ (slots' t).ids
      rw [e]; simp [AV.ids, AV.svs, Pk.svs, SV.ids]
    · show id ∉ (slots' t).ids
      rw [e]; exact g3 t
end sp
theorem setCell_row {W : World} {b : Nat} {c : Array Value} {t : TypeId} {v : Value} (h : W.heap[b]? = some (.cells c t (0, 0))) : (W.setCell ⟨b, 0, none⟩ v).heap = (W.setRow b (c.setIfInBounds 0 v)).heap := by
  unfold World.setCell World.setRow
  apply Array.ext_getElem?
  intro i
  simp only [Array.getElem?_modify]
  by_cases e : b = i
  · subst e
    simp [h]
  · simp [e]
theorem lit83 (ts : Array Value) (h : ts.size = 83) : ∃ x : Nat → Value, (∀ i, x i = ts.getD i undef) ∧ ts = #[x 0, x 1, x 2, x 3, x 4, x 5, x 6, x 7, x 8, x 9, x 10, x 11, x 12, x 13, x 14, x 15, x 16, x 17, x 18, x 19, x 20, x 21, x 22, x 23, x 24, x 25, x 26, x 27, x 28, x 29, x 30, x 31, x 32, x 33, x 34, x 35, x 36, x 37, x 38, x 39, x 40, x 41, x 42, x 43, x 44, x 45, x 46, x 47, x 48, x 49, x 50, x 51, x 52, x 53, x 54, x 55, x 56, x 57, x 58, x 59, x 60, x 61, x 62, x 63, x 64, x 65, x 66, x 67, x 68, x 69, x 70, x 71, x 72, x 73, x 74, x 75, x 76, x 77, x 78, x 79, x 80, x 81, x 82] := by
  refine ⟨fun i => ts.getD i undef, fun _ => rfl, ?_⟩
  have e : ts.toList = (List.range 83).map (fun i => ts.getD i undef) := by
    apply List.ext_getElem?
    intro i
    rcases Nat.lt_or_ge i 83 with hi | hi
    · rw [List.getElem?_map, List.getElem?_range hi]
      simp [h, hi]
    · rw [List.getElem?_eq_none (by simp [h, hi]), List.getElem?_eq_none (by simp [hi])]
  have e2 : ts = ((List.range 83).map (fun i => ts.getD i undef)).toArray := by rw [← e]
  exact e2
def newV (m0 mx : Int) : Int := max m0 (mx + 1)
set_option maxRecDepth 100000 in
theorem regMax_jwp {st : St} {s : Side} {R : Exit → St → Side → Prop} {id : Nat} {m0 mx : Int} {fs : List SV} {hd : Value} {xs : List Int} (h11 : st.slots 11 = .one (.vad id 0)) (hv : st.vars id = some (.sc (.int .i64 m0) :: fs)) (h14 : st.slots 14 = .sc hd)
    (hs : ((∃ A, hd = .slice A 0 0) ∧ xs = []) ∨ (hd, xs.map (Value.int .i64)) ∈ s) (hn : xs.length ≤ 1048576) (hmx : mx = Lib.maxOf (xs ++ [-1])) (hm : -1000 ≤ mx ∧ mx ≤ 1000)
    (hR : R .normal ⟨fun t => if 66 ≤ t ∧ t ≤ 74 then .un else st.slots t, upd st.vars [(id, some (.sc (.int .i64 (newV m0 mx)) :: fs))], st.objs, st.next⟩ s) : Jwp Tryz.prog 83 regMax R st s := by
  rintro cx ⟨ts, ds⟩ W Q hcn hp ⟨sh, hi, hsd⟩ hQ
  have hpins : ∀ q ∈ cx.pins, q.1 < 1000 := fun q hq => by have := hp q hq; omega
  have hds : ds = [] := hi.defers
  subst hds
  have hsz : ts.size = 83 := hi.size.trans hcn
  have e11 : ts.getD 11 undef = .pointer (some ⟨sh.β id, 0, none⟩) := by
    have := hi.slots 11
    rw [h11] at this
    exact this _ hv
  have e14 : ts.getD 14 undef = hd := by
    have := hi.slots 14
    rw [h14] at this
    exact this
  obtain ⟨glab, cv, tv, ghp, gall⟩ := hi.vars id _ hv
  have h0 : cv[0]? = some (.int .i64 m0) := by
    obtain ⟨u, h1, h2⟩ := all2_get gall (k := 0) (a := .sc (.int .i64 m0)) rfl
    have h2 : u = .int .i64 m0 := h2
    rw [h2] at h1; simpa using h1
  have hblk : ∃ (b cap : Nat) (c : Array Value) (t : TypeId), App1 W.heap hd b xs.length cap c t (xs.map (Value.int .i64)) ∧ (b = W.heap.size ∨ (sh.lab b = .far ∧ (b < cx.W0.heap.size → cx.lab0 b ≠ .imm ∧ cx.lab0 b ≠ .far) ∧ W.heap[b]? = some (.cells c t (0, 0)) ∧
      (hd, xs.map (Value.int .i64)) ∈ s ∧ hd = .slice (some ⟨b, 0, none⟩) xs.length cap)) := by
    rcases hs with ⟨h1, h2⟩ | h1
    · exact ⟨W.heap.size, 0, #[], 0, .inr ⟨h1, by rw [h2]; rfl⟩, .inl rfl⟩
    · obtain ⟨b, cap, c, t, g1, g2, g3, g4, g5, g6, g7⟩ := hsd.1 _ h1
      simp only [List.length_map] at g1 g2
      exact ⟨b, cap, c, t, .inl ⟨g1, g2, g5, g6, fun j u hu => (g7 j u hu).2⟩, .inr ⟨g3, g4, g5, h1, g1⟩⟩
  obtain ⟨b, cap, c, t, hap, hbb⟩ := hblk
  have hβ : sh.β id < W.heap.size := (Array.getElem?_eq_some_iff.mp ghp).1
  have hbv : sh.β id ≠ b := by
    rcases hbb with e | ⟨e, -⟩
    · omega
    · rintro e2; rw [e2, e] at glab; cases glab
  obtain ⟨x, hx, hlit⟩ := lit83 ts hsz
  have x11 := (hx 11).trans e11
  have x14 := (hx 14).trans e14
  rw [x11, x14] at hlit
  have hkey := regMax_lit (Q := fun a w => Q .normal a w) W x hd (sh.β id) b xs.length cap cv c tv t xs m0 mx rfl ghp h0 hap hbv hn (by rw [hmx, List.take_of_length_le (by simp)]) hm (by
    rw [← hlit]
    intro ts' W0 W1 W2 b1 T hW0 hW0' hA hW2 hW2' hts' hslots
    refine hQ .normal _ s _ W2 hR ?_
    have hW0s : W0.heap.size = W.heap.size + 1 := by rw [hW0, alloc_size]
    have hW0g : ∀ k, k < W.heap.size → W0.heap[k]? = W.heap[k]? := fun k hk => by rw [hW0, alloc_get, if_neg (by omega)]
    have hsame : ∀ k, k < W.heap.size → k ≠ b → W1.heap[k]? = W.heap[k]? := fun k hk hkb => by rw [hA.same k (by omega) hkb, hW0g k hk]
    have i1 := hi.spill hpins (W' := W1) (by rw [hA.os, hW0'.1]) (by rw [hA.tape, hW0'.2.1]) (by rw [hA.output, hW0'.2.2]) (by have := hA.size; omega) (fun k hk hl => hsame k hk (by
      rcases hbb with e | ⟨e, -⟩
      · omega
      · rintro rfl; exact hl e)) (fun k hk hl => hsame k (Nat.lt_of_lt_of_le hk hi.ext.size) (by
      rcases hbb with e | ⟨e, e2, -⟩
      · have := hi.ext.size; omega
      · rintro rfl; exact (e2 hk).2 hl))
    have ghp1 : W1.heap[sh.β id]? = some (.cells cv tv (0, 0)) := by rw [hsame _ hβ hbv, ghp]
    obtain ⟨-, cv1, tv1, ghp1', gall1⟩ := i1.vars id _ hv
    have : cv1 = cv := by rw [ghp1] at ghp1'; cases ghp1'; rfl
    subst this
    have i2 := i1.setVar hpins hv (c' := cv1.setIfInBounds 0 (.int .i64 (newV m0 mx))) (fs' := .sc (.int .i64 (newV m0 mx)) :: fs) (by
      obtain ⟨l⟩ := cv1
      rcases l with _ | ⟨y, l⟩
      · exact gall1.elim
      · exact ⟨rfl, gall1.2⟩) (fun q hq y hy => by
      rcases List.mem_cons.mp hy with rfl | hy
      · simp [SV.ids]
      · exact (i1.fresh q hq).2.2.2 id _ hv y (List.mem_cons_of_mem _ hy)) (fun _ h => h)
    have i3 := i2.sameHeap hpins (W' := W2) (by rw [hW2]; exact setCell_row ghp1) hW2'.1 hW2'.2.1 hW2'.2.2
    have i4 := i3.unslot (ts := ts') (by rw [hts', hcn]) (slots' := fun t => if 66 ≤ t ∧ t ≤ 74 then .un else st.slots t) (fun t => by
      by_cases e : 66 ≤ t ∧ t ≤ 74
      · exact .inl (if_pos e)
      · exact .inr ⟨if_neg e, hslots t (by omega)⟩)
    refine ⟨_, i4, fun p hp' => ?_, hsd.2⟩
    obtain ⟨b2, cap2, c2, t2, g1, g2, g3, g4, g5, g6, g7⟩ := hsd.1 p hp'
    have hb2 : b2 < W.heap.size := (Array.getElem?_eq_some_iff.mp g5).1
    have hlab2 : spillL W W1 sh.lab b2 = .far := by unfold spillL; rw [if_pos hb2, g3]
    have hne2 : b2 ≠ sh.β id := by rintro rfl; rw [glab] at g3; cases g3
    have hW2g : W2.heap[b2]? = W1.heap[b2]? := by rw [hW2, setCell_row ghp1]; exact setRow_other _ _ _ _ hne2
    by_cases e : b2 = b
    · subst e
      rcases hbb with e | ⟨-, -, f3, f4, f5⟩
      · omega
      have hpq : p = (hd, xs.map (Value.int .i64)) := by
        have hnd := hsd.2
        have heq : blkOf p.1 = blkOf hd := by rw [g1, f5]; rfl
        obtain ⟨i, hi1, hi2⟩ := List.getElem_of_mem hp'
        obtain ⟨j, hj1, hj2⟩ := List.getElem_of_mem f4
        have hpw := List.pairwise_iff_getElem.mp hnd
        have hii : (s.map fun p => blkOf p.1)[i]'(by simpa using hi1) = blkOf p.1 := by rw [List.getElem_map, hi2]
        have hjj : (s.map fun p => blkOf p.1)[j]'(by simpa using hj1) = blkOf hd := by rw [List.getElem_map, hj2]
        rcases Nat.lt_trichotomy i j with hlt | hlt | hlt
        · exact absurd (by rw [hii, hjj]; exact heq) (hpw i j (by simpa using hi1) (by simpa using hj1) hlt)
        · subst hlt; rw [← hi2, hj2]
        · exact absurd (by rw [hii, hjj]; exact heq.symm) (hpw j i (by simpa using hj1) (by simpa using hi1) hlt)
      have hc2 : c2 = c ∧ t2 = t := by rw [g5] at f3; cases f3; exact ⟨rfl, rfl⟩
      obtain ⟨rfl, rfl⟩ := hc2
      obtain ⟨c1, k1, k2, k3⟩ := hA.blk (by rw [hW0g _ hb2, g5])
      refine ⟨b2, cap2, c1, t2, g1, g2, hlab2, g4, by rw [hW2g, k1], by rw [k2, g6], fun k u hk => ?_⟩
      obtain ⟨q1, q2⟩ := g7 k u hk
      have hlt : k < xs.length := by
        have := (List.getElem?_eq_some_iff.mp hk).1
        rw [hpq] at this; simpa using this
      exact ⟨q1, by rw [k3 k hlt, q2]⟩
    · exact ⟨b2, cap2, c2, t2, g1, g2, hlab2, g4, by rw [hW2g, hsame b2 hb2 e, g5], g6, g7⟩)
  rw [← hlit] at hkey
  refine wp_mono hkey ?_
  rintro e a' w' hq
  cases e with
  | normal => exact hq
  | _ => exact hq.elim
end Go.Proofs.YtedciihjgbkjgacGreatDoor.A
