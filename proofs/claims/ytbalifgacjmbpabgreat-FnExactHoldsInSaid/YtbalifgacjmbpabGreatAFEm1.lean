
/- EMBEDDINGS: the plain search. Conditions: none. (No program in sight.) -/
import Derived.Test.YtbalifgacjmbpabGreatAFEmD
import Derived.Test.YtbalifgacjmbpabGreatAFQF
namespace Go.Proofs.YtbalifgacjmbpabGreat.A
open Go
set_option linter.unusedSimpArgs false
set_option linter.unusedVariables false

def stepU (x : List Int) (t f : Int) : Option (List Int) :=
  if t < 0 then (if -1 - t = f then some x else none)
  else if x.getD t.toNat 0 < 0 then some (x.set t.toNat f)
  else if x.getD t.toNat 0 = f then some x else none
def uniS (ts fs vs : List Int) : Nat → Option (List Int)
  | 0 => some vs
  | k + 1 => (uniS ts fs vs k).bind fun x => stepU x (ts.getD k 0) (fs.getD k 0)
theorem stepU_len {x y : List Int} {t f : Int} (h : stepU x t f = some y) : y.length = x.length := by
  unfold stepU at h
  split at h
  · split at h
    · cases h; rfl
    · cases h
  · split at h
    · cases h; simp
    · split at h
      · cases h; rfl
      · cases h
theorem uniS_len {ts fs vs : List Int} : ∀ {k : Nat} {x : List Int}, uniS ts fs vs k = some x → x.length = vs.length
  | 0, x, h => by cases h; rfl
  | k + 1, x, h => by
    rw [uniS] at h
    rcases e : uniS ts fs vs k with _ | y
    · rw [e] at h; cases h
    · rw [e, Option.bind_some] at h
      rw [stepU_len h, uniS_len e]
theorem uniS_none {ts fs vs : List Int} {k : Nat} (h : uniS ts fs vs k = none) : ∀ d : Nat, uniS ts fs vs (k + d) = none
  | 0 => h
  | d + 1 => by rw [← Nat.add_assoc, uniS, uniS_none h d]; rfl
theorem uniS_stop {ts fs vs : List Int} {k n : Nat} (h : uniS ts fs vs k = none) (hn : k ≤ n) : uniS ts fs vs n = none := by
  obtain ⟨d, rfl⟩ := Nat.le.dest hn
  exact uniS_none h d
theorem uniS_step {ts fs vs x : List Int} {k : Nat} (h : uniS ts fs vs k = some x) : uniS ts fs vs (k + 1) = stepU x (ts.getD k 0) (fs.getD k 0) := by
  rw [uniS, h]; rfl
/-- The last state before the search fell. -/
def uniL (ts fs vs : List Int) : Nat → List Int
  | 0 => vs
  | k + 1 => match uniS ts fs vs (k + 1) with
    | some x => x
    | none => uniL ts fs vs k
theorem uniL_some {ts fs vs x : List Int} : ∀ {k : Nat}, uniS ts fs vs k = some x → uniL ts fs vs k = x
  | 0, h => by cases h; rfl
  | k + 1, h => by rw [uniL, h]
theorem uniL_none {ts fs vs x : List Int} {k : Nat} (h : uniS ts fs vs k = some x) (h2 : uniS ts fs vs (k + 1) = none) : ∀ d : Nat, uniL ts fs vs (k + 1 + d) = x
  | 0 => by
    rw [Nat.add_zero, uniL, h2]
    exact uniL_some h
  | d + 1 => by
    rw [← Nat.add_assoc, uniL, show uniS ts fs vs (k + 1 + d + 1) = none from uniS_none (k := k + 1) h2 (d + 1)]
    exact uniL_none h h2 d
theorem uniL_stop {ts fs vs x : List Int} {k n : Nat} (h : uniS ts fs vs k = some x) (h2 : uniS ts fs vs (k + 1) = none) (hn : k < n) : uniL ts fs vs n = x := by
  obtain ⟨d, rfl⟩ := Nat.le.dest (show k + 1 ≤ n from hn)
  exact uniL_none h h2 d
def meet (a f : RI) (vs : List Int) : Option (List Int) := if f.r = a.r then uniS a.l f.l vs a.l.length else none
def meetV (a f : RI) (vs : List Int) : List Int := if f.r = a.r then uniL a.l f.l vs a.l.length else vs
theorem meet_len {a f : RI} {vs x : List Int} (h : meet a f vs = some x) : x.length = vs.length := by
  unfold meet at h
  split at h
  · exact uniS_len h
  · cases h
theorem meetV_eq {a f : RI} {vs x : List Int} (h : meet a f vs = some x) : meetV a f vs = x := by
  unfold meet at h
  unfold meetV
  split at h
  · rw [if_pos (by assumption)]; exact uniL_some h
  · cases h
/-- What one round finds: g tells it of each fact. -/
def found {α : Type} (g : Nat → List α) (k : Nat) : List α := (List.range k).flatMap g
theorem found_zero {α : Type} (g : Nat → List α) : found g 0 = [] := rfl
theorem found_succ {α : Type} (g : Nat → List α) (k : Nat) : found g (k + 1) = found g k ++ g k := by
  unfold found
  rw [List.range_succ, List.flatMap_append]; simp
theorem found_len {α : Type} {g : Nat → List α} {b : Nat} (h : ∀ i, (g i).length ≤ b) : ∀ k, (found g k).length ≤ k * b
  | 0 => by simp [found_zero]
  | k + 1 => by
    rw [found_succ, List.length_append, Nat.add_mul]
    have := found_len h k
    have := h k
    omega
theorem found_mem {α : Type} {g : Nat → List α} {k : Nat} {x : α} : x ∈ found g k ↔ ∃ i, i < k ∧ x ∈ g i := by
  unfold found
  rw [List.mem_flatMap]
  constructor
  · rintro ⟨i, h1, h2⟩; exact ⟨i, by simpa using h1, h2⟩
  · rintro ⟨i, h1, h2⟩; exact ⟨i, by simpa using h1, h2⟩
def atomAt (ats : List RI) (m : Nat) : RI := ats.getD (ats.length - (m + 1)) default
def walkE (ds ats : List RI) : Nat → List Int → List Int → List Emb
  | 0, vs, fs => [⟨vs, fs⟩]
  | m + 1, vs, fs => found (fun i => match meet (atomAt ats m) (ds.getD i default) vs with
    | some x => walkE ds ats m x (fs ++ [(i : Int)])
    | none => []) ds.length
def oneE (ds ats : List RI) (m : Nat) (vs fs : List Int) (i : Nat) : List Emb := match meet (atomAt ats m) (ds.getD i default) vs with
    | some x => walkE ds ats m x (fs ++ [(i : Int)])
    | none => []
theorem walkE_succ (ds ats : List RI) (m : Nat) (vs fs : List Int) : walkE ds ats (m + 1) vs fs = found (oneE ds ats m vs fs) ds.length := rfl
theorem oneE_some {ds ats : List RI} {m i : Nat} {vs fs x : List Int} (h : meet (atomAt ats m) (ds.getD i default) vs = some x) : oneE ds ats m vs fs i = walkE ds ats m x (fs ++ [(i : Int)]) := by unfold oneE; rw [h]
theorem oneE_none {ds ats : List RI} {m i : Nat} {vs fs : List Int} (h : meet (atomAt ats m) (ds.getD i default) vs = none) : oneE ds ats m vs fs i = [] := by unfold oneE; rw [h]
theorem walkE_len {ds ats : List RI} (hd : ds.length ≤ 14) : ∀ (m : Nat) (vs fs : List Int), (walkE ds ats m vs fs).length ≤ 14 ^ m
  | 0, _, _ => by simp [walkE]
  | m + 1, vs, fs => by
    rw [walkE_succ]
    have h1 : ∀ i, (oneE ds ats m vs fs i).length ≤ 14 ^ m := by
      intro i
      unfold oneE
      split
      · exact walkE_len hd m _ _
      · simp
    have h2 := found_len h1 ds.length
    have h3 := Nat.mul_le_mul_right (14 ^ m) hd
    rw [Nat.pow_succ, Nat.mul_comm (14 ^ m)]
    omega
theorem walkE_mem {ds ats : List RI} : ∀ {m : Nat} {vs fs : List Int}, ∀ e ∈ walkE ds ats m vs fs, e.vs.length = vs.length ∧ e.fs.length = fs.length + m
  | 0, vs, fs, e, h => by
    simp only [walkE, List.mem_singleton] at h
    subst h; exact ⟨rfl, rfl⟩
  | m + 1, vs, fs, e, h => by
    rw [walkE_succ, found_mem] at h
    obtain ⟨i, _, h⟩ := h
    unfold oneE at h
    split at h
    · rename_i x hx
      obtain ⟨h1, h2⟩ := walkE_mem e h
      rw [List.length_append, List.length_singleton] at h2
      exact ⟨by rw [h1, meet_len hx], by omega⟩
    · cases h
theorem pow14E {m : Nat} (h : m ≤ 3) : 14 ^ m ≤ 2744 := Nat.pow_le_pow_right (by omega) h
/-- ALL EMBEDDINGS. -/
def embs (d : Db) (q : Qu) : List Emb := if queryFor d q then walkE d.facts q.atoms q.atoms.length (List.replicate q.vc.toNat (-1)) [] else []
theorem queryFor_db {d : Db} {q : Qu} (h : queryFor d q = true) : goodDb d = true := by
  unfold queryFor at h; rw [Bool.and_eq_true] at h; exact h.1
theorem queryFor_qu {d : Db} {q : Qu} (h : queryFor d q = true) : goodQu d.rels q = true := by
  unfold queryFor at h; rw [Bool.and_eq_true] at h; exact h.2
theorem goodDb_len {d : Db} (h : goodDb d = true) : d.facts.length ≤ 14 := by
  unfold goodDb at h
  simp only [Bool.and_eq_true, decide_eq_true_eq] at h
  omega
theorem goodQu_parts {l : List Rel} {q : Qu} (h : goodQu l q = true) : (0 ≤ q.vc ∧ q.vc ≤ 4) ∧ 1 ≤ q.atoms.length ∧ q.atoms.length ≤ 3 := by
  unfold goodQu at h
  simp only [Bool.and_eq_true] at h
  have a1 := inB_of h.2.1
  have a2 := inB_of h.2.2.1
  omega
theorem goodDb_fact {d : Db} (h : goodDb d = true) {i : Nat} (hi : i < d.facts.length) : goodFact d.rels (d.facts.getD i default) = true := by
  unfold goodDb at h
  simp only [Bool.and_eq_true] at h
  have := upTo_at h.2.2 hi
  unfold factOk at this
  rw [Bool.and_eq_true] at this
  exact this.1
theorem goodQu_at {l : List Rel} {q : Qu} (h : goodQu l q = true) {k : Nat} (hk : k < q.atoms.length) : atomOk l q k = true := by
  unfold goodQu at h
  simp only [Bool.and_eq_true] at h
  exact upTo_at h.2.2.2.2.1 hk
theorem meet_lens {d : Db} {q : Qu} (h : queryFor d q = true) {k i : Nat} (hk : k < q.atoms.length) (hi : i < d.facts.length) (e : (d.facts.getD i default).r = (q.atoms.getD k default).r) : (d.facts.getD i default).l.length = (q.atoms.getD k default).l.length := by
  have h1 := goodDb_fact (queryFor_db h) hi
  have h2 := goodQu_at (queryFor_qu h) hk
  unfold goodFact at h1
  unfold atomOk relAt at h2
  simp only [Bool.and_eq_true, beq_iff_eq] at h1 h2
  have a1 := h1.2.1
  have a2 := h2.1.2
  rw [e] at a1
  omega
/-- Terms that name variables of a list or are constants. -/
def tsOk (n : Nat) (ts : List Int) : Prop := ∀ k, k < ts.length → -10 ≤ ts.getD k 0 ∧ ts.getD k 0 < n
theorem tsOk_at {l : List Rel} {q : Qu} (h : goodQu l q = true) {k : Nat} (hk : k < q.atoms.length) : tsOk q.vc.toNat (q.atoms.getD k default).l := by
  have h2 := goodQu_at h hk
  have hp := goodQu_parts h
  unfold atomOk at h2
  simp only [Bool.and_eq_true] at h2
  intro j hj
  have := upTo_at h2.2.2 hj
  unfold termOk at this
  have := inB_of this
  omega
end Go.Proofs.YtbalifgacjmbpabGreat.A
