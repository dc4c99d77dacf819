/- Packed by pack.py: FBlk1 F2 FEmD FQF FEm1 FBlk2 FSel FBlk3 FBlk4 FE FG FG2 FMis FMis2 FMis3 FMis4 FMis5 -/
import Derived.Test.YtahjpaicfppkoaaAZ2KeyConflictRepairs
import Derived.Test.YtahjpaicfppkoaaAZ1KeyConflictRepairs
import Derived.Test.YtahjpaicfppkoaaA43
import Derived.Test.YtahjpaicfppkoaaA44

/- BLOCKS: the plain law. Conditions: none. (No program in sight.) -/
namespace Go.Proofs.Ytahjpaicfppkoaa.A
open Go
set_option linter.unusedSimpArgs false
set_option linter.unusedVariables false

/-- A relation of equal keys over sorted facts. -/
structure Eqv (S : Nat → Nat → Bool) (n : Nat) : Prop where
  refl : ∀ i, i < n → S i i = true
  symm : ∀ i j, i < n → j < n → S i j = true → S j i = true
  trans : ∀ i j k, i < n → j < n → k < n → S i j = true → S j k = true → S i k = true
  mid : ∀ i j k, i ≤ j → j ≤ k → k < n → S i k = true → S i j = true
def isFst (S : Nat → Nat → Bool) (i : Nat) : Bool := (List.range i).all fun j => !S j i
def clsOf (S : Nat → Nat → Bool) (i k : Nat) : List Nat := (List.range k).filter (S i)
def fsts (S : Nat → Nat → Bool) (k : Nat) : List Nat := (List.range k).filter (isFst S)
def blkN (S : Nat → Nat → Bool) (k : Nat) : List (List Nat) := (fsts S k).map fun i => clsOf S i k
def castL (l : List Nat) : List Int := l.map fun (i : Nat) => (i : Int)
def blk (S : Nat → Nat → Bool) (k : Nat) : List (List Int) := (blkN S k).map castL
section eqv
variable {S : Nat → Nat → Bool} {n : Nat}
theorem isFst_not {i j : Nat} (h : isFst S i = true) (hj : j < i) : S j i = false := by
  unfold isFst at h
  have := List.all_eq_true.mp h j (by simpa using hj)
  simpa using this
theorem isFst_of {i : Nat} (h : ∀ j, j < i → S j i = false) : isFst S i = true := by
  unfold isFst
  rw [List.all_eq_true]
  intro j hj
  rw [h j (by simpa using hj)]; rfl
theorem clsOf_succ (i k : Nat) : clsOf S i (k + 1) = clsOf S i k ++ if S i k then [k] else [] := by
  unfold clsOf
  rw [List.range_succ, List.filter_append]
  congr 1
  rcases h : S i k <;> simp [h]
theorem fsts_succ (k : Nat) : fsts S (k + 1) = fsts S k ++ if isFst S k then [k] else [] := by
  unfold fsts
  rw [List.range_succ, List.filter_append]
  congr 1
  rcases h : isFst S k <;> simp [h]
theorem fsts_mem {i k : Nat} : i ∈ fsts S k ↔ i < k ∧ isFst S i = true := by
  unfold fsts
  rw [List.mem_filter]; simp
theorem clsOf_mem {i j k : Nat} : j ∈ clsOf S i k ↔ j < k ∧ S i j = true := by
  unfold clsOf
  rw [List.mem_filter]; simp
theorem clsOf_fst (E : Eqv S n) {i k : Nat} (hk : k ≤ n) (hi : i < k) (h : isFst S i = true) : ∃ t, clsOf S i k = i :: t := by
  obtain ⟨d, rfl⟩ := Nat.le.dest (show i + 1 ≤ k from hi)
  unfold clsOf
  rw [List.range_add, List.range_succ, List.filter_append, List.filter_append]
  have : (List.range i).filter (S i) = [] := by
    rw [List.filter_eq_nil_iff]
    intro j hj
    have hj : j < i := by simpa using hj
    intro hs
    have := E.symm i j (by omega) (by omega) hs
    rw [isFst_not h hj] at this; cases this
  rw [this]
  simp [E.refl i (by omega)]
/-- A new fact begins a block. -/
theorem blkN_new (E : Eqv S n) {k : Nat} (hk : k < n) (h : isFst S k = true) : blkN S (k + 1) = blkN S k ++ [[k]] := by
  unfold blkN
  rw [fsts_succ, h, if_pos rfl, List.map_append, List.map_singleton]
  congr 1
  · refine List.map_congr_left fun i hi => ?_
    obtain ⟨h1, h2⟩ := fsts_mem.mp hi
    rw [clsOf_succ, isFst_not h h1]; simp
  · rw [clsOf_succ, E.refl k hk, if_pos rfl]
    have : clsOf S k k = [] := by
      unfold clsOf
      rw [List.filter_eq_nil_iff]
      intro j hj
      have hj : j < k := by simpa using hj
      intro hs
      have := E.symm k j hk (by omega) hs
      rw [isFst_not h hj] at this; cases this
    rw [this]; rfl
/-- The least of those that a fact shares its block with. -/
theorem least {p : Nat → Bool} : ∀ {k : Nat}, (∃ j, j < k ∧ p j = true) → ∃ j, j < k ∧ p j = true ∧ ∀ i, i < j → p i = false
  | 0, ⟨j, h, _⟩ => by omega
  | k + 1, ⟨j, h1, h2⟩ => by
    by_cases e : ∃ j, j < k ∧ p j = true
    · obtain ⟨j, h3, h4, h5⟩ := least e
      exact ⟨j, by omega, h4, h5⟩
    · have hj : j = k := by
        rcases Nat.lt_or_ge j k with h | h
        · exact absurd ⟨j, h, h2⟩ e
        · omega
      subst hj
      refine ⟨j, by omega, h2, fun i hi => ?_⟩
      rcases hp : p i
      · rfl
      · exact absurd ⟨i, hi, hp⟩ e
/-- A fact joins the last block. -/
theorem blkN_join (E : Eqv S n) {k : Nat} (hk : k < n) (h : isFst S k = false) : ∃ (L : List (List Nat)) (i : Nat) (t : List Nat), blkN S k = L ++ [i :: t] ∧ S i k = true ∧ i < k ∧ blkN S (k + 1) = L ++ [(i :: t) ++ [k]] := by
  have hex : ∃ j, j < k ∧ S j k = true := by
    refine Classical.byContradiction fun hn => ?_
    rw [isFst_of (fun j hj => by
      rcases e : S j k
      · rfl
      · exact absurd ⟨j, hj, e⟩ hn)] at h
    cases h
  obtain ⟨i, h1, h2, h3⟩ := least hex
  have hfi : isFst S i = true := isFst_of fun j hj => by
    rcases e : S j i
    · rfl
    · have := E.trans j i k (by omega) (by omega) hk e h2
      rw [h3 j hj] at this; cases this
  have hfs : fsts S k = fsts S i ++ [i] := by
    obtain ⟨d, rfl⟩ := Nat.le.dest (show i + 1 ≤ k from h1)
    unfold fsts
    rw [List.range_add, List.filter_append, List.range_succ, List.filter_append]
    have e1 : List.filter (isFst S) [i] = [i] := by simp [hfi]
    have e2 : List.filter (isFst S) ((List.range d).map (i + 1 + ·)) = [] := by
      rw [List.filter_eq_nil_iff]
      intro j hj
      obtain ⟨m, hm, rfl⟩ := List.mem_map.mp hj
      have hm : m < d := by simpa using hm
      intro hf
      have := E.mid i (i + 1 + m) (i + 1 + d) (by omega) (by omega) hk h2
      rw [isFst_not hf (by omega)] at this; cases this
    rw [e1, e2, List.append_nil]
  obtain ⟨t, ht⟩ := clsOf_fst E (k := k) (by omega) h1 hfi
  refine ⟨(fsts S i).map (fun j => clsOf S j k), i, t, ?_, h2, h1, ?_⟩
  · unfold blkN
    rw [hfs, List.map_append, List.map_singleton, ht]
  · unfold blkN
    rw [fsts_succ, h, hfs]
    simp only [Bool.false_eq_true, if_false, List.append_nil, List.map_append, List.map_singleton]
    rw [clsOf_succ i k, h2, if_pos rfl, ht]
    congr 1
    refine List.map_congr_left fun j hj => ?_
    obtain ⟨g1, g2⟩ := fsts_mem.mp hj
    rw [clsOf_succ]
    rcases e : S j k
    · simp
    · have := E.trans j k i (by omega) hk (by omega) e (E.symm i k (by omega) hk h2)
      rw [isFst_not hfi g1] at this; cases this
theorem blk_new (E : Eqv S n) {k : Nat} (hk : k < n) (h : isFst S k = true) : blk S (k + 1) = blk S k ++ [[(k : Int)]] := by
  unfold blk
  rw [blkN_new E hk h]; simp [castL]
theorem blk_join (E : Eqv S n) {k : Nat} (hk : k < n) (h : isFst S k = false) : ∃ (L : List (List Int)) (i : Nat) (t : List Int), blk S k = L ++ [(i : Int) :: t] ∧ S i k = true ∧ i < k ∧ blk S (k + 1) = L ++ [(((i : Int) :: t) ++ [(k : Int)])] := by
  obtain ⟨L, i, t, h1, h2, h3, h4⟩ := blkN_join E hk h
  refine ⟨L.map castL, i, castL t, ?_, h2, h3, ?_⟩
  · unfold blk; rw [h1]; simp [castL]
  · unfold blk; rw [h4]; simp [castL]
/-- The last block of what there is, where a new one begins. -/
theorem blk_last (E : Eqv S n) {k : Nat} (hk : k < n) (h : isFst S k = true) {L : List (List Int)} {b : List Int} (e : blk S k = L ++ [b]) : ∃ (i : Nat) (t : List Int), b = (i : Int) :: t ∧ i < k ∧ S i k = false := by
  have hb : b ∈ blk S k := by rw [e]; simp
  unfold blk at hb
  obtain ⟨c, hc, rfl⟩ := List.mem_map.mp hb
  unfold blkN at hc
  obtain ⟨i, hi, rfl⟩ := List.mem_map.mp hc
  obtain ⟨h1, h2⟩ := fsts_mem.mp hi
  obtain ⟨t, ht⟩ := clsOf_fst E (k := k) (by omega) h1 h2
  exact ⟨i, castL t, by rw [ht]; rfl, h1, isFst_not h h1⟩
theorem blk_zero : blk S 0 = [] := rfl
theorem blk_sum (E : Eqv S n) : ∀ {k : Nat}, k ≤ n → ((blk S k).map List.length).sum = k
  | 0, _ => rfl
  | k + 1, hk => by
    have ih := blk_sum E (k := k) (by omega)
    rcases h : isFst S k
    · obtain ⟨L, i, t, h1, _, _, h4⟩ := blk_join E (k := k) (by omega) h
      rw [h4]
      rw [h1] at ih
      simp at ih ⊢
      omega
    · rw [blk_new E (by omega) h]
      simp [ih]
theorem blk_ne (E : Eqv S n) {k : Nat} (hk : k ≤ n) : ∀ b ∈ blk S k, 0 < b.length := by
  intro b hb
  unfold blk at hb
  obtain ⟨c, hc, rfl⟩ := List.mem_map.mp hb
  unfold blkN at hc
  obtain ⟨i, hi, rfl⟩ := List.mem_map.mp hc
  obtain ⟨h1, h2⟩ := fsts_mem.mp hi
  obtain ⟨t, ht⟩ := clsOf_fst E hk h1 h2
  rw [ht]; simp [castL]
/-- Blocks lie one behind another. -/
theorem blk_asc (E : Eqv S n) {k : Nat} (hk : k ≤ n) : (blk S k).Pairwise fun a b => ∀ x ∈ a, ∀ y ∈ b, x < y := by
  unfold blk blkN
  rw [List.map_map, List.pairwise_map]
  have hs : (fsts S k).Pairwise (· < ·) := List.Pairwise.filter _ List.pairwise_lt_range
  refine List.Pairwise.imp_of_mem (fun {i j} hi hj hij => ?_) hs
  obtain ⟨a1, a2⟩ := fsts_mem.mp hi
  obtain ⟨b1, b2⟩ := fsts_mem.mp hj
  intro x hx y hy
  obtain ⟨x', hx', rfl⟩ := List.mem_map.mp hx
  obtain ⟨y', hy', rfl⟩ := List.mem_map.mp hy
  obtain ⟨c1, c2⟩ := clsOf_mem.mp hx'
  obtain ⟨d1, d2⟩ := clsOf_mem.mp hy'
  have hjy : j ≤ y' := by
    rcases Nat.lt_or_ge y' j with h | h
    · have := E.symm j y' (by omega) (by omega) d2
      rw [isFst_not b2 h] at this; cases this
    · exact h
  have hno : S i j = false := isFst_not b2 hij
  have : x' < y' := by
    rcases Nat.lt_or_ge x' y' with h | h
    · exact h
    · have := E.mid i j x' (by omega) (by omega) (by omega) c2
      rw [hno] at this; cases this
  omega
end eqv

/-! #### repairs by their rank -/
def prodL : List (List Int) → Nat
  | [] => 1
  | b :: l => b.length * prodL l
theorem prodL_append : ∀ (a b : List (List Int)), prodL (a ++ b) = prodL a * prodL b
  | [], b => by simp [prodL]
  | x :: a, b => by rw [List.cons_append, prodL, prodL, prodL_append a b, Nat.mul_assoc]
theorem lt_two_pow (n : Nat) : n ≤ 2 ^ n := Nat.le_of_lt Nat.lt_two_pow_self
theorem prodL_le : ∀ (l : List (List Int)), prodL l ≤ 2 ^ ((l.map List.length).sum)
  | [] => by simp [prodL]
  | b :: l => by
    rw [prodL, List.map_cons, List.sum_cons, Nat.pow_add]
    exact Nat.mul_le_mul (lt_two_pow _) (prodL_le l)
theorem prodL_pos : ∀ {l : List (List Int)}, (∀ b ∈ l, 0 < b.length) → 0 < prodL l
  | [], _ => by simp [prodL]
  | b :: l, h => by
    rw [prodL]
    exact Nat.mul_pos (h b (by simp)) (prodL_pos fun c hc => h c (by simp [hc]))
def pickR : List (List Int) → Nat → List Int × Nat
  | [], r => ([], r)
  | b :: l, r => (b.getD ((pickR l r).2 % b.length) 0 :: (pickR l r).1, (pickR l r).2 / b.length)
theorem pickR_len : ∀ (l : List (List Int)) (r : Nat), (pickR l r).1.length = l.length
  | [], r => rfl
  | b :: l, r => by rw [pickR, List.length_cons, List.length_cons, pickR_len l r]
theorem pickR_le : ∀ (l : List (List Int)) (r : Nat), (pickR l r).2 ≤ r
  | [], r => Nat.le_refl _
  | b :: l, r => Nat.le_trans (Nat.div_le_self _ _) (pickR_le l r)
theorem pickR_drop {l : List (List Int)} {i : Nat} (h : i < l.length) (r : Nat) : pickR (l.drop i) r = ((l.getD i []).getD ((pickR (l.drop (i + 1)) r).2 % (l.getD i []).length) 0 :: (pickR (l.drop (i + 1)) r).1, (pickR (l.drop (i + 1)) r).2 / (l.getD i []).length) := by
  rw [List.drop_eq_getElem_cons h, pickR]
  simp [List.getD_eq_getElem?_getD, h]
theorem pickR_mem : ∀ {l : List (List Int)} {r : Nat} {x : Int}, (∀ b ∈ l, 0 < b.length) → x ∈ (pickR l r).1 → ∃ b ∈ l, x ∈ b
  | [], r, x, _, h => by cases h
  | b :: l, r, x, hl, h => by
    rw [pickR] at h
    rcases List.mem_cons.mp h with rfl | h
    · exact ⟨b, by simp, by
        have hb := hl b (by simp)
        rw [List.getD_eq_getElem?_getD, List.getElem?_eq_getElem (Nat.mod_lt _ hb)]
        exact List.getElem_mem _⟩
    · obtain ⟨c, hc, hx⟩ := pickR_mem (fun c hc => hl c (by simp [hc])) h
      exact ⟨c, by simp [hc], hx⟩
theorem pickR_asc : ∀ {l : List (List Int)} {r : Nat}, (∀ b ∈ l, 0 < b.length) → (l.Pairwise fun a b => ∀ x ∈ a, ∀ y ∈ b, x < y) → (pickR l r).1.Pairwise (· < ·)
  | [], r, _, _ => List.Pairwise.nil
  | b :: l, r, hl, hp => by
    rw [pickR]
    rw [List.pairwise_cons] at hp ⊢
    refine ⟨fun y hy => ?_, pickR_asc (fun c hc => hl c (by simp [hc])) hp.2⟩
    obtain ⟨c, hc, hyc⟩ := pickR_mem (fun c hc => hl c (by simp [hc])) hy
    refine hp.1 c hc _ ?_ y hyc
    have hb := hl b (by simp)
    rw [List.getD_eq_getElem?_getD, List.getElem?_eq_getElem (Nat.mod_lt _ hb)]
    exact List.getElem_mem _
theorem sort_rev {l : List Int} (h : l.Pairwise (· < ·)) : sortI l.reverse = l :=
  sorted_uni (sortI_sorted _) (h.imp fun h => by omega) ((sortI_perm _).trans (List.reverse_perm l))
end Go.Proofs.Ytahjpaicfppkoaa.A


/- EMBEDDINGS. Conditions: none. -/
namespace Go.Proofs.Ytahjpaicfppkoaa.A
open Go
set_option linter.unusedSimpArgs false
set_option linter.unusedVariables false
set_option maxRecDepth 100000

abbrev lEmb (e : Emb) : LV := .agg [.im 1 (ints e.vs), .im 1 (ints e.fs)]
abbrev oEmb (e : Emb) : LV := .agg [.ow 1 (ints e.vs), .ow 1 (ints e.fs)]
def szEmb (e : Emb) (n : Int) : Int := if szl e.vs n < 0 then -1 else if szl e.fs (szl e.vs n) < 0 then -1 else szl e.fs (szl e.vs n)
theorem szEmb_len {e : Emb} {n : Int} (h : -1 ≤ n ∧ n ≤ 1048576) (h0 : ¬ szEmb e n < 0) : e.vs.length ≤ 1048576 ∧ e.fs.length ≤ 1048576 ∧ -1 ≤ szEmb e n ∧ szEmb e n ≤ 1048576 := by
  unfold szEmb at h0 ⊢
  have a1 := szl_le (a := e.vs) h
  split at h0
  · omega
  · rename_i c1
    have a2 := szl_le (a := e.fs) a1
    split at h0
    · omega
    · rename_i c2
      rw [if_neg c1, if_neg c2]
      exact ⟨szl_len h.2 c1, szl_len a1.2 c2, a2⟩
theorem decide_and {p q : Prop} [Decidable p] [Decidable q] (h : p) : decide (p ∧ q) = decide q := by simp [h]
end Go.Proofs.Ytahjpaicfppkoaa.A


/- LISTS OF EMBEDDINGS: how they lie, comparison, marks. Conditions: none. -/
namespace Go.Proofs.Ytahjpaicfppkoaa.A
open Go
set_option linter.unusedSimpArgs false
set_option linter.unusedVariables false
set_option maxRecDepth 100000

abbrev lEms (a : List Emb) : LV := .one (.im 2 (ems 0 a))
abbrev oEms (a : List Emb) : LV := .one (.ow 2 (ems 1 a))

def numEm : List Emb → Nat
  | [] => 0
  | a :: l => a.vs.length + a.fs.length + numEm l
def markEm : List Emb → Int → List Emb
  | [], _ => []
  | a :: l, k => ⟨cnt k a.vs.length, cnt (k + a.vs.length) a.fs.length⟩ :: markEm l (k + a.vs.length + a.fs.length)
theorem numEm_nil : numEm [] = 0 := rfl
attribute [go_sem] numEm_nil
theorem markEm_length : ∀ (a : List Emb) (k : Int), (markEm a k).length = a.length
  | [], _ => rfl
  | a :: l, k => by rw [markEm, List.length_cons, List.length_cons, markEm_length]
theorem numEm_take {a : List Emb} {i : Nat} (h : i < a.length) : numEm (a.take (i + 1)) = numEm (a.take i) + (a.getD i default).vs.length + (a.getD i default).fs.length := by
  induction a generalizing i with
  | nil => simp at h
  | cons x a ih =>
    cases i with
    | zero => simp [numEm]
    | succ i =>
      have := ih (i := i) (by simpa using h)
      rw [List.take_succ_cons, List.take_succ_cons, numEm, numEm, this, List.getD_cons_succ]; omega
theorem numEm_le : ∀ {a : List Emb} (i : Nat), numEm (a.take i) ≤ numEm a
  | [], i => by simp [numEm]
  | x :: a, 0 => by simp [numEm]
  | x :: a, i + 1 => by
    rw [List.take_succ_cons, numEm, numEm]
    have := numEm_le (a := a) i
    omega
theorem numEm_small {n m : Nat} : ∀ {a : List Emb}, (∀ x ∈ a, x.vs.length ≤ n ∧ x.fs.length ≤ m) → numEm a ≤ a.length * (n + m)
  | [], _ => by simp [numEm]
  | x :: a, h => by
    have h1 := numEm_small (a := a) fun y hy => h y (List.mem_cons_of_mem _ hy)
    have h2 := h x (List.mem_cons_self ..)
    rw [numEm, List.length_cons, Nat.add_mul]; omega
theorem markEm_get : ∀ {a : List Emb} {k : Int} {i : Nat}, i < a.length → (markEm a k).getD i default = ⟨cnt (k + numEm (a.take i)) (a.getD i default).vs.length, cnt (k + numEm (a.take i) + (a.getD i default).vs.length) (a.getD i default).fs.length⟩
  | x :: a, k, 0, _ => by simp [markEm, numEm]
  | x :: a, k, i + 1, h => by
    rw [markEm, List.getD_cons_succ, markEm_get (by simpa using h), List.getD_cons_succ, List.take_succ_cons, numEm]
    have e : k + (x.vs.length : Int) + (x.fs.length : Int) + (numEm (a.take i) : Int) = k + ((x.vs.length + x.fs.length + numEm (a.take i) : Nat) : Int) := by omega
    rw [e]
theorem markEm_full (a : List Emb) (k : Int) : List.take a.length (markEm a k) = markEm a k := List.take_of_length_le (by rw [markEm_length]; omega)
attribute [go_sem] markEm_full
theorem Emb.eq_iff (a b : Emb) : decide (a = b) = (decide (a.vs = b.vs) && decide (a.fs = b.fs)) := by cases a; cases b; simp
end Go.Proofs.Ytahjpaicfppkoaa.A


/- QUERIES FOR DATABASES. Conditions: none. -/
namespace Go.Proofs.Ytahjpaicfppkoaa.A
open Go
set_option linter.unusedSimpArgs false
set_option linter.unusedVariables false
set_option maxRecDepth 100000

def queryFor (d : Db) (q : Qu) : Bool := goodDb d && goodQu d.rels q
end Go.Proofs.Ytahjpaicfppkoaa.A


/- EMBEDDINGS: the plain search. Conditions: none. (No program in sight.) -/
namespace Go.Proofs.Ytahjpaicfppkoaa.A
open Go
set_option linter.unusedSimpArgs false
set_option linter.unusedVariables false

def stepU (x : List Int) (t f : Int) : Option (List Int) :=
  if t < 0 then (if -1 - t = f then some x else none)
  else if x.getD t.toNat 0 < 0 then some (x.set t.toNat f)
  else if x.getD t.toNat 0 = f then some x else none
def uniS (ts fs vs : List Int) : Nat → Option (List Int)
  | 0 => some vs
  | k + 1 => (uniS ts fs vs k).bind fun x => stepU x (ts.getD k 0) (fs.getD k 0)
theorem stepU_len {x y : List Int} {t f : Int} (h : stepU x t f = some y) : y.length = x.length := by
  unfold stepU at h
  split at h
  · split at h
    · cases h; rfl
    · cases h
  · split at h
    · cases h; simp
    · split at h
      · cases h; rfl
      · cases h
theorem uniS_len {ts fs vs : List Int} : ∀ {k : Nat} {x : List Int}, uniS ts fs vs k = some x → x.length = vs.length
  | 0, x, h => by cases h; rfl
  | k + 1, x, h => by
    rw [uniS] at h
    rcases e : uniS ts fs vs k with _ | y
    · rw [e] at h; cases h
    · rw [e, Option.bind_some] at h
      rw [stepU_len h, uniS_len e]
theorem uniS_none {ts fs vs : List Int} {k : Nat} (h : uniS ts fs vs k = none) : ∀ d : Nat, uniS ts fs vs (k + d) = none
  | 0 => h
  | d + 1 => by rw [← Nat.add_assoc, uniS, uniS_none h d]; rfl
theorem uniS_stop {ts fs vs : List Int} {k n : Nat} (h : uniS ts fs vs k = none) (hn : k ≤ n) : uniS ts fs vs n = none := by
  obtain ⟨d, rfl⟩ := Nat.le.dest hn
  exact uniS_none h d
theorem uniS_step {ts fs vs x : List Int} {k : Nat} (h : uniS ts fs vs k = some x) : uniS ts fs vs (k + 1) = stepU x (ts.getD k 0) (fs.getD k 0) := by
  rw [uniS, h]; rfl
/-- The last state before the search fell. -/
def uniL (ts fs vs : List Int) : Nat → List Int
  | 0 => vs
  | k + 1 => match uniS ts fs vs (k + 1) with
    | some x => x
    | none => uniL ts fs vs k
theorem uniL_some {ts fs vs x : List Int} : ∀ {k : Nat}, uniS ts fs vs k = some x → uniL ts fs vs k = x
  | 0, h => by cases h; rfl
  | k + 1, h => by rw [uniL, h]
theorem uniL_none {ts fs vs x : List Int} {k : Nat} (h : uniS ts fs vs k = some x) (h2 : uniS ts fs vs (k + 1) = none) : ∀ d : Nat, uniL ts fs vs (k + 1 + d) = x
  | 0 => by
    rw [Nat.add_zero, uniL, h2]
    exact uniL_some h
  | d + 1 => by
    rw [← Nat.add_assoc, uniL, show uniS ts fs vs (k + 1 + d + 1) = none from uniS_none (k := k + 1) h2 (d + 1)]
    exact uniL_none h h2 d
theorem uniL_stop {ts fs vs x : List Int} {k n : Nat} (h : uniS ts fs vs k = some x) (h2 : uniS ts fs vs (k + 1) = none) (hn : k < n) : uniL ts fs vs n = x := by
  obtain ⟨d, rfl⟩ := Nat.le.dest (show k + 1 ≤ n from hn)
  exact uniL_none h h2 d
def meet (a f : RI) (vs : List Int) : Option (List Int) := if f.r = a.r then uniS a.l f.l vs a.l.length else none
def meetV (a f : RI) (vs : List Int) : List Int := if f.r = a.r then uniL a.l f.l vs a.l.length else vs
theorem meet_len {a f : RI} {vs x : List Int} (h : meet a f vs = some x) : x.length = vs.length := by
  unfold meet at h
  split at h
  · exact uniS_len h
  · cases h
theorem meetV_eq {a f : RI} {vs x : List Int} (h : meet a f vs = some x) : meetV a f vs = x := by
  unfold meet at h
  unfold meetV
  split at h
  · rw [if_pos (by assumption)]; exact uniL_some h
  · cases h
/-- What one round finds: g tells it of each fact. -/
def found {α : Type} (g : Nat → List α) (k : Nat) : List α := (List.range k).flatMap g
theorem found_zero {α : Type} (g : Nat → List α) : found g 0 = [] := rfl
theorem found_succ {α : Type} (g : Nat → List α) (k : Nat) : found g (k + 1) = found g k ++ g k := by
  unfold found
  rw [List.range_succ, List.flatMap_append]; simp
theorem found_len {α : Type} {g : Nat → List α} {b : Nat} (h : ∀ i, (g i).length ≤ b) : ∀ k, (found g k).length ≤ k * b
  | 0 => by simp [found_zero]
  | k + 1 => by
    rw [found_succ, List.length_append, Nat.add_mul]
    have := found_len h k
    have := h k
    omega
theorem found_mem {α : Type} {g : Nat → List α} {k : Nat} {x : α} : x ∈ found g k ↔ ∃ i, i < k ∧ x ∈ g i := by
  unfold found
  rw [List.mem_flatMap]
  constructor
  · rintro ⟨i, h1, h2⟩; exact ⟨i, by simpa using h1, h2⟩
  · rintro ⟨i, h1, h2⟩; exact ⟨i, by simpa using h1, h2⟩
def atomAt (ats : List RI) (m : Nat) : RI := ats.getD (ats.length - (m + 1)) default
def walkE (ds ats : List RI) : Nat → List Int → List Int → List Emb
  | 0, vs, fs => [⟨vs, fs⟩]
  | m + 1, vs, fs => found (fun i => match meet (atomAt ats m) (ds.getD i default) vs with
    | some x => walkE ds ats m x (fs ++ [(i : Int)])
    | none => []) ds.length
def oneE (ds ats : List RI) (m : Nat) (vs fs : List Int) (i : Nat) : List Emb := match meet (atomAt ats m) (ds.getD i default) vs with
    | some x => walkE ds ats m x (fs ++ [(i : Int)])
    | none => []
theorem walkE_succ (ds ats : List RI) (m : Nat) (vs fs : List Int) : walkE ds ats (m + 1) vs fs = found (oneE ds ats m vs fs) ds.length := rfl
theorem oneE_some {ds ats : List RI} {m i : Nat} {vs fs x : List Int} (h : meet (atomAt ats m) (ds.getD i default) vs = some x) : oneE ds ats m vs fs i = walkE ds ats m x (fs ++ [(i : Int)]) := by unfold oneE; rw [h]
theorem oneE_none {ds ats : List RI} {m i : Nat} {vs fs : List Int} (h : meet (atomAt ats m) (ds.getD i default) vs = none) : oneE ds ats m vs fs i = [] := by unfold oneE; rw [h]
theorem walkE_len {ds ats : List RI} (hd : ds.length ≤ 14) : ∀ (m : Nat) (vs fs : List Int), (walkE ds ats m vs fs).length ≤ 14 ^ m
  | 0, _, _ => by simp [walkE]
  | m + 1, vs, fs => by
    rw [walkE_succ]
    have h1 : ∀ i, (oneE ds ats m vs fs i).length ≤ 14 ^ m := by
      intro i
      unfold oneE
      split
      · exact walkE_len hd m _ _
      · simp
    have h2 := found_len h1 ds.length
    have h3 := Nat.mul_le_mul_right (14 ^ m) hd
    rw [Nat.pow_succ, Nat.mul_comm (14 ^ m)]
    omega
theorem walkE_mem {ds ats : List RI} : ∀ {m : Nat} {vs fs : List Int}, ∀ e ∈ walkE ds ats m vs fs, e.vs.length = vs.length ∧ e.fs.length = fs.length + m
  | 0, vs, fs, e, h => by
    simp only [walkE, List.mem_singleton] at h
    subst h; exact ⟨rfl, rfl⟩
  | m + 1, vs, fs, e, h => by
    rw [walkE_succ, found_mem] at h
    obtain ⟨i, _, h⟩ := h
    unfold oneE at h
    split at h
    · rename_i x hx
      obtain ⟨h1, h2⟩ := walkE_mem e h
      rw [List.length_append, List.length_singleton] at h2
      exact ⟨by rw [h1, meet_len hx], by omega⟩
    · cases h
theorem pow14E {m : Nat} (h : m ≤ 3) : 14 ^ m ≤ 2744 := Nat.pow_le_pow_right (by omega) h
/-- ALL EMBEDDINGS. -/
def embs (d : Db) (q : Qu) : List Emb := if queryFor d q then walkE d.facts q.atoms q.atoms.length (List.replicate q.vc.toNat (-1)) [] else []
theorem queryFor_db {d : Db} {q : Qu} (h : queryFor d q = true) : goodDb d = true := by
  unfold queryFor at h; rw [Bool.and_eq_true] at h; exact h.1
theorem queryFor_qu {d : Db} {q : Qu} (h : queryFor d q = true) : goodQu d.rels q = true := by
  unfold queryFor at h; rw [Bool.and_eq_true] at h; exact h.2
theorem goodDb_len {d : Db} (h : goodDb d = true) : d.facts.length ≤ 14 := by
  unfold goodDb at h
  simp only [Bool.and_eq_true, decide_eq_true_eq] at h
  omega
theorem goodQu_parts {l : List Rel} {q : Qu} (h : goodQu l q = true) : (0 ≤ q.vc ∧ q.vc ≤ 4) ∧ 1 ≤ q.atoms.length ∧ q.atoms.length ≤ 3 := by
  unfold goodQu at h
  simp only [Bool.and_eq_true] at h
  have a1 := inB_of h.2.1
  have a2 := inB_of h.2.2.1
  omega
theorem goodDb_fact {d : Db} (h : goodDb d = true) {i : Nat} (hi : i < d.facts.length) : goodFact d.rels (d.facts.getD i default) = true := by
  unfold goodDb at h
  simp only [Bool.and_eq_true] at h
  have := upTo_at h.2.2 hi
  unfold factOk at this
  rw [Bool.and_eq_true] at this
  exact this.1
theorem goodQu_at {l : List Rel} {q : Qu} (h : goodQu l q = true) {k : Nat} (hk : k < q.atoms.length) : atomOk l q k = true := by
  unfold goodQu at h
  simp only [Bool.and_eq_true] at h
  exact upTo_at h.2.2.2.2.1 hk
theorem meet_lens {d : Db} {q : Qu} (h : queryFor d q = true) {k i : Nat} (hk : k < q.atoms.length) (hi : i < d.facts.length) (e : (d.facts.getD i default).r = (q.atoms.getD k default).r) : (d.facts.getD i default).l.length = (q.atoms.getD k default).l.length := by
  have h1 := goodDb_fact (queryFor_db h) hi
  have h2 := goodQu_at (queryFor_qu h) hk
  unfold goodFact at h1
  unfold atomOk relAt at h2
  simp only [Bool.and_eq_true, beq_iff_eq] at h1 h2
  have a1 := h1.2.1
  have a2 := h2.1.2
  rw [e] at a1
  omega
/-- Terms that name variables of a list or are constants. -/
def tsOk (n : Nat) (ts : List Int) : Prop := ∀ k, k < ts.length → -10 ≤ ts.getD k 0 ∧ ts.getD k 0 < n
theorem tsOk_at {l : List Rel} {q : Qu} (h : goodQu l q = true) {k : Nat} (hk : k < q.atoms.length) : tsOk q.vc.toNat (q.atoms.getD k default).l := by
  have h2 := goodQu_at h hk
  have hp := goodQu_parts h
  unfold atomOk at h2
  simp only [Bool.and_eq_true] at h2
  intro j hj
  have := upTo_at h2.2.2 hj
  unfold termOk at this
  have := inB_of this
  omega
end Go.Proofs.Ytahjpaicfppkoaa.A


/- BLOCKS OF A VALID DATABASE. Conditions: none. -/
namespace Go.Proofs.Ytahjpaicfppkoaa.A
open Go
set_option linter.unusedSimpArgs false
set_option linter.unusedVariables false

theorem cmpInts_trans : ∀ {a b c : List Int}, cmpInts a b < 0 → cmpInts b c < 0 → cmpInts a c < 0
  | [], [], _, h, _ => by simp [cmpInts] at h
  | [], _ :: _, [], _, h => by simp [cmpInts] at h
  | [], _ :: _, _ :: _, _, _ => by simp [cmpInts]
  | _ :: _, [], _, h, _ => by simp [cmpInts] at h
  | _ :: _, _ :: _, [], _, h => by simp [cmpInts] at h
  | x :: a, y :: b, z :: c, h1, h2 => by
    unfold cmpInts at h1 h2 ⊢
    rcases Int.lt_trichotomy x y with d | d | d
    · rcases Int.lt_trichotomy y z with e | e | e
      · rw [if_pos (by omega)]; omega
      · rw [if_pos (by omega)]; omega
      · rw [if_neg (by omega), if_pos e] at h2; omega
    · subst d
      rw [if_neg (by omega), if_neg (by omega)] at h1
      rcases Int.lt_trichotomy x z with e | e | e
      · rw [if_pos e]; omega
      · subst e
        rw [if_neg (by omega), if_neg (by omega)] at h2 ⊢
        exact cmpInts_trans h1 h2
      · rw [if_neg (by omega), if_pos e] at h2; omega
    · rw [if_neg (by omega), if_pos d] at h1; omega
theorem lex_mid : ∀ (m : Nat) {a b c : List Int}, a.length = b.length → b.length = c.length → cmpInts a b ≤ 0 → cmpInts b c ≤ 0 → a.take m = c.take m → a.take m = b.take m
  | 0, _, _, _, _, _, _, _, _ => by simp
  | m + 1, [], [], _, _, _, _, _, _ => rfl
  | m + 1, x :: a, y :: b, [], _, h, _, _, _ => by simp at h
  | m + 1, x :: a, y :: b, z :: c, h1, h2, h3, h4, h5 => by
    simp only [List.take_succ_cons, List.cons.injEq] at h5 ⊢
    obtain ⟨rfl, h5⟩ := h5
    unfold cmpInts at h3 h4
    rcases Int.lt_trichotomy x y with d | d | d
    · rw [if_neg (by omega), if_pos d] at h4; omega
    · subst d
      rw [if_neg (by omega), if_neg (by omega)] at h3 h4
      exact ⟨rfl, lex_mid m (by simpa using h1) (by simpa using h2) h3 h4 h5⟩
    · rw [if_neg (by omega), if_pos d] at h3; omega
theorem cmpRI_trans {a b c : RI} (h1 : cmpRI a b < 0) (h2 : cmpRI b c < 0) : cmpRI a c < 0 := by
  unfold cmpRI at *
  rcases Int.lt_trichotomy a.r b.r with d | d | d
  · rcases Int.lt_trichotomy b.r c.r with e | e | e
    · rw [if_pos (by omega)]; omega
    · rw [if_pos (by omega)]; omega
    · rw [if_neg (by omega), if_pos e] at h2; omega
  · rw [if_neg (by omega), if_neg (by omega)] at h1
    rcases Int.lt_trichotomy b.r c.r with e | e | e
    · rw [if_pos (by omega)]; omega
    · rw [if_neg (by omega), if_neg (by omega)] at h2 ⊢
      exact cmpInts_trans h1 h2
    · rw [if_neg (by omega), if_pos e] at h2; omega
  · rw [if_neg (by omega), if_pos d] at h1; omega
theorem db_step {d : Db} (g : goodDb d = true) {i : Nat} (hi : i + 1 < d.facts.length) : cmpRI (d.facts.getD i default) (d.facts.getD (i + 1) default) < 0 := by
  unfold goodDb at g
  simp only [Bool.and_eq_true] at g
  have := upTo_at g.2.2 hi
  unfold factOk at this
  rw [Bool.and_eq_true, Nat.add_sub_cancel, decide_eq_false (by omega : ¬ i + 1 = 0), Bool.false_or, Bool.not_eq_true', decide_eq_false_iff_not] at this
  omega
theorem db_sorted {d : Db} (g : goodDb d = true) {i : Nat} : ∀ {j : Nat}, i < j → j < d.facts.length → cmpRI (d.facts.getD i default) (d.facts.getD j default) < 0
  | 0, h, _ => by omega
  | j + 1, h, hj => by
    have h1 := db_step g hj
    rcases Nat.lt_or_ge i j with h2 | h2
    · exact cmpRI_trans (db_sorted g h2 (by omega)) h1
    · obtain rfl : i = j := by omega
      exact h1
theorem cmpInts_self (a : List Int) : cmpInts a a = 0 := cmpInts_zero.mpr rfl
theorem cmpRI_self (a : RI) : cmpRI a a = 0 := by
  unfold cmpRI
  rw [if_neg (by omega), if_neg (by omega)]; exact cmpInts_self _
theorem db_le {d : Db} (g : goodDb d = true) {i j : Nat} (h : i ≤ j) (hj : j < d.facts.length) : cmpRI (d.facts.getD i default) (d.facts.getD j default) ≤ 0 := by
  rcases Nat.lt_or_ge i j with h1 | h1
  · have := db_sorted g h1 hj; omega
  · obtain rfl : i = j := by omega
    rw [cmpRI_self]; omega
theorem sameK_iff {l : List Rel} {a b : RI} : sameK l a b = true ↔ a.r = b.r ∧ a.l.take (klOf l a.r) = b.l.take (klOf l a.r) := by
  unfold sameK
  rw [Bool.and_eq_true, beq_iff_eq, decide_eq_true_iff]
theorem good_len {d : Db} (g : goodDb d = true) {i j : Nat} (hi : i < d.facts.length) (hj : j < d.facts.length) (e : (d.facts.getD i default).r = (d.facts.getD j default).r) : (d.facts.getD i default).l.length = (d.facts.getD j default).l.length := by
  have h1 := goodDb_fact g hi
  have h2 := goodDb_fact g hj
  unfold goodFact at h1 h2
  simp only [Bool.and_eq_true, beq_iff_eq] at h1 h2
  have a1 := h1.2.1
  have a2 := h2.2.1
  rw [e] at a1
  omega
def keyR (d : Db) (i k : Nat) : Bool := sameK d.rels (d.facts.getD i default) (d.facts.getD k default)
theorem keyR_eqv {d : Db} (g : goodDb d = true) : Eqv (keyR d) d.facts.length where
  refl i hi := by unfold keyR; rw [sameK_iff]; exact ⟨rfl, rfl⟩
  symm i j hi hj h := by
    unfold keyR at *
    rw [sameK_iff] at *
    exact ⟨h.1.symm, by rw [← h.1]; exact h.2.symm⟩
  trans i j k hi hj hk h1 h2 := by
    unfold keyR at *
    rw [sameK_iff] at *
    refine ⟨h1.1.trans h2.1, ?_⟩
    have := h2.2
    rw [← h1.1] at this
    exact h1.2.trans this
  mid i j k h1 h2 hk h := by
    unfold keyR at *
    rw [sameK_iff] at *
    have a1 := db_le g h1 (by omega)
    have a2 := db_le g h2 hk
    obtain ⟨b1, b2⟩ := h
    have hr : (d.facts.getD i default).r = (d.facts.getD j default).r := by
      unfold cmpRI at a1 a2
      rcases Int.lt_trichotomy (d.facts.getD i default).r (d.facts.getD j default).r with e | e | e
      · rcases Int.lt_trichotomy (d.facts.getD j default).r (d.facts.getD k default).r with e2 | e2 | e2
        · omega
        · omega
        · rw [if_neg (by omega), if_pos e2] at a2; omega
      · exact e
      · rw [if_neg (by omega), if_pos e] at a1; omega
    refine ⟨hr, ?_⟩
    unfold cmpRI at a1 a2
    rw [if_neg (by omega), if_neg (by omega)] at a1 a2
    exact lex_mid _ (good_len g (by omega) (by omega) hr) (good_len g (by omega) hk (by omega)) a1 a2 b2
/-- The blocks. -/
def blocksOf (d : Db) : List (List Int) := blk (keyR d) d.facts.length
theorem blocksOf_prod {d : Db} (g : goodDb d = true) : 0 < prodL (blocksOf d) ∧ prodL (blocksOf d) ≤ 16384 := by
  refine ⟨prodL_pos (blk_ne (keyR_eqv g) (Nat.le_refl _)), ?_⟩
  have h1 := prodL_le (blocksOf d)
  rw [show ((blocksOf d).map List.length).sum = d.facts.length from blk_sum (keyR_eqv g) (Nat.le_refl _)] at h1
  have h2 : 2 ^ d.facts.length ≤ 2 ^ 14 := Nat.pow_le_pow_right (by omega) (goodDb_len g)
  omega
theorem sum_ge : ∀ {l : List (List Int)}, (∀ b ∈ l, 0 < b.length) → l.length ≤ (l.map List.length).sum
  | [], _ => by simp
  | b :: l, h => by
    have := sum_ge (l := l) fun c hc => h c (by simp [hc])
    have := h b (by simp)
    simp; omega
theorem sum_mem : ∀ {l : List (List Int)} {b : List Int}, b ∈ l → b.length ≤ (l.map List.length).sum
  | [], _, h => by cases h
  | c :: l, b, h => by
    rcases List.mem_cons.mp h with rfl | h
    · simp
    · have := sum_mem h
      simp; omega
theorem blocksOf_len {d : Db} (g : goodDb d = true) : (blocksOf d).length ≤ 14 ∧ ∀ b ∈ blocksOf d, 0 < b.length ∧ b.length ≤ 14 := by
  have E := keyR_eqv g
  have h1 := blk_ne E (Nat.le_refl _)
  have h2 := blk_sum E (Nat.le_refl d.facts.length)
  have h3 := goodDb_len g
  refine ⟨?_, fun b hb => ⟨h1 b hb, ?_⟩⟩
  · have := sum_ge h1
    show (blk _ _).length ≤ _
    omega
  · have := sum_mem hb
    have e : ((blocksOf d).map List.length).sum = d.facts.length := h2
    omega
end Go.Proofs.Ytahjpaicfppkoaa.A


/- FACTS ARE SELECTED. Conditions: none. -/
namespace Go.Proofs.Ytahjpaicfppkoaa.A
open Go
set_option linter.unusedSimpArgs false
set_option linter.unusedVariables false
set_option maxRecDepth 100000

theorem goodDb_rels {d : Db} (h : goodDb d = true) : d.rels.length ≤ 4 := by
  unfold goodDb goodRels at h
  simp only [Bool.and_eq_true, decide_eq_true_eq] at h
  omega
theorem repS {α : Type} (a : α) : List.replicate 1 a = [a] := rfl
abbrev zDb : List SV := [.sc (.slice none 0 0), .sc (.slice none 0 0)]
/-- The chosen facts. -/
def selF (fs : List RI) (l : List Int) : List RI := l.map fun i => fs.getD i.toNat default
def selOk (d : Db) (l : List Int) : Bool := goodDb d && idxs l d.facts.length
def selD (d : Db) (l : List Int) : Db := if selOk d l then ⟨d.rels, selF d.facts l⟩ else ⟨[], []⟩
theorem selF_length (fs : List RI) (l : List Int) : (selF fs l).length = l.length := by simp [selF]
theorem selF_take (fs : List RI) (l : List Int) {k : Nat} (h : k < l.length) : selF fs (l.take (k + 1)) = selF fs (l.take k) ++ [fs.getD (l.getD k 0).toNat default] := by
  rw [take_snoc 0 h]; simp [selF]
theorem idxs_at {l : List Int} {n : Int} (h : idxs l n = true) {k : Nat} (hk : k < l.length) : 0 ≤ l.getD k 0 ∧ l.getD k 0 < n := by
  have := upTo_at h hk
  unfold idxAt at this
  rw [Bool.and_eq_true] at this
  have := inB_of this.1
  omega
theorem idxs_lt {l : List Int} {n : Int} (h : idxs l n = true) : ∀ (k j : Nat), k < l.length → j < k → l.getD j 0 < l.getD k 0
  | 0, j, _, hj => by omega
  | k + 1, j, hk, hj => by
    have h1 := upTo_at h hk
    unfold idxAt at h1
    rw [Bool.and_eq_true, Nat.add_sub_cancel, decide_eq_false (by omega : ¬ k + 1 = 0), Bool.false_or, Bool.not_eq_true', decide_eq_false_iff_not] at h1
    have h2 := h1.2
    rcases Nat.lt_or_ge j k with hjk | hjk
    · have := idxs_lt h k j (by omega) hjk
      omega
    · obtain rfl : j = k := by omega
      omega
def cellQ (s id w i j s' off len : Nat) (rows : Rows) (c : Cell) (K : Cell → List (Nat × Option Obj') → Prop) : Prop := match c with
  | .sl s'' xs => s'' = s' ∧ off = 0 ∧ len = xs.length ∧ K (.sl s xs) [(id, some (w, Rows.setCell rows i j .gone))]
  | _ => False
theorem cellQ_sl {s id w i j s' s'' off len : Nat} {rows : Rows} {xs : List Value} {K : Cell → List (Nat × Option Obj') → Prop} : cellQ s id w i j s' off len rows (.sl s'' xs) K = (s'' = s' ∧ off = 0 ∧ len = xs.length ∧ K (.sl s xs) [(id, some (w, Rows.setCell rows i j .gone))]) := rfl
def cellI (s id i j s' off len : Nat) (o : Option Obj') (K : Cell → List (Nat × Option Obj') → Prop) : Prop := match o with
  | some (w, rows) => cellQ s id w i j s' off len rows ((rows.getD i []).getD j .gone) K
  | none => False
theorem cellI_some {s id w i j s' off len : Nat} {rows : Rows} {K : Cell → List (Nat × Option Obj') → Prop} : cellI s id i j s' off len (some (w, rows)) K = cellQ s id w i j s' off len rows ((rows.getD i []).getD j .gone) K := rfl
theorem cell_rin {st : St} {s id i j s' off len : Nat} {K : Cell → List (Nat × Option Obj') → Prop} : cellK st s (.rin id i j s' off len) K = cellI s id i j s' off len (st.objs id) K := by
  simp only [cellK, cellI, cellQ, Rows.cell]
  rcases st.objs id with _ | ⟨w, rows⟩
  · rfl
  · simp only
    rcases (List.getD rows i []).getD j .gone with _ | ⟨s'', xs⟩ | _ <;> rfl
attribute [go_sem] cell_rin cellI_some cellQ_sl
/-! #### rows of which some were moved away -/
def cRH (s : Nat) (x : RI × Bool) : List Cell := [.sc (.int .i64 x.1.r), if x.2 then .gone else .sl s (iv x.1.l)]
def rhs (s : Nat) (l : List (RI × Bool)) : Rows := l.map (cRH s)
theorem rhs_length (s : Nat) (l : List (RI × Bool)) : (rhs s l).length = l.length := by simp [rhs]
theorem rhs_get {s : Nat} {l : List (RI × Bool)} {i : Nat} {r : Int} {xs : List Int} (h : l[i]? = some (⟨r, xs⟩, false)) : (rhs s l).getD i [] = [.sc (.int .i64 r), .sl s (iv xs)] := by
  simp [rhs, cRH, List.getD_eq_getElem?_getD, h]
theorem rhs_stm (n s : Nat) (l : List (RI × Bool)) : stm n (rhs (s + 1) l) = rhs n l := stm_map n _ _ (fun x => by rcases x with ⟨x, b⟩; cases b <;> rfl) l
theorem rhs_gone {s : Nat} {l : List (RI × Bool)} {i : Nat} {r : Int} {xs : List Int} (h : l[i]? = some (⟨r, xs⟩, false)) : Rows.setCell (rhs s l) i 1 .gone = rhs s (l.set i (⟨r, xs⟩, true)) := by
  unfold Rows.setCell
  rw [rhs_get h]
  simp [rhs, List.map_set, cRH]
theorem mapF_get {fs : List RI} {i : Nat} (h : i < fs.length) : (fs.map fun a => (a, false))[i]? = some (fs.getD i default, false) := by
  simp [List.getD_eq_getElem?_getD, h]
theorem rhs_of (s : Nat) (l : List RI) : rhs s (l.map fun a => (a, false)) = ris s l := by simp [rhs, ris, cRH, cRI]
attribute [go_sem] rhs_length rhs_stm
end Go.Proofs.Ytahjpaicfppkoaa.A


/- BLOCKS: the reference. Conditions: none. -/
namespace Go.Proofs.Ytahjpaicfppkoaa.A
open Go
set_option linter.unusedSimpArgs false
set_option linter.unusedVariables false
set_option maxRecDepth 100000

theorem castL_append (a b : List Nat) : castL (a ++ b) = castL a ++ castL b := by simp [castL]
theorem clsOf_le {S : Nat → Nat → Bool} (i k : Nat) : (clsOf S i k).length ≤ k := by
  unfold clsOf
  have := List.length_filter_le (S i) (List.range k)
  simpa using this
theorem castL_len (l : List Nat) : (castL l).length = l.length := by simp [castL]
theorem clsOf_not {S : Nat → Nat → Bool} {n : Nat} (E : Eqv S n) {i : Nat} (hi : i < n) (h : isFst S i = false) : ∃ j t, clsOf S i n = j :: t ∧ j ≠ i := by
  have hex : ∃ j, j < i ∧ S j i = true := by
    refine Classical.byContradiction fun hn => ?_
    rw [isFst_of (fun j hj => by
      rcases e : S j i
      · rfl
      · exact absurd ⟨j, hj, e⟩ hn)] at h
    cases h
  obtain ⟨j, h1, h2⟩ := hex
  have hm : j ∈ clsOf S i n := clsOf_mem.mpr ⟨by omega, E.symm j i (by omega) hi h2⟩
  rcases hc : clsOf S i n with _ | ⟨a, t⟩
  · rw [hc] at hm; cases hm
  · refine ⟨a, t, rfl, ?_⟩
    have hs : (clsOf S i n).Pairwise (· < ·) := List.Pairwise.filter _ List.pairwise_lt_range
    rw [hc] at hs hm
    rcases List.mem_cons.mp hm with rfl | hm
    · omega
    · have := (List.pairwise_cons.mp hs).1 j hm
      omega
theorem blockOf_sat (d : Db) (h : d.fit) (g : goodDb d = true) {i : Nat} (hi : i < d.facts.length) : Sat Try.prog 99 [lDb d, lInt i] [oInts (castL (clsOf (keyR d) i d.facts.length))] [g2, g1] := by
  refine sat_of_body mixed Try.func99 rfl (by kernel_rfl) (by kernel_rfl) (rs := [.tmp 4]) rfl rfl rfl ?_
  have hn := goodDb_len g
  have w0 : IntKind.i64.wrap ((d.facts.length : Int) - 1) = (d.facts.length : Int) - 1 := IntWalk.i64_in _ (by omega)
  have hin : inB (i : Int) 0 ((d.facts.length : Int) - 1) = true := by unfold inB; simp; omega
  simp -implicitDefEqProofs (maxSteps := 2000000) only [go_sem]
  refine awp_loop Nat (fun k => mkSt [(1, .sc (.int .i64 i)), (2, .one (.vad 1000 0)), (5, .one (.ref 960 1 0 (castL (clsOf (keyR d) i k)).length)), (6, .sc (.int .i64 k))] [(1000, sDb d)] [(960, (1, ints (castL (clsOf (keyR d) i k))))] 4000)
    (fun k => k ≤ d.facts.length) (fun k => d.facts.length - k) 0 (by omega) (le_st' _ _ [⟨960, some _, false, 1, _⟩] [] _ (by simp -implicitDefEqProofs (maxSteps := 2000000) only [go_sem] <;> and_intros <;> rfl) (by simp -implicitDefEqProofs (maxSteps := 2000000) only [go_sem] <;> and_intros <;> rfl) (by simp -implicitDefEqProofs (maxSteps := 2000000) only [go_sem] <;> and_intros <;> rfl) (by rfl)) ?_
  rintro k h1
  have hl := castL_len (clsOf (keyR d) i k)
  have hl2 := clsOf_le (S := keyR d) i k
  by_cases c1 : k < d.facts.length
  · have wk : IntKind.i64.wrap ((k : Int) + 1) = ((k + 1 : Nat) : Int) := i64_succ (by omega)
    have hst := clsOf_succ (S := keyR d) i k
    simp -implicitDefEqProofs (maxSteps := 2000000) only [go_sem, c1]
    refine call_of (specIsValidDatabase_sat d h) (by simp -implicitDefEqProofs (maxSteps := 2000000) only [go_sem, g, w0]) (by kernel_rfl) (by simp -implicitDefEqProofs (maxSteps := 2000000) only [go_sem, g, w0]) ?_
    simp -implicitDefEqProofs (maxSteps := 2000000) only [go_sem, g, w0]
    refine call_of (inB_sat i 0 ((d.facts.length : Int) - 1)) (by simp -implicitDefEqProofs (maxSteps := 2000000) only [go_sem, hin, hi, c1]) (by kernel_rfl) (by simp -implicitDefEqProofs (maxSteps := 2000000) only [go_sem, hin, hi, c1]) ?_
    simp -implicitDefEqProofs (maxSteps := 2000000) only [go_sem, hin, hi, c1]
    rcases e : sameK d.rels (d.facts.getD i default) (d.facts.getD k default)
    · have e' : keyR d i k = false := e
      refine call_of (haveSameKey_sat d.rels (d.facts.getD i default) (d.facts.getD k default) h.1.1 (db_of g).1 (fact_of g hi) (fact_of g c1)) (by simp -implicitDefEqProofs (maxSteps := 2000000) only [go_sem, e]) (by kernel_rfl) (by simp -implicitDefEqProofs (maxSteps := 2000000) only [go_sem, e]) ?_
      simp -implicitDefEqProofs (maxSteps := 2000000) only [go_sem, e]
      first | (with_reducible refine tr_and ?_ ?_; focus kernel_rfl) | (with_reducible refine tr_only ?_; kernel_rfl) | skip
      rw [wk]
      refine ⟨k + 1, c1, by omega, ?_⟩
      rw [hst, e', if_neg (by simp), List.append_nil]
      exact (le_st' _ _ [⟨960, some _, false, 1, _⟩] [] _ (by simp -implicitDefEqProofs (maxSteps := 2000000) only [go_sem] <;> and_intros <;> rfl) (by simp -implicitDefEqProofs (maxSteps := 2000000) only [go_sem] <;> and_intros <;> rfl) (by simp -implicitDefEqProofs (maxSteps := 2000000) only [go_sem] <;> and_intros <;> rfl) (by rfl))
    · have e' : keyR d i k = true := e
      refine call_of (haveSameKey_sat d.rels (d.facts.getD i default) (d.facts.getD k default) h.1.1 (db_of g).1 (fact_of g hi) (fact_of g c1)) (by simp -implicitDefEqProofs (maxSteps := 2000000) only [go_sem, e]) (by kernel_rfl) (by simp -implicitDefEqProofs (maxSteps := 2000000) only [go_sem, e]) ?_
      simp -implicitDefEqProofs (maxSteps := 2000000) only [go_sem, e]
      refine ⟨by omega, ?_⟩
      rw [wk]
      refine ⟨k + 1, c1, by omega, ?_⟩
      rw [hst, e', if_pos rfl, castL_append, show castL [k] = [(k : Int)] from rfl]
      exact (le_st' _ _ [⟨960, some _, false, 1, _⟩] [] _ (by simp -implicitDefEqProofs (maxSteps := 2000000) only [go_sem] <;> and_intros <;> rfl) (by simp -implicitDefEqProofs (maxSteps := 2000000) only [go_sem] <;> and_intros <;> rfl) (by simp -implicitDefEqProofs (maxSteps := 2000000) only [go_sem] <;> and_intros <;> rfl) (by rfl))
  · obtain rfl : k = d.facts.length := by omega
    simp -implicitDefEqProofs (maxSteps := 2000000) only [go_sem, c1]
    first | done | rfl | exact ⟨rfl, rfl⟩ | exact ⟨rfl, rfl, rfl⟩ | (refine tr_and ?_ ?_ <;> first | rfl | exact ⟨rfl, rfl⟩ | kernel_rfl)
def blkS (d : Db) (k : Nat) : List (List Int) := (fsts (keyR d) k).map fun i => castL (clsOf (keyR d) i d.facts.length)
theorem blkS_all (d : Db) : blkS d d.facts.length = blocksOf d := by
  unfold blkS blocksOf blk blkN
  rw [List.map_map]; rfl
theorem blkS_len (d : Db) (k : Nat) : (blkS d k).length ≤ k := by
  unfold blkS fsts
  rw [List.length_map]
  have := List.length_filter_le (isFst (keyR d)) (List.range k)
  simpa using this
def blocksD (d : Db) : List (List Int) := if goodDb d then blocksOf d else []
theorem rst_blk (a : List (List Int)) : rst (iss 999 a) = iss 1 a := iss_rst 998 a
theorem specBlocks_sat (d : Db) (h : d.fit) : Sat Try.prog 61 [lDb d] [oISS (blocksD d)] [g2] := by
  refine sat_of_body mixed Try.func61 rfl (by kernel_rfl) (by kernel_rfl) (rs := [.tmp 2]) rfl rfl rfl ?_
  unfold blocksD
  rcases g : goodDb d
  · rw [if_neg (by simp)]
    simp -implicitDefEqProofs (maxSteps := 2000000) only [go_sem]
    refine awp_loop Nat (fun k => mkSt [(1, .one (.vad 1000 0)), (3, .one (.ref 960 1 0 0)), (4, .sc (.int .i64 k))] [(1000, sDb d)] [(960, (1, iss 999 []))] 2000)
      (fun k => k = 0) (fun k => 0) 0 rfl (le_st' _ _ [⟨960, some _, false, 1, _⟩] [] _ (by simp -implicitDefEqProofs (maxSteps := 2000000) only [go_sem, iss_nil] <;> and_intros <;> rfl) (by simp -implicitDefEqProofs (maxSteps := 2000000) only [go_sem, iss_nil] <;> and_intros <;> rfl) (by simp -implicitDefEqProofs (maxSteps := 2000000) only [go_sem, iss_nil] <;> and_intros <;> rfl) (by rfl)) ?_
    rintro k rfl
    by_cases c1 : 0 < d.facts.length
    · have c0 : (0 : Int) < d.facts.length := by omega
      simp -implicitDefEqProofs (maxSteps := 2000000) only [go_sem, c0]
      refine call_of (specIsValidDatabase_sat d h) (by simp -implicitDefEqProofs (maxSteps := 2000000) only [go_sem, g, c0]) (by kernel_rfl) (by simp -implicitDefEqProofs (maxSteps := 2000000) only [go_sem, g, c0]) ?_
      simp -implicitDefEqProofs (maxSteps := 2000000) only [go_sem, g, c0]
      first | done | rfl | exact ⟨rfl, rfl⟩ | exact ⟨rfl, rfl, rfl⟩ | (refine tr_and ?_ ?_ <;> first | rfl | exact ⟨rfl, rfl⟩ | kernel_rfl)
    · have c0 : ¬ (0 : Int) < d.facts.length := by omega
      simp -implicitDefEqProofs (maxSteps := 2000000) only [go_sem, c0]
      first | done | rfl | exact ⟨rfl, rfl⟩ | exact ⟨rfl, rfl, rfl⟩ | (refine tr_and ?_ ?_ <;> first | rfl | exact ⟨rfl, rfl⟩ | kernel_rfl)
  rw [if_pos rfl]
  have hn := goodDb_len g
  have E := keyR_eqv g
  rw [← blkS_all]
  have b0 : blkS d 0 = [] := rfl
  simp -implicitDefEqProofs (maxSteps := 2000000) only [go_sem]
  refine awp_loop Nat (fun k => mkSt [(1, .one (.vad 1000 0)), (3, .one (.ref 960 1 0 (blkS d k).length)), (4, .sc (.int .i64 k))] [(1000, sDb d)] [(960, (1, iss 999 (blkS d k)))] 4000)
    (fun k => k ≤ d.facts.length) (fun k => d.facts.length - k) 0 (by omega) (le_st' _ _ [⟨960, some _, false, 1, _⟩] [] _ (by simp -implicitDefEqProofs (maxSteps := 2000000) only [go_sem, iss_nil, b0, List.length_nil] <;> and_intros <;> rfl) (by simp -implicitDefEqProofs (maxSteps := 2000000) only [go_sem, iss_nil, b0, List.length_nil] <;> and_intros <;> rfl) (by simp -implicitDefEqProofs (maxSteps := 2000000) only [go_sem, iss_nil, b0, List.length_nil] <;> and_intros <;> rfl) (by rfl)) ?_
  rintro k h1
  have hb := blkS_len d k
  by_cases c1 : k < d.facts.length
  · have wk : IntKind.i64.wrap ((k : Int) + 1) = ((k + 1 : Nat) : Int) := i64_succ (by omega)
    have hst : blkS d (k + 1) = blkS d k ++ if isFst (keyR d) k then [castL (clsOf (keyR d) k d.facts.length)] else [] := by
      unfold blkS
      rw [fsts_succ, List.map_append]
      congr 1
      split <;> rfl
    rcases e : isFst (keyR d) k
    · obtain ⟨j, t, h2, h3⟩ := clsOf_not E c1 e
      have f : ((j : Int) == (k : Int)) = false := by rw [beq_eq_false_iff_ne]; omega
      have hz : 0 < (castL t).length + 1 := by omega
      have ct : castL (clsOf (keyR d) k d.facts.length) = (j : Int) :: castL t := by rw [h2]; rfl
      simp -implicitDefEqProofs (maxSteps := 2000000) only [go_sem, c1]
      refine call_of (specIsValidDatabase_sat d h) (by simp -implicitDefEqProofs (maxSteps := 2000000) only [go_sem, g]) (by kernel_rfl) (by simp -implicitDefEqProofs (maxSteps := 2000000) only [go_sem, g]) ?_
      simp -implicitDefEqProofs (maxSteps := 2000000) only [go_sem, g]
      refine call_of (blockOf_sat d h g c1) (by simp -implicitDefEqProofs (maxSteps := 2000000) only [go_sem, ct, f, hz]) (callOk_still (by kernel_rfl) (by simp only [List.all_cons, List.all_nil, LV.still, LV.leaves, Leaf.still, ints_still, ris_still, eds_still, rels_still, iss_still, ems_still, Bool.and_self, Bool.and_true])) (by simp -implicitDefEqProofs (maxSteps := 2000000) only [go_sem, ct, f, hz]) ?_
      simp -implicitDefEqProofs (maxSteps := 2000000) only [go_sem, ct, f, hz]
      rw [wk]
      refine ⟨k + 1, c1, by omega, ?_⟩
      rw [hst, e, if_neg (by simp), List.append_nil]
      exact (le_st' _ _ [⟨960, some _, false, 1, _⟩] [] _ (by simp -implicitDefEqProofs (maxSteps := 2000000) only [go_sem] <;> and_intros <;> rfl) (by simp -implicitDefEqProofs (maxSteps := 2000000) only [go_sem] <;> and_intros <;> rfl) (by simp -implicitDefEqProofs (maxSteps := 2000000) only [go_sem] <;> and_intros <;> rfl) (by rfl))
    · obtain ⟨t, h2⟩ := clsOf_fst E (Nat.le_refl _) c1 e
      have hz : 0 < (castL t).length + 1 := by omega
      have ct : castL (clsOf (keyR d) k d.facts.length) = (k : Int) :: castL t := by rw [h2]; rfl
      have f : ((k : Int) == (k : Int)) = true := by simp
      simp -implicitDefEqProofs (maxSteps := 2000000) only [go_sem, c1]
      refine call_of (specIsValidDatabase_sat d h) (by simp -implicitDefEqProofs (maxSteps := 2000000) only [go_sem, g]) (by kernel_rfl) (by simp -implicitDefEqProofs (maxSteps := 2000000) only [go_sem, g]) ?_
      simp -implicitDefEqProofs (maxSteps := 2000000) only [go_sem, g]
      refine call_of (blockOf_sat d h g c1) (by simp -implicitDefEqProofs (maxSteps := 2000000) only [go_sem, ct, f, hz]) (callOk_still (by kernel_rfl) (by simp only [List.all_cons, List.all_nil, LV.still, LV.leaves, Leaf.still, ints_still, ris_still, eds_still, rels_still, iss_still, ems_still, Bool.and_self, Bool.and_true])) (by simp -implicitDefEqProofs (maxSteps := 2000000) only [go_sem, ct, f, hz]) ?_
      simp -implicitDefEqProofs (maxSteps := 2000000) only [go_sem, ct, f, hz]
      rw [if_neg (by simp [flatB, Cell.flatB])]
      refine ⟨by omega, ?_⟩
      rw [wk]
      refine ⟨k + 1, c1, by omega, ?_⟩
      rw [hst, e, if_pos rfl, ct]
      exact (le_st' _ _ [⟨960, some _, false, 1, _⟩] [] _ (by simp -implicitDefEqProofs (maxSteps := 2000000) only [go_sem, repS, List.set_cons_zero, iss_one] <;> and_intros <;> rfl) (by simp -implicitDefEqProofs (maxSteps := 2000000) only [go_sem, repS, List.set_cons_zero, iss_one] <;> and_intros <;> rfl) (by simp -implicitDefEqProofs (maxSteps := 2000000) only [go_sem, repS, List.set_cons_zero, iss_one] <;> and_intros <;> rfl) (by rfl))
  · obtain rfl : k = d.facts.length := by omega
    simp -implicitDefEqProofs (maxSteps := 2000000) only [go_sem, c1]
    first | done | rfl | exact ⟨rfl, rfl⟩ | exact ⟨rfl, rfl, rfl⟩ | (refine tr_and ?_ ?_ <;> first | rfl | exact ⟨rfl, rfl⟩ | kernel_rfl)
/-! #### their sizes, how many repairs there are -/
def sizes (l : List (List Int)) : List Int := l.map fun b => (b.length : Int)
theorem sizes_length (l : List (List Int)) : (sizes l).length = l.length := by simp [sizes]
theorem sizes_get {l : List (List Int)} {i : Nat} (h : i < l.length) : (sizes l).getD i 0 = ((l.getD i []).length : Int) := by
  simp [sizes, List.getD_eq_getElem?_getD, h]
theorem sizes_take {l : List (List Int)} {i : Nat} (h : i < l.length) : sizes (l.take (i + 1)) = sizes (l.take i) ++ [((l.getD i []).length : Int)] := by
  rw [take_snoc [] h]; simp [sizes]
theorem blocksD_len (d : Db) : (blocksD d).length ≤ 14 ∧ ∀ b ∈ blocksD d, 0 < b.length ∧ b.length ≤ 14 := by
  unfold blocksD
  split
  · rename_i g; exact blocksOf_len g
  · exact ⟨by simp, fun b hb => by cases hb⟩
theorem blockSizes_sat (d : Db) (h : d.fit) : Sat Try.prog 63 [lDb d] [oInts (sizes (blocksD d))] [g2] := by
  refine sat_of_body mixed Try.func63 rfl (by kernel_rfl) (by kernel_rfl) (rs := [.tmp 2]) rfl rfl rfl ?_
  have hb := (blocksD_len d).1
  simp -implicitDefEqProofs (maxSteps := 2000000) only [go_sem]
  refine call_of (specBlocks_sat d h) (by simp -implicitDefEqProofs (maxSteps := 2000000) only [go_sem]) (callOk_still (by kernel_rfl) (by simp only [List.all_cons, List.all_nil, LV.still, LV.leaves, Leaf.still, ints_still, ris_still, eds_still, rels_still, iss_still, ems_still, Bool.and_self, Bool.and_true])) (by simp -implicitDefEqProofs (maxSteps := 2000000) only [go_sem]) ?_
  simp -implicitDefEqProofs (maxSteps := 2000000) only [go_sem]
  refine awp_loop Nat (fun k => mkSt [(3, .one (.ref 960 1 0 (sizes ((blocksD d).take k)).length)), (4, .one (.ref 961 1 0 (blocksD d).length)), (5, .sc (.int .i64 k))] [] [(960, (1, ints (sizes ((blocksD d).take k)))), (961, (1, iss 999 (blocksD d)))] 4000)
    (fun k => k ≤ (blocksD d).length) (fun k => (blocksD d).length - k) 0 (by omega) (le_st' _ _ [⟨960, some _, false, 1, _⟩, ⟨961, some _, false, 1, _⟩] [] _ (by simp -implicitDefEqProofs (maxSteps := 2000000) only [go_sem] <;> and_intros <;> rfl) (by simp -implicitDefEqProofs (maxSteps := 2000000) only [go_sem] <;> and_intros <;> rfl) (by simp -implicitDefEqProofs (maxSteps := 2000000) only [go_sem] <;> and_intros <;> rfl) (by rfl)) ?_
  rintro k h1
  by_cases c1 : k < (blocksD d).length
  · have wk : IntKind.i64.wrap ((k : Int) + 1) = ((k + 1 : Nat) : Int) := i64_succ (by omega)
    have hsl : (sizes ((blocksD d).take k)).length = k := by rw [sizes_length, List.length_take]; omega
    simp -implicitDefEqProofs (maxSteps := 2000000) only [go_sem, c1, hsl]
    refine ⟨by omega, ?_⟩
    rw [wk]
    refine ⟨k + 1, c1, by omega, ?_⟩
    rw [sizes_take c1]
    exact (le_st' _ _ [⟨960, some _, false, 1, _⟩, ⟨961, some _, false, 1, _⟩] [] _ (by simp -implicitDefEqProofs (maxSteps := 2000000) only [go_sem, hsl] <;> and_intros <;> rfl) (by simp -implicitDefEqProofs (maxSteps := 2000000) only [go_sem, hsl] <;> and_intros <;> rfl) (by simp -implicitDefEqProofs (maxSteps := 2000000) only [go_sem, hsl] <;> and_intros <;> rfl) (by rfl))
  · obtain rfl : k = (blocksD d).length := by omega
    rw [List.take_length]
    simp -implicitDefEqProofs (maxSteps := 2000000) only [go_sem, c1]
    first | done | rfl | exact ⟨rfl, rfl⟩ | exact ⟨rfl, rfl, rfl⟩ | (refine tr_and ?_ ?_ <;> first | rfl | exact ⟨rfl, rfl⟩ | kernel_rfl)
theorem prodL_take {l : List (List Int)} {i : Nat} (h : i < l.length) : prodL (l.take (i + 1)) = prodL (l.take i) * (l.getD i []).length := by
  rw [take_snoc [] h, prodL_append]; simp [prodL]
theorem prodL_part {l : List (List Int)} (hl : ∀ b ∈ l, 0 < b.length) (i : Nat) : prodL (l.take i) ≤ prodL l := by
  have h1 := prodL_append (l.take i) (l.drop i)
  rw [List.take_append_drop] at h1
  have h2 : 0 < prodL (l.drop i) := prodL_pos fun b hb => hl b (List.mem_of_mem_drop hb)
  rw [h1]
  exact Nat.le_mul_of_pos_right _ h2
def cntR (d : Db) : Nat := if goodDb d then prodL (blocksOf d) else 0
theorem cntR_le (d : Db) : cntR d ≤ 16384 := by
  unfold cntR
  split
  · rename_i g; exact (blocksOf_prod g).2
  · omega
theorem specCountRepairs_sat (d : Db) (h : d.fit) : Sat Try.prog 16 [lDb d] [lInt (cntR d)] [g2] := by
  refine sat_of_body mixed Try.func16 rfl (by kernel_rfl) (by kernel_rfl) (rs := [.tmp 2]) rfl rfl rfl ?_
  unfold cntR
  simp -implicitDefEqProofs (maxSteps := 2000000) only [go_sem]
  rcases g : goodDb d
  · rw [if_neg (by simp)]
    refine call_of (specIsValidDatabase_sat d h) (by simp -implicitDefEqProofs (maxSteps := 2000000) only [go_sem, g]) (by kernel_rfl) (by simp -implicitDefEqProofs (maxSteps := 2000000) only [go_sem, g]) ?_
    simp -implicitDefEqProofs (maxSteps := 2000000) only [go_sem, g]
    first | done | rfl | exact ⟨rfl, rfl⟩ | exact ⟨rfl, rfl, rfl⟩ | (refine tr_and ?_ ?_ <;> first | rfl | exact ⟨rfl, rfl⟩ | kernel_rfl)
  rw [if_pos rfl]
  have hb := (blocksD_len d).1
  have hB : blocksD d = blocksOf d := by rw [blocksD, g]; rfl
  rw [hB] at hb
  have hp := blocksOf_prod g
  have hn := (blocksOf_len g).2
  have hs := sizes_length (blocksOf d)
  refine call_of (specIsValidDatabase_sat d h) (by simp -implicitDefEqProofs (maxSteps := 2000000) only [go_sem, g]) (by kernel_rfl) (by simp -implicitDefEqProofs (maxSteps := 2000000) only [go_sem, g]) ?_
  simp -implicitDefEqProofs (maxSteps := 2000000) only [go_sem, g]
  refine call_of (blockSizes_sat d h) (by simp -implicitDefEqProofs (maxSteps := 2000000) only [go_sem, hB]) (callOk_still (by kernel_rfl) (by simp only [List.all_cons, List.all_nil, LV.still, LV.leaves, Leaf.still, ints_still, ris_still, eds_still, rels_still, iss_still, ems_still, Bool.and_self, Bool.and_true])) (by simp -implicitDefEqProofs (maxSteps := 2000000) only [go_sem, hB]) ?_
  simp -implicitDefEqProofs (maxSteps := 2000000) only [go_sem, hB]
  refine awp_loop Nat (fun k => mkSt [(3, .sc (.int .i64 (prodL ((blocksOf d).take k) : Nat))), (4, .one (.ref 961 1 0 (sizes (blocksOf d)).length)), (5, .sc (.int .i64 k))] [] [(961, (1, ints (sizes (blocksOf d))))] 4000)
    (fun k => k ≤ (blocksOf d).length) (fun k => (blocksOf d).length - k) 0 (by omega) (le_st' _ _ [⟨961, some _, false, 1, _⟩] [] _ (by simp -implicitDefEqProofs (maxSteps := 2000000) only [go_sem, List.take_zero, prodL] <;> and_intros <;> rfl) (by simp -implicitDefEqProofs (maxSteps := 2000000) only [go_sem, List.take_zero, prodL] <;> and_intros <;> rfl) (by simp -implicitDefEqProofs (maxSteps := 2000000) only [go_sem, List.take_zero, prodL] <;> and_intros <;> rfl) (by rfl)) ?_
  rintro k h1
  by_cases c1 : k < (blocksOf d).length
  · have wk : IntKind.i64.wrap ((k : Int) + 1) = ((k + 1 : Nat) : Int) := i64_succ (by omega)
    have hpt := prodL_take c1
    have hpp := prodL_part (fun b hb => (hn b hb).1) (k + 1)
    have wm : IntKind.i64.wrap (((prodL ((blocksOf d).take k) : Nat) : Int) * (((blocksOf d).getD k []).length : Int)) = ((prodL ((blocksOf d).take (k + 1)) : Nat) : Int) := by
      rw [hpt] at hpp ⊢
      rw [← Int.natCast_mul, IntWalk.i64_in _ (by omega)]
    have c2 : k < (sizes (blocksOf d)).length := by omega
    simp -implicitDefEqProofs (maxSteps := 2000000) only [go_sem, c1, c2, sizes_get c1]
    rw [wk, wm]
    exact ⟨k + 1, c1, by omega, (le_st' _ _ [⟨961, some _, false, 1, _⟩] [] _ (by simp -implicitDefEqProofs (maxSteps := 2000000) only [go_sem] <;> and_intros <;> rfl) (by simp -implicitDefEqProofs (maxSteps := 2000000) only [go_sem] <;> and_intros <;> rfl) (by simp -implicitDefEqProofs (maxSteps := 2000000) only [go_sem] <;> and_intros <;> rfl) (by rfl))⟩
  · obtain rfl : k = (blocksOf d).length := by omega
    rw [List.take_length]
    have c2 : ¬ (blocksOf d).length < (sizes (blocksOf d)).length := by omega
    simp -implicitDefEqProofs (maxSteps := 2000000) only [go_sem, c2]
    first | done | rfl | exact ⟨rfl, rfl⟩ | exact ⟨rfl, rfl, rfl⟩ | (refine tr_and ?_ ?_ <;> first | rfl | exact ⟨rfl, rfl⟩ | kernel_rfl)
end Go.Proofs.Ytahjpaicfppkoaa.A


/- REPAIRS BY THEIR RANK; PARTIAL REPAIRS: the reference. Conditions: none. -/
namespace Go.Proofs.Ytahjpaicfppkoaa.A
open Go
set_option linter.unusedSimpArgs false
set_option linter.unusedVariables false
set_option maxRecDepth 100000

def tOf : Nat → Int
  | 0 => -1
  | j + 1 => j
theorem tOf_zero : tOf 0 = -1 := rfl
theorem tOf_succ (j : Nat) : tOf (j + 1) = (j : Int) := rfl
theorem tOf_eq (j : Nat) : tOf j = (j : Int) - 1 := by cases j <;> simp [tOf]
theorem tmodN (a b : Nat) : (a : Int).tmod (b : Int) = ((a % b : Nat) : Int) := by rw [Int.tmod_eq_emod_of_nonneg (by omega)]; rfl
theorem tdivN (a b : Nat) : (a : Int).tdiv (b : Int) = ((a / b : Nat) : Int) := by rw [Int.tdiv_eq_ediv_of_nonneg (by omega)]; rfl
theorem wrapN {n : Nat} (h : n ≤ 9223372036854775807) : IntKind.i64.wrap (n : Int) = n := IntWalk.i64_in _ (by omega)
def nthOk (d : Db) (k : Int) : Bool := inB k 0 ((cntR d : Int) - 1)
def nth' (d : Db) (k : Int) : List Int := if nthOk d k then (pickR (blocksOf d) k.toNat).1 else []
theorem nthOk_good {d : Db} {k : Int} (h : nthOk d k = true) : goodDb d = true ∧ 0 ≤ k ∧ k < cntR d := by
  have h1 := inB_of h
  refine ⟨?_, by omega, by omega⟩
  rcases g : goodDb d
  · have : cntR d = 0 := by unfold cntR; rw [g]; rfl
    omega
  · rfl
theorem nth'_asc {d : Db} (g : goodDb d = true) (r : Nat) : (pickR (blocksOf d) r).1.Pairwise (· < ·) :=
  pickR_asc (blk_ne (keyR_eqv g) (Nat.le_refl _)) (blk_asc (keyR_eqv g) (Nat.le_refl _))
set_option maxHeartbeats 2000000 in
theorem specNthRepair_sat (d : Db) (k : Int) (h : d.fit) : Sat Try.prog 14 [lDb d, lInt k] [oInts (nth' d k), lBool (nthOk d k)] [g2, g1] := by
  refine sat_of_body mixed Try.func14 rfl (by kernel_rfl) (by kernel_rfl) (rs := [.tmp 4, .tmp 5]) rfl rfl rfl ?_
  have hc := cntR_le d
  have w0 : IntKind.i64.wrap ((cntR d : Int) - 1) = (cntR d : Int) - 1 := IntWalk.i64_in _ (by omega)
  simp -implicitDefEqProofs (maxSteps := 2000000) only [go_sem]
  refine call_of (specCountRepairs_sat d h) (by simp -implicitDefEqProofs (maxSteps := 2000000) only [go_sem, w0]) (by kernel_rfl) (by simp -implicitDefEqProofs (maxSteps := 2000000) only [go_sem, w0]) ?_
  simp -implicitDefEqProofs (maxSteps := 2000000) only [go_sem, w0]
  rcases e : nthOk d k
  · have e' := e
    unfold nthOk at e'
    rw [nth', e, if_neg (by simp)]
    refine call_of (inB_sat k 0 ((cntR d : Int) - 1)) (by simp -implicitDefEqProofs (maxSteps := 2000000) only [go_sem, e']) (by kernel_rfl) (by simp -implicitDefEqProofs (maxSteps := 2000000) only [go_sem, e']) ?_
    simp -implicitDefEqProofs (maxSteps := 2000000) only [go_sem, e']
    first | done | rfl | exact ⟨rfl, rfl⟩ | exact ⟨rfl, rfl, rfl⟩ | (refine tr_and ?_ ?_ <;> first | rfl | exact ⟨rfl, rfl⟩ | kernel_rfl)
  have e' := e
  unfold nthOk at e'
  obtain ⟨g, b1, b2⟩ := nthOk_good e
  rw [nth', e, if_pos rfl]
  obtain ⟨r, rfl⟩ : ∃ r : Nat, k = r := ⟨k.toNat, by omega⟩
  rw [Int.toNat_natCast]
  have hr : r ≤ 16384 := by omega
  obtain ⟨L, hL⟩ : ∃ L, L = blocksOf d := ⟨_, rfl⟩
  have hB : blocksD d = L := by rw [blocksD, g, hL]; rfl
  obtain ⟨hb, hn⟩ := blocksD_len d
  rw [hB] at hb hn
  have hasc := nth'_asc g r
  rw [← hL] at hasc ⊢
  have wl : IntKind.i64.wrap ((L.length : Int) - 1) = tOf L.length := by rw [tOf_eq, IntWalk.i64_in _ (by omega)]
  refine call_of (inB_sat r 0 ((cntR d : Int) - 1)) (by simp -implicitDefEqProofs (maxSteps := 2000000) only [go_sem, e']) (by kernel_rfl) (by simp -implicitDefEqProofs (maxSteps := 2000000) only [go_sem, e']) ?_
  simp -implicitDefEqProofs (maxSteps := 2000000) only [go_sem, e']
  refine call_of (specBlocks_sat d h) (by simp -implicitDefEqProofs (maxSteps := 2000000) only [go_sem, hB, wl]) (callOk_still (by kernel_rfl) (by simp only [List.all_cons, List.all_nil, LV.still, LV.leaves, Leaf.still, ints_still, ris_still, eds_still, rels_still, iss_still, ems_still, Bool.and_self, Bool.and_true])) (by simp -implicitDefEqProofs (maxSteps := 2000000) only [go_sem, hB, wl]) ?_
  simp -implicitDefEqProofs (maxSteps := 2000000) only [go_sem, hB, wl]
  refine awp_loop Nat (fun j => mkSt [(1, .sc (.int .i64 ((pickR (L.drop j) r).2 : Nat))), (6, .one (.ref 961 1 0 L.length)), (7, .one (.ref 960 1 0 (pickR (L.drop j) r).1.reverse.length)), (8, .sc (.int .i64 (tOf j)))] [] [(960, (1, ints (pickR (L.drop j) r).1.reverse)), (961, (1, iss 999 L))] 4000)
    (fun j => j ≤ L.length) (fun j => j) L.length (Nat.le_refl _) (le_st' _ _ [⟨960, some _, false, 1, _⟩, ⟨961, some _, false, 1, _⟩] [] _ (by simp -implicitDefEqProofs (maxSteps := 2000000) only [go_sem, List.drop_length, pickR, List.reverse_nil] <;> and_intros <;> rfl) (by simp -implicitDefEqProofs (maxSteps := 2000000) only [go_sem, List.drop_length, pickR, List.reverse_nil] <;> and_intros <;> rfl) (by simp -implicitDefEqProofs (maxSteps := 2000000) only [go_sem, List.drop_length, pickR, List.reverse_nil] <;> and_intros <;> rfl) (by rfl)) ?_
  rintro j h1
  rcases j with _ | j
  · have cz : decide ((-1 : Int) ≥ 0) = false := by decide
    simp -implicitDefEqProofs (maxSteps := 2000000) only [go_sem, tOf_zero, cz]
    refine call_of (l7Sorted_sat (pickR L r).1.reverse (by rw [List.length_reverse, pickR_len]; omega)) (by simp -implicitDefEqProofs (maxSteps := 2000000) only [go_sem]) (callOk_still (by kernel_rfl) (by simp only [List.all_cons, List.all_nil, LV.still, LV.leaves, Leaf.still, ints_still, ris_still, eds_still, rels_still, iss_still, ems_still, Bool.and_self, Bool.and_true])) (by simp -implicitDefEqProofs (maxSteps := 2000000) only [go_sem]) ?_
    simp -implicitDefEqProofs (maxSteps := 2000000) only [go_sem]
    rw [sort_rev hasc]
    exact ⟨rfl, by kernel_rfl⟩
  · have c1 : j < L.length := by omega
    have cz : decide ((j : Int) ≥ 0) = true := by rw [decide_eq_true_iff]; omega
    have hbj := hn _ (mem_getD [] c1)
    have hne : ¬ (((L.getD j []).length : Nat) : Int) = 0 := by omega
    have hlt : (pickR (L.drop (j + 1)) r).2 % (L.getD j []).length < (L.getD j []).length := Nat.mod_lt _ hbj.1
    have hpl := pickR_le (L.drop (j + 1)) r
    have hpn : (pickR (L.drop (j + 1)) r).1.length ≤ 14 := by rw [pickR_len, List.length_drop]; omega
    have hst := pickR_drop c1 r
    have wd : IntKind.i64.wrap (((pickR (L.drop (j + 1)) r).2 / (L.getD j []).length : Nat) : Int) = (((pickR (L.drop (j + 1)) r).2 / (L.getD j []).length : Nat) : Int) := wrapN (Nat.le_trans (Nat.div_le_self _ _) (by omega))
    have wj : IntKind.i64.wrap ((j : Int) - 1) = tOf j := by rw [tOf_eq, IntWalk.i64_in _ (by omega)]
    simp -implicitDefEqProofs (maxSteps := 2000000) only [go_sem, tOf_succ, cz, c1, tmodN, tdivN, hlt, hne, wd, wj]
    refine ⟨hne, by rw [List.length_reverse]; omega, tr_and (by kernel_rfl) ⟨hne, j, by omega, by omega, ?_⟩⟩
    rw [hst]
    exact (le_st' _ _ [⟨960, some _, false, 1, _⟩, ⟨961, some _, false, 1, _⟩] [] _ (by simp -implicitDefEqProofs (maxSteps := 2000000) only [go_sem, List.reverse_cons, repS, List.set_cons_zero] <;> and_intros <;> rfl) (by simp -implicitDefEqProofs (maxSteps := 2000000) only [go_sem, List.reverse_cons, repS, List.set_cons_zero] <;> and_intros <;> rfl) (by simp -implicitDefEqProofs (maxSteps := 2000000) only [go_sem, List.reverse_cons, repS, List.set_cons_zero] <;> and_intros <;> rfl) (by rfl))
/-! #### partial repairs -/
def cst (d : Db) : Bool := goodDb d && decide ((blocksOf d).length = d.facts.length)
theorem isConsistent_sat (d : Db) (h : d.fit) : Sat Try.prog 21 [lDb d] [lBool (cst d)] [g2] := by
  refine sat_of_body mixed Try.func21 rfl (by kernel_rfl) (by kernel_rfl) (rs := [.tmp 2]) rfl rfl rfl ?_
  unfold cst
  simp -implicitDefEqProofs (maxSteps := 2000000) only [go_sem]
  rcases g : goodDb d
  · refine call_of (specIsValidDatabase_sat d h) (by simp -implicitDefEqProofs (maxSteps := 2000000) only [go_sem, g]) (by kernel_rfl) (by simp -implicitDefEqProofs (maxSteps := 2000000) only [go_sem, g]) ?_
    simp -implicitDefEqProofs (maxSteps := 2000000) only [go_sem, g]
    first | (with_reducible refine tr_and ?_ ?_; focus kernel_rfl) | (with_reducible refine tr_only ?_; kernel_rfl) | skip
    first | done | rfl | exact ⟨rfl, rfl⟩ | exact ⟨rfl, rfl, rfl⟩ | (refine tr_and ?_ ?_ <;> first | rfl | exact ⟨rfl, rfl⟩ | kernel_rfl)
  · have hB : blocksD d = blocksOf d := by rw [blocksD, g]; rfl
    have e : (((blocksOf d).length : Int) == (d.facts.length : Int)) = decide ((blocksOf d).length = d.facts.length) := by
      rw [Bool.eq_iff_iff, beq_iff_eq, decide_eq_true_iff]; omega
    refine call_of (specIsValidDatabase_sat d h) (by simp -implicitDefEqProofs (maxSteps := 2000000) only [go_sem, g]) (by kernel_rfl) (by simp -implicitDefEqProofs (maxSteps := 2000000) only [go_sem, g]) ?_
    simp -implicitDefEqProofs (maxSteps := 2000000) only [go_sem, g]
    refine call_of (specBlocks_sat d h) (by simp -implicitDefEqProofs (maxSteps := 2000000) only [go_sem, hB, e]) (callOk_still (by kernel_rfl) (by simp only [List.all_cons, List.all_nil, LV.still, LV.leaves, Leaf.still, ints_still, ris_still, eds_still, rels_still, iss_still, ems_still, Bool.and_self, Bool.and_true])) (by simp -implicitDefEqProofs (maxSteps := 2000000) only [go_sem, hB, e]) ?_
    simp -implicitDefEqProofs (maxSteps := 2000000) only [go_sem, hB, e]
    first | (with_reducible refine tr_and ?_ ?_; focus kernel_rfl) | (with_reducible refine tr_only ?_; kernel_rfl) | skip
    first | done | rfl | exact ⟨rfl, rfl⟩ | exact ⟨rfl, rfl, rfl⟩ | (refine tr_and ?_ ?_ <;> first | rfl | exact ⟨rfl, rfl⟩ | kernel_rfl)
def isPR (d : Db) (l : List Int) : Bool := selOk d l && cst (selD d l)
end Go.Proofs.Ytahjpaicfppkoaa.A


/- CONFLICT EDGES: size, copy, comparison, marks; marks of databases. Conditions: none. -/
namespace Go.Proofs.Ytahjpaicfppkoaa.A
open Go
set_option linter.unusedSimpArgs false
set_option linter.unusedVariables false
set_option maxRecDepth 100000

def szEds (a : List Edge) (n : Int) : Int := if n - a.length < 0 then -1 else n - a.length
theorem szEds_ok : SzOk szEds (fun a => a.length ≤ 1048576) := by
  intro a n h
  unfold szEds
  split
  · exact ⟨by omega, fun h => absurd (by omega) h⟩
  · exact ⟨by omega, fun h => by omega⟩
def cntE : Int → Nat → List Edge
  | _, 0 => []
  | k, n + 1 => ⟨k, k + 1⟩ :: cntE (k + 2) n
theorem cntE_length : ∀ (k : Int) (n : Nat), (cntE k n).length = n
  | _, 0 => rfl
  | k, n + 1 => by rw [cntE, List.length_cons, cntE_length]
theorem cntE_get : ∀ {k : Int} {n i : Nat}, i < n → (cntE k n).getD i default = ⟨k + ((2 * i : Nat) : Int), k + ((2 * i : Nat) : Int) + 1⟩
  | k, n + 1, 0, _ => by simp [cntE]
  | k, n + 1, i + 1, h => by
    rw [cntE, List.getD_cons_succ, cntE_get (by omega), show k + 2 + ((2 * i : Nat) : Int) = k + ((2 * (i + 1) : Nat) : Int) by omega]
theorem cntE_full (k : Int) (n : Nat) : List.take n (cntE k n) = cntE k n := List.take_of_length_le (by rw [cntE_length]; omega)
attribute [go_sem] cntE_full
def numDb (d : Db) : Nat := 3 * d.rels.length + numRI d.facts
theorem numDb_ok {d : Db} (h : d.ok) : numDb d ≤ 1048577 * 1048577 + 3 * 1048576 := by
  have h1 := numRI_ok h.2.2
  have h2 := h.1.1
  have h3 := h.2.1
  unfold numDb
  have : d.facts.length * 1048577 ≤ 1048576 * 1048577 := Nat.mul_le_mul_right _ h3
  omega
end Go.Proofs.Ytahjpaicfppkoaa.A


/- CONFLICT GRAPHS: valid edges, independent sets. Conditions: none. -/
namespace Go.Proofs.Ytahjpaicfppkoaa.A
open Go
set_option linter.unusedSimpArgs false
set_option linter.unusedVariables false
set_option maxRecDepth 100000

/-- Does the i-th edge stand behind the one before it. -/
def lexAt (l : List Edge) (i : Nat) : Bool := decide (i = 0) || !(decide ((l.getD i default).a < (l.getD (i - 1) default).a) || (((l.getD i default).a == (l.getD (i - 1) default).a) && decide ((l.getD i default).b ≤ (l.getD (i - 1) default).b)))
def edAt (n : Int) (l : List Edge) (i : Nat) : Bool := inB (l.getD i default).a 0 ((l.getD i default).b - 1) && (inB (l.getD i default).b 0 (n - 1) && lexAt l i)
def edRaw (n : Int) (l : List Edge) (i : Nat) : Bool := inB (l.getD i default).a 0 (IntKind.i64.wrap ((l.getD i default).b - 1)) && (inB (l.getD i default).b 0 (IntKind.i64.wrap (n - 1)) && lexAt l i)
def goodEds (n : Int) (l : List Edge) : Bool := inB n 0 14 && upTo (edAt n l) l.length
theorem edRaw_eq {n : Int} (hn : inB n 0 14 = true) (l : List Edge) (i : Nat) : edRaw n l i = edAt n l i := by
  obtain ⟨h1, h2⟩ := inB_of hn
  unfold edRaw edAt
  rw [IntWalk.i64_in (n - 1) (by omega)]
  rcases d : inB (l.getD i default).b 0 (n - 1)
  · simp
  · obtain ⟨h3, h4⟩ := inB_of d
    rw [IntWalk.i64_in _ (by omega)]
theorem upTo_same {p p' : Nat → Bool} : ∀ {n : Nat}, (∀ k, k < n → p k = p' k) → upTo p n = upTo p' n
  | 0, _ => rfl
  | n + 1, h => by rw [upTo, upTo, upTo_same fun k hk => h k (by omega), h n (by omega)]
theorem goodEds_raw (n : Int) (l : List Edge) : goodEds n l = (upTo (edRaw n l) l.length && inB n 0 14) := by
  unfold goodEds
  rcases d : inB n 0 14
  · rw [Bool.and_false]; rfl
  · rw [upTo_same fun k _ => edRaw_eq d l k, Bool.and_true]; rfl
set_option maxHeartbeats 8000000 in
theorem specAreValidEdges_sat (n : Int) (l : List Edge) (h : l.length ≤ 9223372036854775807) : Sat Try.prog 26 [lInt n, lEds l] [lBool (goodEds n l)] [g1, g1] := by
  refine sat_of_body mixed Try.func26 rfl (by kernel_rfl) (by kernel_rfl) (rs := [.tmp 4]) rfl rfl rfl ?_
  have bad : ∀ k, k < l.length → edRaw n l k = false → goodEds n l = false := fun k hk e => by rw [goodEds_raw, upTo_false hk e]; rfl
  simp -implicitDefEqProofs (maxSteps := 2000000) only [go_sem]
  refine awp_loop Nat (fun k => mkSt [(0, .sc (.int .i64 n)), (1, .one (.im 2 (eds l))), (5, .sc (.int .i64 k))] [] [] 1000)
    (fun k => k ≤ l.length ∧ upTo (edRaw n l) k = true) (fun k => l.length - k) 0 ⟨by omega, rfl⟩ (le_st _ _ [] [] _ rfl (by simp -implicitDefEqProofs (maxSteps := 2000000) only [go_sem] <;> rfl) trivial trivial) ?_
  rintro k ⟨h1, h2⟩
  by_cases c1 : k < l.length
  · generalize ewn : IntKind.i64.wrap (n - 1) = wn
    generalize ewb : IntKind.i64.wrap ((l.getD k default).b - 1) = wb
    rcases d1 : inB (l.getD k default).a 0 wb
    · rw [bad k c1 (by rw [edRaw, ewb, d1]; rfl)]
      simp -implicitDefEqProofs (maxSteps := 2000000) only [go_sem, c1, ewn, ewb]
      refine call_of (inB_sat (l.getD k default).a 0 wb) (by simp -implicitDefEqProofs (maxSteps := 2000000) only [go_sem, d1, c1]) (by kernel_rfl) (by simp -implicitDefEqProofs (maxSteps := 2000000) only [go_sem, d1, c1]) ?_
      simp -implicitDefEqProofs (maxSteps := 2000000) only [go_sem, d1, c1]
      first | done | rfl | exact ⟨rfl, rfl⟩ | exact ⟨rfl, rfl, rfl⟩ | (refine tr_and ?_ ?_ <;> first | rfl | exact ⟨rfl, rfl⟩ | kernel_rfl)
    rcases d2 : inB (l.getD k default).b 0 wn
    · rw [bad k c1 (by rw [edRaw, ewb, ewn, d1, d2]; rfl)]
      simp -implicitDefEqProofs (maxSteps := 2000000) only [go_sem, c1, ewn, ewb]
      refine call_of (inB_sat (l.getD k default).a 0 wb) (by simp -implicitDefEqProofs (maxSteps := 2000000) only [go_sem, d1, c1, ewn]) (by kernel_rfl) (by simp -implicitDefEqProofs (maxSteps := 2000000) only [go_sem, d1, c1, ewn]) ?_
      simp -implicitDefEqProofs (maxSteps := 2000000) only [go_sem, d1, c1, ewn]
      refine call_of (inB_sat (l.getD k default).b 0 wn) (by simp -implicitDefEqProofs (maxSteps := 2000000) only [go_sem, d2, c1]) (by kernel_rfl) (by simp -implicitDefEqProofs (maxSteps := 2000000) only [go_sem, d2, c1]) ?_
      simp -implicitDefEqProofs (maxSteps := 2000000) only [go_sem, d2, c1]
      first | done | rfl | exact ⟨rfl, rfl⟩ | exact ⟨rfl, rfl, rfl⟩ | (refine tr_and ?_ ?_ <;> first | rfl | exact ⟨rfl, rfl⟩ | kernel_rfl)
    rcases k with _ | j
    · have e : edRaw n l 0 = true := by rw [edRaw, ewb, ewn, d1, d2]; rfl
      have c0 : (0 : Int) < l.length := by omega
      simp -implicitDefEqProofs (maxSteps := 2000000) only [go_sem, c1, c0, ewn, ewb]
      refine call_of (inB_sat (l.getD 0 default).a 0 wb) (by simp -implicitDefEqProofs (maxSteps := 2000000) only [go_sem, d1, c1, c0, ewn]) (by kernel_rfl) (by simp -implicitDefEqProofs (maxSteps := 2000000) only [go_sem, d1, c1, c0, ewn]) ?_
      simp -implicitDefEqProofs (maxSteps := 2000000) only [go_sem, d1, c1, c0, ewn]
      refine call_of (inB_sat (l.getD 0 default).b 0 wn) (by simp -implicitDefEqProofs (maxSteps := 2000000) only [go_sem, d2, c1, c0]) (by kernel_rfl) (by simp -implicitDefEqProofs (maxSteps := 2000000) only [go_sem, d2, c1, c0]) ?_
      simp -implicitDefEqProofs (maxSteps := 2000000) only [go_sem, d2, c1, c0]
      first | (with_reducible refine tr_and ?_ ?_; focus kernel_rfl) | (with_reducible refine tr_only ?_; kernel_rfl) | skip
      exact ⟨1, ⟨c1, upTo_step h2 e⟩, by omega, (le_st _ _ [] [] _ rfl (by simp -implicitDefEqProofs (maxSteps := 2000000) only [go_sem] <;> rfl) trivial trivial)⟩
    · have c2 : j < l.length := by omega
      have c3 : 0 < ((j + 1 : Nat) : Int) := by omega
      have w1 := i64_pred (j := j) (by omega)
      rcases d3 : decide ((l.getD (j + 1) default).a < (l.getD j default).a)
      case true =>
        rw [bad (j + 1) c1 (by rw [edRaw, ewb, ewn, d1, d2, lexAt, Nat.add_sub_cancel, d3]; rfl)]
        simp -implicitDefEqProofs (maxSteps := 2000000) only [go_sem, c1, ewn, ewb]
        refine call_of (inB_sat (l.getD (j + 1) default).a 0 wb) (by simp -implicitDefEqProofs (maxSteps := 2000000) only [go_sem, d1, c1, ewn]) (by kernel_rfl) (by simp -implicitDefEqProofs (maxSteps := 2000000) only [go_sem, d1, c1, ewn]) ?_
        simp -implicitDefEqProofs (maxSteps := 2000000) only [go_sem, d1, c1, ewn]
        refine call_of (inB_sat (l.getD (j + 1) default).b 0 wn) (by simp -implicitDefEqProofs (maxSteps := 2000000) only [go_sem, d2, d3, c1, c2, c3, w1]) (by kernel_rfl) (by simp -implicitDefEqProofs (maxSteps := 2000000) only [go_sem, d2, d3, c1, c2, c3, w1]) ?_
        simp -implicitDefEqProofs (maxSteps := 2000000) only [go_sem, d2, d3, c1, c2, c3, w1]
        first | done | rfl | exact ⟨rfl, rfl⟩ | exact ⟨rfl, rfl, rfl⟩ | (refine tr_and ?_ ?_ <;> first | rfl | exact ⟨rfl, rfl⟩ | kernel_rfl)
      rcases d4 : (l.getD (j + 1) default).a == (l.getD j default).a
      · have e : edRaw n l (j + 1) = true := by rw [edRaw, ewb, ewn, d1, d2, lexAt, Nat.add_sub_cancel, d3, d4]; rfl
        simp -implicitDefEqProofs (maxSteps := 2000000) only [go_sem, c1, ewn, ewb]
        refine call_of (inB_sat (l.getD (j + 1) default).a 0 wb) (by simp -implicitDefEqProofs (maxSteps := 2000000) only [go_sem, d1, c1, ewn]) (by kernel_rfl) (by simp -implicitDefEqProofs (maxSteps := 2000000) only [go_sem, d1, c1, ewn]) ?_
        simp -implicitDefEqProofs (maxSteps := 2000000) only [go_sem, d1, c1, ewn]
        refine call_of (inB_sat (l.getD (j + 1) default).b 0 wn) (by simp -implicitDefEqProofs (maxSteps := 2000000) only [go_sem, d2, d3, d4, c1, c2, c3, w1]) (by kernel_rfl) (by simp -implicitDefEqProofs (maxSteps := 2000000) only [go_sem, d2, d3, d4, c1, c2, c3, w1]) ?_
        simp -implicitDefEqProofs (maxSteps := 2000000) only [go_sem, d2, d3, d4, c1, c2, c3, w1]
        first | (with_reducible refine tr_and ?_ ?_; focus kernel_rfl) | (with_reducible refine tr_only ?_; kernel_rfl) | skip
        rw [i64_succ (by omega)]
        exact ⟨j + 1 + 1, ⟨c1, upTo_step h2 e⟩, by omega, (le_st _ _ [] [] _ rfl (by simp -implicitDefEqProofs (maxSteps := 2000000) only [go_sem] <;> rfl) trivial trivial)⟩
      rcases d5 : decide ((l.getD (j + 1) default).b ≤ (l.getD j default).b)
      · have e : edRaw n l (j + 1) = true := by rw [edRaw, ewb, ewn, d1, d2, lexAt, Nat.add_sub_cancel, d3, d4, d5]; rfl
        simp -implicitDefEqProofs (maxSteps := 2000000) only [go_sem, c1, ewn, ewb]
        refine call_of (inB_sat (l.getD (j + 1) default).a 0 wb) (by simp -implicitDefEqProofs (maxSteps := 2000000) only [go_sem, d1, c1, ewn]) (by kernel_rfl) (by simp -implicitDefEqProofs (maxSteps := 2000000) only [go_sem, d1, c1, ewn]) ?_
        simp -implicitDefEqProofs (maxSteps := 2000000) only [go_sem, d1, c1, ewn]
        refine call_of (inB_sat (l.getD (j + 1) default).b 0 wn) (by simp -implicitDefEqProofs (maxSteps := 2000000) only [go_sem, d2, d3, d4, d5, c1, c2, c3, w1]) (by kernel_rfl) (by simp -implicitDefEqProofs (maxSteps := 2000000) only [go_sem, d2, d3, d4, d5, c1, c2, c3, w1]) ?_
        simp -implicitDefEqProofs (maxSteps := 2000000) only [go_sem, d2, d3, d4, d5, c1, c2, c3, w1]
        first | (with_reducible refine tr_and ?_ ?_; focus kernel_rfl) | (with_reducible refine tr_only ?_; kernel_rfl) | skip
        rw [i64_succ (by omega)]
        exact ⟨j + 1 + 1, ⟨c1, upTo_step h2 e⟩, by omega, (le_st _ _ [] [] _ rfl (by simp -implicitDefEqProofs (maxSteps := 2000000) only [go_sem] <;> rfl) trivial trivial)⟩
      · rw [bad (j + 1) c1 (by rw [edRaw, ewb, ewn, d1, d2, lexAt, Nat.add_sub_cancel, d3, d4, d5]; rfl)]
        simp -implicitDefEqProofs (maxSteps := 2000000) only [go_sem, c1, ewn, ewb]
        refine call_of (inB_sat (l.getD (j + 1) default).a 0 wb) (by simp -implicitDefEqProofs (maxSteps := 2000000) only [go_sem, d1, c1, ewn]) (by kernel_rfl) (by simp -implicitDefEqProofs (maxSteps := 2000000) only [go_sem, d1, c1, ewn]) ?_
        simp -implicitDefEqProofs (maxSteps := 2000000) only [go_sem, d1, c1, ewn]
        refine call_of (inB_sat (l.getD (j + 1) default).b 0 wn) (by simp -implicitDefEqProofs (maxSteps := 2000000) only [go_sem, d2, d3, d4, d5, c1, c2, c3, w1]) (by kernel_rfl) (by simp -implicitDefEqProofs (maxSteps := 2000000) only [go_sem, d2, d3, d4, d5, c1, c2, c3, w1]) ?_
        simp -implicitDefEqProofs (maxSteps := 2000000) only [go_sem, d2, d3, d4, d5, c1, c2, c3, w1]
        first | done | rfl | exact ⟨rfl, rfl⟩ | exact ⟨rfl, rfl, rfl⟩ | (refine tr_and ?_ ?_ <;> first | rfl | exact ⟨rfl, rfl⟩ | kernel_rfl)
  · obtain rfl : k = l.length := by omega
    rw [goodEds_raw, h2]
    simp -implicitDefEqProofs (maxSteps := 2000000) only [go_sem, c1]
    refine call_of (inB_sat n 0 14) (by simp -implicitDefEqProofs (maxSteps := 2000000) only [go_sem]) (by kernel_rfl) (by simp -implicitDefEqProofs (maxSteps := 2000000) only [go_sem]) ?_
    simp -implicitDefEqProofs (maxSteps := 2000000) only [go_sem]
    first | done | rfl | exact ⟨rfl, rfl⟩ | exact ⟨rfl, rfl, rfl⟩ | (refine tr_and ?_ ?_ <;> first | rfl | exact ⟨rfl, rfl⟩ | kernel_rfl)
set_option maxHeartbeats 8000000 in
theorem implAreValidEdges_sat (n : Int) (l : List Edge) (h : l.length ≤ 9223372036854775807) : Sat Try.prog 18 [lInt n, lEds l] [lBool (goodEds n l)] [g1, g1] := by
  refine sat_of_body mixed Try.func18 rfl (by kernel_rfl) (by kernel_rfl) (rs := [.tmp 4]) rfl rfl rfl ?_
  simp -implicitDefEqProofs (maxSteps := 2000000) only [go_sem]
  rcases d0 : inB n 0 14
  · rw [show goodEds n l = false by rw [goodEds, d0]; rfl]
    refine call_of (inW_sat n 0 14) (by simp -implicitDefEqProofs (maxSteps := 2000000) only [go_sem, d0]) (by kernel_rfl) (by simp -implicitDefEqProofs (maxSteps := 2000000) only [go_sem, d0]) ?_
    simp -implicitDefEqProofs (maxSteps := 2000000) only [go_sem, d0]
    first | done | rfl | exact ⟨rfl, rfl⟩ | exact ⟨rfl, rfl, rfl⟩ | (refine tr_and ?_ ?_ <;> first | rfl | exact ⟨rfl, rfl⟩ | kernel_rfl)
  refine call_of (inW_sat n 0 14) (by simp -implicitDefEqProofs (maxSteps := 2000000) only [go_sem, d0]) (by kernel_rfl) (by simp -implicitDefEqProofs (maxSteps := 2000000) only [go_sem, d0]) ?_
  simp -implicitDefEqProofs (maxSteps := 2000000) only [go_sem, d0]
  have ge : goodEds n l = upTo (edAt n l) l.length := by rw [goodEds, d0]; rfl
  have bad : ∀ k, k < l.length → edAt n l k = false → goodEds n l = false := fun k hk e => by rw [ge, upTo_false hk e]
  refine awp_loop Nat (fun k => mkSt [(0, .sc (.int .i64 n)), (1, .one (.im 2 (eds l))), (10, .one (.im 2 (eds l))), (11, .sc (.int .i64 l.length)), (12, .sc (.int .i64 k))] [] [] 2000)
    (fun k => k ≤ l.length ∧ upTo (edAt n l) k = true) (fun k => l.length - k) 0 ⟨by omega, rfl⟩ (le_st _ _ [] [] _ rfl (by simp -implicitDefEqProofs (maxSteps := 2000000) only [go_sem] <;> rfl) trivial trivial) ?_
  rintro k ⟨h1, h2⟩
  by_cases c1 : k < l.length
  · rcases d1 : decide ((l.getD k default).a < 0)
    case true =>
      rw [bad k c1 (by rw [edAt, inB, decide_eq_false (by have := of_decide_eq_true d1; omega)]; rfl)]
      simp -implicitDefEqProofs (maxSteps := 2000000) only [go_sem, c1, d1]
      first | (with_reducible refine tr_and ?_ ?_; focus kernel_rfl) | (with_reducible refine tr_only ?_; kernel_rfl) | skip
      first | done | rfl | exact ⟨rfl, rfl⟩ | exact ⟨rfl, rfl, rfl⟩ | (refine tr_and ?_ ?_ <;> first | rfl | exact ⟨rfl, rfl⟩ | kernel_rfl)
    rcases d2 : decide ((l.getD k default).a ≥ (l.getD k default).b)
    case true =>
      rw [bad k c1 (by rw [edAt, inB, decide_eq_false (show ¬ (l.getD k default).a ≤ (l.getD k default).b - 1 by have := of_decide_eq_true d2; omega), Bool.and_false]; rfl)]
      simp -implicitDefEqProofs (maxSteps := 2000000) only [go_sem, c1, d1, d2]
      first | (with_reducible refine tr_and ?_ ?_; focus kernel_rfl) | (with_reducible refine tr_only ?_; kernel_rfl) | skip
      first | done | rfl | exact ⟨rfl, rfl⟩ | exact ⟨rfl, rfl, rfl⟩ | (refine tr_and ?_ ?_ <;> first | rfl | exact ⟨rfl, rfl⟩ | kernel_rfl)
    rcases d3 : decide ((l.getD k default).b ≥ n)
    case true =>
      rw [bad k c1 (by rw [edAt, inB, inB, decide_eq_false (show ¬ (l.getD k default).b ≤ n - 1 by have := of_decide_eq_true d3; omega)]; simp)]
      simp -implicitDefEqProofs (maxSteps := 2000000) only [go_sem, c1, d1, d2, d3]
      first | (with_reducible refine tr_and ?_ ?_; focus kernel_rfl) | (with_reducible refine tr_only ?_; kernel_rfl) | skip
      first | done | rfl | exact ⟨rfl, rfl⟩ | exact ⟨rfl, rfl, rfl⟩ | (refine tr_and ?_ ?_ <;> first | rfl | exact ⟨rfl, rfl⟩ | kernel_rfl)
    have hin : inB (l.getD k default).a 0 ((l.getD k default).b - 1) = true ∧ inB (l.getD k default).b 0 (n - 1) = true := by
      have e1 := of_decide_eq_false d1
      have e2 := of_decide_eq_false d2
      have e3 := of_decide_eq_false d3
      unfold inB
      simp only [Bool.and_eq_true, decide_eq_true_eq]
      omega
    rcases k with _ | j
    · have e : edAt n l 0 = true := by rw [edAt, hin.1, hin.2]; rfl
      have c0 : (0 : Int) < l.length := by omega
      simp -implicitDefEqProofs (maxSteps := 2000000) only [go_sem, c1, c0, d1, d2, d3]
      first | (with_reducible refine tr_and ?_ ?_; focus kernel_rfl) | (with_reducible refine tr_only ?_; kernel_rfl) | skip
      exact ⟨1, ⟨c1, upTo_step h2 e⟩, by omega, (le_st _ _ [] [] _ rfl (by simp -implicitDefEqProofs (maxSteps := 2000000) only [go_sem] <;> rfl) trivial trivial)⟩
    · have c2 : j < l.length := by omega
      have c3 : 0 < ((j + 1 : Nat) : Int) := by omega
      have w1 := i64_pred (j := j) (by omega)
      have sym : ((l.getD (j + 1) default).a == (l.getD j default).a) = ((l.getD j default).a == (l.getD (j + 1) default).a) := by rw [Bool.eq_iff_iff, beq_iff_eq, beq_iff_eq]; exact ⟨Eq.symm, Eq.symm⟩
      rcases d4 : decide ((l.getD j default).a > (l.getD (j + 1) default).a)
      case true =>
        rw [bad (j + 1) c1 (by rw [edAt, hin.1, hin.2, lexAt, Nat.add_sub_cancel, show decide ((l.getD (j + 1) default).a < (l.getD j default).a) = true from d4]; rfl)]
        simp -implicitDefEqProofs (maxSteps := 2000000) only [go_sem, c1, c2, c3, w1, d1, d2, d3, d4]
        first | (with_reducible refine tr_and ?_ ?_; focus kernel_rfl) | (with_reducible refine tr_only ?_; kernel_rfl) | skip
        first | done | rfl | exact ⟨rfl, rfl⟩ | exact ⟨rfl, rfl, rfl⟩ | (refine tr_and ?_ ?_ <;> first | rfl | exact ⟨rfl, rfl⟩ | kernel_rfl)
      rcases d5 : (l.getD j default).a == (l.getD (j + 1) default).a
      · have e : edAt n l (j + 1) = true := by rw [edAt, hin.1, hin.2, lexAt, Nat.add_sub_cancel, show decide ((l.getD (j + 1) default).a < (l.getD j default).a) = false from d4, sym, d5]; rfl
        simp -implicitDefEqProofs (maxSteps := 2000000) only [go_sem, c1, c2, c3, w1, d1, d2, d3, d4, d5]
        first | (with_reducible refine tr_and ?_ ?_; focus kernel_rfl) | (with_reducible refine tr_only ?_; kernel_rfl) | skip
        rw [i64_succ (by omega)]
        exact ⟨j + 1 + 1, ⟨c1, upTo_step h2 e⟩, by omega, (le_st _ _ [] [] _ rfl (by simp -implicitDefEqProofs (maxSteps := 2000000) only [go_sem] <;> rfl) trivial trivial)⟩
      rcases d6 : decide ((l.getD j default).b ≥ (l.getD (j + 1) default).b)
      · have e : edAt n l (j + 1) = true := by rw [edAt, hin.1, hin.2, lexAt, Nat.add_sub_cancel, show decide ((l.getD (j + 1) default).a < (l.getD j default).a) = false from d4, sym, d5, show decide ((l.getD (j + 1) default).b ≤ (l.getD j default).b) = false from d6]; rfl
        simp -implicitDefEqProofs (maxSteps := 2000000) only [go_sem, c1, c2, c3, w1, d1, d2, d3, d4, d5, d6]
        first | (with_reducible refine tr_and ?_ ?_; focus kernel_rfl) | (with_reducible refine tr_only ?_; kernel_rfl) | skip
        rw [i64_succ (by omega)]
        exact ⟨j + 1 + 1, ⟨c1, upTo_step h2 e⟩, by omega, (le_st _ _ [] [] _ rfl (by simp -implicitDefEqProofs (maxSteps := 2000000) only [go_sem] <;> rfl) trivial trivial)⟩
      · rw [bad (j + 1) c1 (by rw [edAt, hin.1, hin.2, lexAt, Nat.add_sub_cancel, show decide ((l.getD (j + 1) default).a < (l.getD j default).a) = false from d4, sym, d5, show decide ((l.getD (j + 1) default).b ≤ (l.getD j default).b) = true from d6]; rfl)]
        simp -implicitDefEqProofs (maxSteps := 2000000) only [go_sem, c1, c2, c3, w1, d1, d2, d3, d4, d5, d6]
        first | (with_reducible refine tr_and ?_ ?_; focus kernel_rfl) | (with_reducible refine tr_only ?_; kernel_rfl) | skip
        first | done | rfl | exact ⟨rfl, rfl⟩ | exact ⟨rfl, rfl, rfl⟩ | (refine tr_and ?_ ?_ <;> first | rfl | exact ⟨rfl, rfl⟩ | kernel_rfl)
  · obtain rfl : k = l.length := by omega
    rw [ge, h2]
    simp -implicitDefEqProofs (maxSteps := 2000000) only [go_sem, c1]

/-! #### independent sets -/
def edNo (s : List Int) (l : List Edge) (k : Nat) : Bool := !(decide ((l.getD k default).a ∈ s) && decide ((l.getD k default).b ∈ s))
def indep (l : List Edge) (s : List Int) : Bool := upTo (edNo s l) l.length
theorem specIsIndependent_sat (l : List Edge) (s : List Int) (hl : l.length ≤ 9223372036854775807) (hs : s.length ≤ 9223372036854775807) : Sat Try.prog 73 [lEds l, lInts s] [lBool (indep l s)] [g1, g1] := by
  refine sat_of_body mixed Try.func73 rfl (by kernel_rfl) (by kernel_rfl) (rs := [.tmp 4]) rfl rfl rfl ?_
  simp -implicitDefEqProofs (maxSteps := 2000000) only [go_sem]
  refine awp_loop Nat (fun k => mkSt [(0, .one (.im 2 (eds l))), (1, .one (.im 1 (ints s))), (5, .sc (.int .i64 k))] [] [] 1000)
    (fun k => k ≤ l.length ∧ upTo (edNo s l) k = true) (fun k => l.length - k) 0 ⟨by omega, rfl⟩ (le_st _ _ [] [] _ rfl (by simp -implicitDefEqProofs (maxSteps := 2000000) only [go_sem] <;> rfl) trivial trivial) ?_
  rintro k ⟨h1, h2⟩
  by_cases c1 : k < l.length
  · rcases d1 : decide ((l.getD k default).a ∈ s)
    · simp -implicitDefEqProofs (maxSteps := 2000000) only [go_sem, c1]
      refine call_of (l7Has_sat s (l.getD k default).a hs) (by simp -implicitDefEqProofs (maxSteps := 2000000) only [go_sem, d1, c1]) (by kernel_rfl) (by simp -implicitDefEqProofs (maxSteps := 2000000) only [go_sem, d1, c1]) ?_
      simp -implicitDefEqProofs (maxSteps := 2000000) only [go_sem, d1, c1]
      rw [i64_succ (by omega)]
      exact ⟨k + 1, ⟨c1, upTo_step h2 (by rw [edNo, d1]; rfl)⟩, by omega, (le_st _ _ [] [] _ rfl (by simp -implicitDefEqProofs (maxSteps := 2000000) only [go_sem] <;> rfl) trivial trivial)⟩
    rcases d2 : decide ((l.getD k default).b ∈ s)
    · simp -implicitDefEqProofs (maxSteps := 2000000) only [go_sem, c1]
      refine call_of (l7Has_sat s (l.getD k default).a hs) (by simp -implicitDefEqProofs (maxSteps := 2000000) only [go_sem, d1, c1]) (by kernel_rfl) (by simp -implicitDefEqProofs (maxSteps := 2000000) only [go_sem, d1, c1]) ?_
      simp -implicitDefEqProofs (maxSteps := 2000000) only [go_sem, d1, c1]
      refine call_of (l7Has_sat s (l.getD k default).b hs) (by simp -implicitDefEqProofs (maxSteps := 2000000) only [go_sem, d2, c1]) (by kernel_rfl) (by simp -implicitDefEqProofs (maxSteps := 2000000) only [go_sem, d2, c1]) ?_
      simp -implicitDefEqProofs (maxSteps := 2000000) only [go_sem, d2, c1]
      rw [i64_succ (by omega)]
      exact ⟨k + 1, ⟨c1, upTo_step h2 (by rw [edNo, d1, d2]; rfl)⟩, by omega, (le_st _ _ [] [] _ rfl (by simp -implicitDefEqProofs (maxSteps := 2000000) only [go_sem] <;> rfl) trivial trivial)⟩
    · rw [show indep l s = false from upTo_false c1 (by rw [edNo, d1, d2]; rfl)]
      simp -implicitDefEqProofs (maxSteps := 2000000) only [go_sem, c1]
      refine call_of (l7Has_sat s (l.getD k default).a hs) (by simp -implicitDefEqProofs (maxSteps := 2000000) only [go_sem, d1, c1]) (by kernel_rfl) (by simp -implicitDefEqProofs (maxSteps := 2000000) only [go_sem, d1, c1]) ?_
      simp -implicitDefEqProofs (maxSteps := 2000000) only [go_sem, d1, c1]
      refine call_of (l7Has_sat s (l.getD k default).b hs) (by simp -implicitDefEqProofs (maxSteps := 2000000) only [go_sem, d2, c1]) (by kernel_rfl) (by simp -implicitDefEqProofs (maxSteps := 2000000) only [go_sem, d2, c1]) ?_
      simp -implicitDefEqProofs (maxSteps := 2000000) only [go_sem, d2, c1]
  · obtain rfl : k = l.length := by omega
    simp -implicitDefEqProofs (maxSteps := 2000000) only [go_sem, c1]
    rw [show indep l s = true from h2]
theorem isIndependent1_sat (s : List Int) (x : Edge) (hs : s.length ≤ 9223372036854775807) : Sat Try.prog 69 [.agg [.sc (.int .i64 x.a), .sc (.int .i64 x.b)], .one (.ip [.im 1 (ints s)])] [lBool (decide (x.a ∈ s) && decide (x.b ∈ s))] [g2, g1] := by
  refine sat_of_body mixed Try.func69 rfl (by kernel_rfl) (by kernel_rfl) (rs := [.tmp 3]) rfl rfl rfl ?_
  rcases x with ⟨a, b⟩
  simp -implicitDefEqProofs (maxSteps := 2000000) only [go_sem]
  rcases d1 : decide (a ∈ s)
  · refine call_of (slicesContains_sat s a hs) (by simp -implicitDefEqProofs (maxSteps := 2000000) only [go_sem, d1]) (by kernel_rfl) (by simp -implicitDefEqProofs (maxSteps := 2000000) only [go_sem, d1]) ?_
    simp -implicitDefEqProofs (maxSteps := 2000000) only [go_sem, d1]
    first | done | rfl | exact ⟨rfl, rfl⟩ | exact ⟨rfl, rfl, rfl⟩ | (refine tr_and ?_ ?_ <;> first | rfl | exact ⟨rfl, rfl⟩ | kernel_rfl)
  · refine call_of (slicesContains_sat s a hs) (by simp -implicitDefEqProofs (maxSteps := 2000000) only [go_sem, d1]) (by kernel_rfl) (by simp -implicitDefEqProofs (maxSteps := 2000000) only [go_sem, d1]) ?_
    simp -implicitDefEqProofs (maxSteps := 2000000) only [go_sem, d1]
    refine call_of (slicesContains_sat s b hs) (by simp -implicitDefEqProofs (maxSteps := 2000000) only [go_sem]) (by kernel_rfl) (by simp -implicitDefEqProofs (maxSteps := 2000000) only [go_sem]) ?_
    simp -implicitDefEqProofs (maxSteps := 2000000) only [go_sem]
    first | done | rfl | exact ⟨rfl, rfl⟩ | exact ⟨rfl, rfl, rfl⟩ | (refine tr_and ?_ ?_ <;> first | rfl | exact ⟨rfl, rfl⟩ | kernel_rfl)
theorem edsIndex_sat (l : List Edge) (s : List Int) (h : l.length ≤ 9223372036854775807) (hs : s.length ≤ 9223372036854775807) : Sat Try.prog 102 [lEds l, .one (.fn 69 [[.im 1 (ints s)]])] [lInt (firstNo (edNo s l) l.length 0)] [g1, g1] := by
  refine sat_of_body mixed Try.func102 rfl (by kernel_rfl) (by kernel_rfl) (rs := [.tmp 4]) rfl rfl rfl ?_
  simp -implicitDefEqProofs (maxSteps := 2000000) only [go_sem]
  refine awp_loop Nat (fun k => mkSt [(0, .one (.im 2 (eds l))), (1, .one (.fni 69 [[.im 1 (ints s)]])), (7, .sc (.int .i64 l.length)), (8, .sc (.int .i64 k))] [] [] 1000)
    (fun k => k ≤ l.length ∧ firstNo (edNo s l) (l.length - k) k = firstNo (edNo s l) l.length 0) (fun k => l.length - k) 0 ⟨by omega, rfl⟩ (le_st _ _ [] [] _ rfl (by simp -implicitDefEqProofs (maxSteps := 2000000) only [go_sem] <;> rfl) trivial trivial) ?_
  rintro k ⟨h1, h2⟩
  by_cases c1 : k < l.length
  · rw [show l.length - k = (l.length - (k + 1)) + 1 by omega, firstNo] at h2
    rcases d : (decide ((l.getD k default).a ∈ s) && decide ((l.getD k default).b ∈ s))
    · rw [if_pos (by rw [edNo, d]; rfl)] at h2
      simp -implicitDefEqProofs (maxSteps := 2000000) only [go_sem, c1]
      refine call_of (isIndependent1_sat s (l.getD k default) hs) (by simp -implicitDefEqProofs (maxSteps := 2000000) only [go_sem, d, c1]) (by kernel_rfl) (by simp -implicitDefEqProofs (maxSteps := 2000000) only [go_sem, d, c1]) ?_
      simp -implicitDefEqProofs (maxSteps := 2000000) only [go_sem, d, c1]
      rw [i64_succ (by omega)]
      exact ⟨k + 1, ⟨c1, h2⟩, by omega, (le_st _ _ [] [] _ rfl (by simp -implicitDefEqProofs (maxSteps := 2000000) only [go_sem] <;> rfl) trivial trivial)⟩
    · rw [if_neg (by rw [edNo, d]; simp)] at h2
      simp -implicitDefEqProofs (maxSteps := 2000000) only [go_sem, c1]
      refine call_of (isIndependent1_sat s (l.getD k default) hs) (by simp -implicitDefEqProofs (maxSteps := 2000000) only [go_sem, d, c1]) (by kernel_rfl) (by simp -implicitDefEqProofs (maxSteps := 2000000) only [go_sem, d, c1]) ?_
      simp -implicitDefEqProofs (maxSteps := 2000000) only [go_sem, d, c1]
      rw [← h2]
  · obtain rfl : k = l.length := by omega
    rw [Nat.sub_self, firstNo] at h2
    simp -implicitDefEqProofs (maxSteps := 2000000) only [go_sem, c1]
    rw [← h2]
theorem edsContains_sat (l : List Edge) (s : List Int) (h : l.length ≤ 9223372036854775807) (hs : s.length ≤ 9223372036854775807) : Sat Try.prog 68 [lEds l, .one (.fn 69 [[.im 1 (ints s)]])] [lBool (!indep l s)] [g1, g1] := by
  refine sat_of_body mixed Try.func68 rfl (by kernel_rfl) (by kernel_rfl) (rs := [.tmp 4]) rfl rfl rfl ?_
  simp -implicitDefEqProofs (maxSteps := 2000000) only [go_sem]
  refine call_of (edsIndex_sat l s h hs) (by simp -implicitDefEqProofs (maxSteps := 2000000) only [go_sem]) (by kernel_rfl) (by simp -implicitDefEqProofs (maxSteps := 2000000) only [go_sem]) ?_
  simp -implicitDefEqProofs (maxSteps := 2000000) only [go_sem]
  rw [firstNo_ge _ _ _ rfl, Nat.zero_add]
  rfl
theorem implIsIndependent_sat (l : List Edge) (s : List Int) (h : l.length ≤ 9223372036854775807) (hs : s.length ≤ 9223372036854775807) : Sat Try.prog 20 [lEds l, lInts s] [lBool (indep l s)] [g1, g1] := by
  refine sat_of_body mixed Try.func20 rfl (by kernel_rfl) (by kernel_rfl) (rs := [.tmp 4]) rfl rfl rfl ?_
  simp -implicitDefEqProofs (maxSteps := 2000000) only [go_sem]
  refine call_of (edsContains_sat l s h hs) (by simp -implicitDefEqProofs (maxSteps := 2000000) only [go_sem]) (by kernel_rfl) (by simp -implicitDefEqProofs (maxSteps := 2000000) only [go_sem]) ?_
  simp -implicitDefEqProofs (maxSteps := 2000000) only [go_sem]
  rw [Bool.not_not]
end Go.Proofs.Ytahjpaicfppkoaa.A


/- CONFLICT GRAPHS: maximal independent sets. Conditions: none. -/
namespace Go.Proofs.Ytahjpaicfppkoaa.A
open Go
set_option linter.unusedSimpArgs false
set_option linter.unusedVariables false
set_option maxRecDepth 100000

/-- Is the i-th number an index, and behind the one before it. -/
def ixAt (l : List Int) (n : Int) (i : Nat) : Bool := inB (l.getD i 0) 0 (n - 1) && (decide (i = 0) || !decide (l.getD i 0 ≤ l.getD (i - 1) 0))
def ixs (l : List Int) (n : Int) : Bool := upTo (ixAt l n) l.length
theorem areIxs_sat (l : List Int) (n : Int) (h : l.length ≤ 9223372036854775807) (hn : -9223372036854775807 ≤ n ∧ n ≤ 9223372036854775807) : Sat Try.prog 100 [lInts l, lInt n] [lBool (ixs l n)] [g1, g1] := by
  refine sat_of_body mixed Try.func100 rfl (by kernel_rfl) (by kernel_rfl) (rs := [.tmp 4]) rfl rfl rfl ?_
  unfold ixs
  have w0 : IntKind.i64.wrap (n - 1) = n - 1 := IntWalk.i64_in _ (by omega)
  simp -implicitDefEqProofs (maxSteps := 2000000) only [go_sem]
  refine awp_loop Nat (fun k => mkSt [(0, .one (.im 1 (ints l))), (1, .sc (.int .i64 n)), (7, .one (.im 1 (ints l))), (8, .sc (.int .i64 l.length)), (9, .sc (.int .i64 k))] [] [] 1000)
    (fun k => k ≤ l.length ∧ upTo (ixAt l n) k = true) (fun k => l.length - k) 0 ⟨by omega, rfl⟩ (le_st _ _ [] [] _ rfl (by simp -implicitDefEqProofs (maxSteps := 2000000) only [go_sem] <;> rfl) trivial trivial) ?_
  rintro k ⟨h1, h2⟩
  by_cases c1 : k < l.length
  · rcases d1 : inB (l.getD k 0) 0 (n - 1)
    · rw [upTo_false c1 (by rw [ixAt, d1]; rfl)]
      simp -implicitDefEqProofs (maxSteps := 2000000) only [go_sem, c1, w0]
      refine call_of (inW_sat (l.getD k 0) 0 (n - 1)) (by simp -implicitDefEqProofs (maxSteps := 2000000) only [go_sem, d1, c1]) (by kernel_rfl) (by simp -implicitDefEqProofs (maxSteps := 2000000) only [go_sem, d1, c1]) ?_
      simp -implicitDefEqProofs (maxSteps := 2000000) only [go_sem, d1, c1]
    rcases k with _ | j
    · have e : ixAt l n 0 = true := by rw [ixAt, d1]; rfl
      have c0 : (0 : Int) < l.length := by omega
      simp -implicitDefEqProofs (maxSteps := 2000000) only [go_sem, c1, c0, w0]
      refine call_of (inW_sat (l.getD 0 0) 0 (n - 1)) (by simp -implicitDefEqProofs (maxSteps := 2000000) only [go_sem, d1, c1, c0]) (by kernel_rfl) (by simp -implicitDefEqProofs (maxSteps := 2000000) only [go_sem, d1, c1, c0]) ?_
      simp -implicitDefEqProofs (maxSteps := 2000000) only [go_sem, d1, c1, c0]
      exact ⟨1, ⟨c1, upTo_step h2 e⟩, by omega, (le_st _ _ [] [] _ rfl (by simp -implicitDefEqProofs (maxSteps := 2000000) only [go_sem] <;> rfl) trivial trivial)⟩
    · have c2 : j < l.length := by omega
      have c3 : 0 < ((j + 1 : Nat) : Int) := by omega
      have w1 := i64_pred (j := j) (by omega)
      rcases d2 : decide (l.getD (j + 1) 0 ≤ l.getD j 0)
      · have e : ixAt l n (j + 1) = true := by rw [ixAt, d1, Nat.add_sub_cancel, d2]; rfl
        simp -implicitDefEqProofs (maxSteps := 2000000) only [go_sem, c1, w0]
        refine call_of (inW_sat (l.getD (j + 1) 0) 0 (n - 1)) (by simp -implicitDefEqProofs (maxSteps := 2000000) only [go_sem, d1, d2, c1, c2, c3, w1]) (by kernel_rfl) (by simp -implicitDefEqProofs (maxSteps := 2000000) only [go_sem, d1, d2, c1, c2, c3, w1]) ?_
        simp -implicitDefEqProofs (maxSteps := 2000000) only [go_sem, d1, d2, c1, c2, c3, w1]
        rw [i64_succ (by omega)]
        exact ⟨j + 1 + 1, ⟨c1, upTo_step h2 e⟩, by omega, (le_st _ _ [] [] _ rfl (by simp -implicitDefEqProofs (maxSteps := 2000000) only [go_sem] <;> rfl) trivial trivial)⟩
      · rw [upTo_false c1 (show ixAt l n (j + 1) = false by rw [ixAt, d1, Nat.add_sub_cancel, d2]; rfl)]
        simp -implicitDefEqProofs (maxSteps := 2000000) only [go_sem, c1, w0]
        refine call_of (inW_sat (l.getD (j + 1) 0) 0 (n - 1)) (by simp -implicitDefEqProofs (maxSteps := 2000000) only [go_sem, d1, d2, c1, c2, c3, w1]) (by kernel_rfl) (by simp -implicitDefEqProofs (maxSteps := 2000000) only [go_sem, d1, d2, c1, c2, c3, w1]) ?_
        simp -implicitDefEqProofs (maxSteps := 2000000) only [go_sem, d1, d2, c1, c2, c3, w1]
  · obtain rfl : k = l.length := by omega
    simp -implicitDefEqProofs (maxSteps := 2000000) only [go_sem, c1]
    rw [h2]
theorem l8Set_sat (n : Int) (l : List Int) (h : l.length ≤ 9223372036854775807) (hn : 0 ≤ n ∧ n ≤ 9223372036854775807) : Sat Try.prog 72 [lInt n, lInts l] [lBool (ixs l n)] [g1, g1] := by
  refine sat_of_body mixed Try.func72 rfl (by kernel_rfl) (by kernel_rfl) (rs := [.tmp 4]) rfl rfl rfl ?_
  unfold ixs
  have w0 : IntKind.i64.wrap (n - 1) = n - 1 := IntWalk.i64_in _ (by omega)
  simp -implicitDefEqProofs (maxSteps := 2000000) only [go_sem]
  refine awp_loop Nat (fun k => mkSt [(0, .sc (.int .i64 n)), (1, .one (.im 1 (ints l))), (5, .sc (.int .i64 k))] [] [] 1000)
    (fun k => k ≤ l.length ∧ upTo (ixAt l n) k = true) (fun k => l.length - k) 0 ⟨by omega, rfl⟩ (le_st _ _ [] [] _ rfl (by simp -implicitDefEqProofs (maxSteps := 2000000) only [go_sem] <;> rfl) trivial trivial) ?_
  rintro k ⟨h1, h2⟩
  by_cases c1 : k < l.length
  · rcases d1 : inB (l.getD k 0) 0 (n - 1)
    · rw [upTo_false c1 (by rw [ixAt, d1]; rfl)]
      simp -implicitDefEqProofs (maxSteps := 2000000) only [go_sem, c1, w0]
      refine call_of (inB_sat (l.getD k 0) 0 (n - 1)) (by simp -implicitDefEqProofs (maxSteps := 2000000) only [go_sem, d1, c1]) (by kernel_rfl) (by simp -implicitDefEqProofs (maxSteps := 2000000) only [go_sem, d1, c1]) ?_
      simp -implicitDefEqProofs (maxSteps := 2000000) only [go_sem, d1, c1]
      first | (with_reducible refine tr_and ?_ ?_; focus kernel_rfl) | (with_reducible refine tr_only ?_; kernel_rfl) | skip
      first | done | rfl | exact ⟨rfl, rfl⟩ | exact ⟨rfl, rfl, rfl⟩ | (refine tr_and ?_ ?_ <;> first | rfl | exact ⟨rfl, rfl⟩ | kernel_rfl)
    rcases k with _ | j
    · have e : ixAt l n 0 = true := by rw [ixAt, d1]; rfl
      have c0 : (0 : Int) < l.length := by omega
      simp -implicitDefEqProofs (maxSteps := 2000000) only [go_sem, c1, c0, w0]
      refine call_of (inB_sat (l.getD 0 0) 0 (n - 1)) (by simp -implicitDefEqProofs (maxSteps := 2000000) only [go_sem, d1, c1, c0]) (by kernel_rfl) (by simp -implicitDefEqProofs (maxSteps := 2000000) only [go_sem, d1, c1, c0]) ?_
      simp -implicitDefEqProofs (maxSteps := 2000000) only [go_sem, d1, c1, c0]
      first | (with_reducible refine tr_and ?_ ?_; focus kernel_rfl) | (with_reducible refine tr_only ?_; kernel_rfl) | skip
      exact ⟨1, ⟨c1, upTo_step h2 e⟩, by omega, (le_st _ _ [] [] _ rfl (by simp -implicitDefEqProofs (maxSteps := 2000000) only [go_sem] <;> rfl) trivial trivial)⟩
    · have c2 : j < l.length := by omega
      have c3 : 0 < ((j + 1 : Nat) : Int) := by omega
      have w1 := i64_pred (j := j) (by omega)
      rcases d2 : decide (l.getD (j + 1) 0 ≤ l.getD j 0)
      · have e : ixAt l n (j + 1) = true := by rw [ixAt, d1, Nat.add_sub_cancel, d2]; rfl
        simp -implicitDefEqProofs (maxSteps := 2000000) only [go_sem, c1, w0]
        refine call_of (inB_sat (l.getD (j + 1) 0) 0 (n - 1)) (by simp -implicitDefEqProofs (maxSteps := 2000000) only [go_sem, d1, d2, c1, c2, c3, w1]) (by kernel_rfl) (by simp -implicitDefEqProofs (maxSteps := 2000000) only [go_sem, d1, d2, c1, c2, c3, w1]) ?_
        simp -implicitDefEqProofs (maxSteps := 2000000) only [go_sem, d1, d2, c1, c2, c3, w1]
        first | (with_reducible refine tr_and ?_ ?_; focus kernel_rfl) | (with_reducible refine tr_only ?_; kernel_rfl) | skip
        rw [i64_succ (by omega)]
        exact ⟨j + 1 + 1, ⟨c1, upTo_step h2 e⟩, by omega, (le_st _ _ [] [] _ rfl (by simp -implicitDefEqProofs (maxSteps := 2000000) only [go_sem] <;> rfl) trivial trivial)⟩
      · rw [upTo_false c1 (show ixAt l n (j + 1) = false by rw [ixAt, d1, Nat.add_sub_cancel, d2]; rfl)]
        simp -implicitDefEqProofs (maxSteps := 2000000) only [go_sem, c1, w0]
        refine call_of (inB_sat (l.getD (j + 1) 0) 0 (n - 1)) (by simp -implicitDefEqProofs (maxSteps := 2000000) only [go_sem, d1, d2, c1, c2, c3, w1]) (by kernel_rfl) (by simp -implicitDefEqProofs (maxSteps := 2000000) only [go_sem, d1, d2, c1, c2, c3, w1]) ?_
        simp -implicitDefEqProofs (maxSteps := 2000000) only [go_sem, d1, d2, c1, c2, c3, w1]
        first | (with_reducible refine tr_and ?_ ?_; focus kernel_rfl) | (with_reducible refine tr_only ?_; kernel_rfl) | skip
        first | done | rfl | exact ⟨rfl, rfl⟩ | exact ⟨rfl, rfl, rfl⟩ | (refine tr_and ?_ ?_ <;> first | rfl | exact ⟨rfl, rfl⟩ | kernel_rfl)
  · obtain rfl : k = l.length := by omega
    simp -implicitDefEqProofs (maxSteps := 2000000) only [go_sem, c1]
    rw [h2]
/-- May a number join a set. -/
def fitsE (l : List Edge) (s : List Int) (x : Int) : Bool := !decide (x ∈ s) && indep l (s ++ [x])
theorem l8Fits_sat (l : List Edge) (s : List Int) (x : Int) (hl : l.length ≤ 9223372036854775807) (hs : s.length ≤ 1048576) : Sat Try.prog 74 [lEds l, lInts s, lInt x] [lBool (fitsE l s x)] [g1, g1, g1] := by
  refine sat_of_body mixed Try.func74 rfl (by kernel_rfl) (by kernel_rfl) (rs := [.tmp 6]) rfl rfl rfl ?_
  unfold fitsE
  simp -implicitDefEqProofs (maxSteps := 2000000) only [go_sem]
  rcases d : decide (x ∈ s)
  · refine call_of (l7Has_sat s x (by omega)) (by simp -implicitDefEqProofs (maxSteps := 2000000) only [go_sem, d]) (by kernel_rfl) (by simp -implicitDefEqProofs (maxSteps := 2000000) only [go_sem, d]) ?_
    simp -implicitDefEqProofs (maxSteps := 2000000) only [go_sem, d]
    repeat (refine ⟨by omega, ?_⟩)
    refine call_of (specIsIndependent_sat l (s ++ [x]) hl (by simp; omega)) (by simp -implicitDefEqProofs (maxSteps := 2000000) only [go_sem]) (by kernel_rfl) (by simp -implicitDefEqProofs (maxSteps := 2000000) only [go_sem]) ?_
    simp -implicitDefEqProofs (maxSteps := 2000000) only [go_sem]
    first | done | rfl | exact ⟨rfl, rfl⟩ | exact ⟨rfl, rfl, rfl⟩ | (refine tr_and ?_ ?_ <;> first | rfl | exact ⟨rfl, rfl⟩ | kernel_rfl)
  · refine call_of (l7Has_sat s x (by omega)) (by simp -implicitDefEqProofs (maxSteps := 2000000) only [go_sem, d]) (by kernel_rfl) (by simp -implicitDefEqProofs (maxSteps := 2000000) only [go_sem, d]) ?_
    simp -implicitDefEqProofs (maxSteps := 2000000) only [go_sem, d]
    first | done | rfl | exact ⟨rfl, rfl⟩ | exact ⟨rfl, rfl, rfl⟩ | (refine tr_and ?_ ?_ <;> first | rfl | exact ⟨rfl, rfl⟩ | kernel_rfl)
def isMax (n : Int) (l : List Edge) (s : List Int) : Bool := goodEds n l && (ixs s n && (indep l s && upTo (fun x => !fitsE l s x) n.toNat))
theorem specIsMaximalIndependent_sat (n : Int) (l : List Edge) (s : List Int) (hl : l.length ≤ 9223372036854775807) (hs : s.length ≤ 1048576) : Sat Try.prog 25 [lInt n, lEds l, lInts s] [lBool (isMax n l s)] [g1, g1, g1] := by
  refine sat_of_body mixed Try.func25 rfl (by kernel_rfl) (by kernel_rfl) (rs := [.tmp 6]) rfl rfl rfl ?_
  unfold isMax
  simp -implicitDefEqProofs (maxSteps := 2000000) only [go_sem]
  rcases g : goodEds n l
  · refine call_of (specAreValidEdges_sat n l hl) (by simp -implicitDefEqProofs (maxSteps := 2000000) only [go_sem, g]) (by kernel_rfl) (by simp -implicitDefEqProofs (maxSteps := 2000000) only [go_sem, g]) ?_
    simp -implicitDefEqProofs (maxSteps := 2000000) only [go_sem, g]
    first | done | rfl | exact ⟨rfl, rfl⟩ | exact ⟨rfl, rfl, rfl⟩ | (refine tr_and ?_ ?_ <;> first | rfl | exact ⟨rfl, rfl⟩ | kernel_rfl)
  have hn : 0 ≤ n ∧ n ≤ 14 := by
    unfold goodEds at g
    rw [Bool.and_eq_true] at g
    exact inB_of g.1
  rcases d1 : ixs s n
  · refine call_of (specAreValidEdges_sat n l hl) (by simp -implicitDefEqProofs (maxSteps := 2000000) only [go_sem, g]) (by kernel_rfl) (by simp -implicitDefEqProofs (maxSteps := 2000000) only [go_sem, g]) ?_
    simp -implicitDefEqProofs (maxSteps := 2000000) only [go_sem, g]
    refine call_of (l8Set_sat n s (by omega) (by omega)) (by simp -implicitDefEqProofs (maxSteps := 2000000) only [go_sem, d1]) (by kernel_rfl) (by simp -implicitDefEqProofs (maxSteps := 2000000) only [go_sem, d1]) ?_
    simp -implicitDefEqProofs (maxSteps := 2000000) only [go_sem, d1]
    first | done | rfl | exact ⟨rfl, rfl⟩ | exact ⟨rfl, rfl, rfl⟩ | (refine tr_and ?_ ?_ <;> first | rfl | exact ⟨rfl, rfl⟩ | kernel_rfl)
  rcases d2 : indep l s
  · refine call_of (specAreValidEdges_sat n l hl) (by simp -implicitDefEqProofs (maxSteps := 2000000) only [go_sem, g]) (by kernel_rfl) (by simp -implicitDefEqProofs (maxSteps := 2000000) only [go_sem, g]) ?_
    simp -implicitDefEqProofs (maxSteps := 2000000) only [go_sem, g]
    refine call_of (l8Set_sat n s (by omega) (by omega)) (by simp -implicitDefEqProofs (maxSteps := 2000000) only [go_sem, d1]) (by kernel_rfl) (by simp -implicitDefEqProofs (maxSteps := 2000000) only [go_sem, d1]) ?_
    simp -implicitDefEqProofs (maxSteps := 2000000) only [go_sem, d1]
    refine call_of (specIsIndependent_sat l s hl (by omega)) (by simp -implicitDefEqProofs (maxSteps := 2000000) only [go_sem, d2]) (by kernel_rfl) (by simp -implicitDefEqProofs (maxSteps := 2000000) only [go_sem, d2]) ?_
    simp -implicitDefEqProofs (maxSteps := 2000000) only [go_sem, d2]
    first | done | rfl | exact ⟨rfl, rfl⟩ | exact ⟨rfl, rfl, rfl⟩ | (refine tr_and ?_ ?_ <;> first | rfl | exact ⟨rfl, rfl⟩ | kernel_rfl)
  obtain ⟨m, rfl⟩ : ∃ m : Nat, n = m := ⟨n.toNat, by omega⟩
  rw [show ((m : Nat) : Int).toNat = m by omega]
  refine call_of (specAreValidEdges_sat m l hl) (by simp -implicitDefEqProofs (maxSteps := 2000000) only [go_sem, g]) (by kernel_rfl) (by simp -implicitDefEqProofs (maxSteps := 2000000) only [go_sem, g]) ?_
  simp -implicitDefEqProofs (maxSteps := 2000000) only [go_sem, g]
  refine call_of (l8Set_sat m s (by omega) (by omega)) (by simp -implicitDefEqProofs (maxSteps := 2000000) only [go_sem, d1]) (by kernel_rfl) (by simp -implicitDefEqProofs (maxSteps := 2000000) only [go_sem, d1]) ?_
  simp -implicitDefEqProofs (maxSteps := 2000000) only [go_sem, d1]
  refine call_of (specIsIndependent_sat l s hl (by omega)) (by simp -implicitDefEqProofs (maxSteps := 2000000) only [go_sem, d2]) (by kernel_rfl) (by simp -implicitDefEqProofs (maxSteps := 2000000) only [go_sem, d2]) ?_
  simp -implicitDefEqProofs (maxSteps := 2000000) only [go_sem, d2]
  refine awp_loop Nat (fun k => mkSt [(0, .sc (.int .i64 m)), (1, .one (.im 2 (eds l))), (2, .one (.im 1 (ints s))), (7, .sc (.int .i64 k))] [] [] 4000)
    (fun k => k ≤ m ∧ upTo (fun x => !fitsE l s x) k = true) (fun k => m - k) 0 ⟨by omega, rfl⟩ (le_st _ _ [] [] _ rfl (by simp -implicitDefEqProofs (maxSteps := 2000000) only [go_sem] <;> rfl) trivial trivial) ?_
  rintro k ⟨h1, h2⟩
  by_cases c1 : k < m
  · rcases d : fitsE l s k
    · simp -implicitDefEqProofs (maxSteps := 2000000) only [go_sem, c1]
      refine call_of (l8Fits_sat l s k hl hs) (by simp -implicitDefEqProofs (maxSteps := 2000000) only [go_sem, d]) (by kernel_rfl) (by simp -implicitDefEqProofs (maxSteps := 2000000) only [go_sem, d]) ?_
      simp -implicitDefEqProofs (maxSteps := 2000000) only [go_sem, d]
      rw [i64_succ (by omega)]
      exact ⟨k + 1, ⟨c1, upTo_step h2 (by rw [d]; rfl)⟩, by omega, (le_st _ _ [] [] _ rfl (by simp -implicitDefEqProofs (maxSteps := 2000000) only [go_sem] <;> rfl) trivial trivial)⟩
    · rw [upTo_false (p := fun x : Nat => !fitsE l s x) c1 (by rw [d]; rfl)]
      simp -implicitDefEqProofs (maxSteps := 2000000) only [go_sem, c1]
      refine call_of (l8Fits_sat l s k hl hs) (by simp -implicitDefEqProofs (maxSteps := 2000000) only [go_sem, d]) (by kernel_rfl) (by simp -implicitDefEqProofs (maxSteps := 2000000) only [go_sem, d]) ?_
      simp -implicitDefEqProofs (maxSteps := 2000000) only [go_sem, d]
      first | done | rfl | exact ⟨rfl, rfl⟩ | exact ⟨rfl, rfl, rfl⟩ | (refine tr_and ?_ ?_ <;> first | rfl | exact ⟨rfl, rfl⟩ | kernel_rfl)
  · obtain rfl : k = m := by omega
    rw [h2]
    simp -implicitDefEqProofs (maxSteps := 2000000) only [go_sem, c1]
    first | done | rfl | exact ⟨rfl, rfl⟩ | exact ⟨rfl, rfl, rfl⟩ | (refine tr_and ?_ ?_ <;> first | rfl | exact ⟨rfl, rfl⟩ | kernel_rfl)
theorem isIndependentSet_sat (n : Int) (l : List Edge) (s : List Int) (hl : l.length ≤ 9223372036854775807) (hs : s.length ≤ 9223372036854775807) : Sat Try.prog 65 [lInt n, lEds l, lInts s] [lBool (goodEds n l && (ixs s n && indep l s))] [g1, g1, g1] := by
  refine sat_of_body mixed Try.func65 rfl (by kernel_rfl) (by kernel_rfl) (rs := [.tmp 6]) rfl rfl rfl ?_
  simp -implicitDefEqProofs (maxSteps := 2000000) only [go_sem]
  rcases g : goodEds n l
  · refine call_of (implAreValidEdges_sat n l hl) (by simp -implicitDefEqProofs (maxSteps := 2000000) only [go_sem, g]) (by kernel_rfl) (by simp -implicitDefEqProofs (maxSteps := 2000000) only [go_sem, g]) ?_
    simp -implicitDefEqProofs (maxSteps := 2000000) only [go_sem, g]
    first | done | rfl | exact ⟨rfl, rfl⟩ | exact ⟨rfl, rfl, rfl⟩ | (refine tr_and ?_ ?_ <;> first | rfl | exact ⟨rfl, rfl⟩ | kernel_rfl)
  have hn : 0 ≤ n ∧ n ≤ 14 := by
    unfold goodEds at g
    rw [Bool.and_eq_true] at g
    exact inB_of g.1
  rcases d1 : ixs s n
  · refine call_of (implAreValidEdges_sat n l hl) (by simp -implicitDefEqProofs (maxSteps := 2000000) only [go_sem, g]) (by kernel_rfl) (by simp -implicitDefEqProofs (maxSteps := 2000000) only [go_sem, g]) ?_
    simp -implicitDefEqProofs (maxSteps := 2000000) only [go_sem, g]
    refine call_of (areIxs_sat s n (by omega) (by omega)) (by simp -implicitDefEqProofs (maxSteps := 2000000) only [go_sem, d1]) (by kernel_rfl) (by simp -implicitDefEqProofs (maxSteps := 2000000) only [go_sem, d1]) ?_
    simp -implicitDefEqProofs (maxSteps := 2000000) only [go_sem, d1]
    first | done | rfl | exact ⟨rfl, rfl⟩ | exact ⟨rfl, rfl, rfl⟩ | (refine tr_and ?_ ?_ <;> first | rfl | exact ⟨rfl, rfl⟩ | kernel_rfl)
  · refine call_of (implAreValidEdges_sat n l hl) (by simp -implicitDefEqProofs (maxSteps := 2000000) only [go_sem, g]) (by kernel_rfl) (by simp -implicitDefEqProofs (maxSteps := 2000000) only [go_sem, g]) ?_
    simp -implicitDefEqProofs (maxSteps := 2000000) only [go_sem, g]
    refine call_of (areIxs_sat s n (by omega) (by omega)) (by simp -implicitDefEqProofs (maxSteps := 2000000) only [go_sem, d1]) (by kernel_rfl) (by simp -implicitDefEqProofs (maxSteps := 2000000) only [go_sem, d1]) ?_
    simp -implicitDefEqProofs (maxSteps := 2000000) only [go_sem, d1]
    refine call_of (implIsIndependent_sat l s hl hs) (by simp -implicitDefEqProofs (maxSteps := 2000000) only [go_sem]) (by kernel_rfl) (by simp -implicitDefEqProofs (maxSteps := 2000000) only [go_sem]) ?_
    simp -implicitDefEqProofs (maxSteps := 2000000) only [go_sem]
    first | done | rfl | exact ⟨rfl, rfl⟩ | exact ⟨rfl, rfl, rfl⟩ | (refine tr_and ?_ ?_ <;> first | rfl | exact ⟨rfl, rfl⟩ | kernel_rfl)
theorem implIsMaximalIndependent_sat (n : Int) (l : List Edge) (s : List Int) (hl : l.length ≤ 9223372036854775807) (hs : s.length ≤ 1048576) : Sat Try.prog 19 [lInt n, lEds l, lInts s] [lBool (isMax n l s)] [g1, g1, g1] := by
  refine sat_of_body mixed Try.func19 rfl (by kernel_rfl) (by kernel_rfl) (rs := [.tmp 6]) rfl rfl rfl ?_
  unfold isMax
  rw [← Bool.and_assoc (ixs s n), ← Bool.and_assoc (goodEds n l)]
  simp -implicitDefEqProofs (maxSteps := 2000000) only [go_sem]
  rcases g : (goodEds n l && (ixs s n && indep l s))
  · refine call_of (isIndependentSet_sat n l s hl (by omega)) (by simp -implicitDefEqProofs (maxSteps := 2000000) only [go_sem, g]) (by kernel_rfl) (by simp -implicitDefEqProofs (maxSteps := 2000000) only [go_sem, g]) ?_
    simp -implicitDefEqProofs (maxSteps := 2000000) only [go_sem, g]
    first | done | rfl | exact ⟨rfl, rfl⟩ | exact ⟨rfl, rfl, rfl⟩ | (refine tr_and ?_ ?_ <;> first | rfl | exact ⟨rfl, rfl⟩ | kernel_rfl)
  have hn : 0 ≤ n ∧ n ≤ 14 := by
    rw [Bool.and_eq_true] at g
    have g := g.1
    unfold goodEds at g
    rw [Bool.and_eq_true] at g
    exact inB_of g.1
  obtain ⟨m, rfl⟩ : ∃ m : Nat, n = m := ⟨n.toNat, by omega⟩
  rw [show ((m : Nat) : Int).toNat = m by omega]
  refine call_of (isIndependentSet_sat m l s hl (by omega)) (by simp -implicitDefEqProofs (maxSteps := 2000000) only [go_sem, g]) (by kernel_rfl) (by simp -implicitDefEqProofs (maxSteps := 2000000) only [go_sem, g]) ?_
  simp -implicitDefEqProofs (maxSteps := 2000000) only [go_sem, g]
  refine awp_loop Nat (fun k => mkSt [(0, .sc (.int .i64 m)), (1, .one (.im 2 (eds l))), (2, .one (.im 1 (ints s))), (13, .sc (.int .i64 m)), (14, .sc (.int .i64 k))] [] [] 4000)
    (fun k => k ≤ m ∧ upTo (fun x => !fitsE l s x) k = true) (fun k => m - k) 0 ⟨by omega, rfl⟩ (le_st _ _ [] [] _ rfl (by simp -implicitDefEqProofs (maxSteps := 2000000) only [go_sem] <;> rfl) trivial trivial) ?_
  rintro k ⟨h1, h2⟩
  by_cases c1 : k < m
  · rcases d : decide ((k : Int) ∈ s)
    · rcases d2 : indep l (s ++ [(k : Int)])
      · simp -implicitDefEqProofs (maxSteps := 2000000) only [go_sem, c1]
        refine call_of (slicesContains_sat s k (by omega)) (by simp -implicitDefEqProofs (maxSteps := 2000000) only [go_sem, d]) (by kernel_rfl) (by simp -implicitDefEqProofs (maxSteps := 2000000) only [go_sem, d]) ?_
        simp -implicitDefEqProofs (maxSteps := 2000000) only [go_sem, d]
        refine call_of (slicesClone_sat s hs) (by simp -implicitDefEqProofs (maxSteps := 2000000) only [go_sem]) (callOk_still (by kernel_rfl) (by simp only [List.all_cons, List.all_nil, LV.still, LV.leaves, Leaf.still, ints_still, ris_still, eds_still, rels_still, iss_still, ems_still, Bool.and_self, Bool.and_true])) (by simp -implicitDefEqProofs (maxSteps := 2000000) only [go_sem]) ?_
        simp -implicitDefEqProofs (maxSteps := 2000000) only [go_sem]
        repeat (refine ⟨by omega, ?_⟩)
        refine call_of (implIsIndependent_sat l (s ++ [(k : Int)]) hl (by simp; omega)) (by simp -implicitDefEqProofs (maxSteps := 2000000) only [go_sem, d2]) (by kernel_rfl) (by simp -implicitDefEqProofs (maxSteps := 2000000) only [go_sem, d2]) ?_
        simp -implicitDefEqProofs (maxSteps := 2000000) only [go_sem, d2]
        rw [i64_succ (by omega)]
        exact ⟨k + 1, ⟨c1, upTo_step h2 (by rw [fitsE, d, d2]; rfl)⟩, by omega, (le_st _ _ [] [] _ rfl (by simp -implicitDefEqProofs (maxSteps := 2000000) only [go_sem] <;> rfl) trivial trivial)⟩
      · rw [upTo_false (p := fun x : Nat => !fitsE l s x) c1 (by rw [fitsE, d, d2]; rfl)]
        simp -implicitDefEqProofs (maxSteps := 2000000) only [go_sem, c1]
        refine call_of (slicesContains_sat s k (by omega)) (by simp -implicitDefEqProofs (maxSteps := 2000000) only [go_sem, d]) (by kernel_rfl) (by simp -implicitDefEqProofs (maxSteps := 2000000) only [go_sem, d]) ?_
        simp -implicitDefEqProofs (maxSteps := 2000000) only [go_sem, d]
        refine call_of (slicesClone_sat s hs) (by simp -implicitDefEqProofs (maxSteps := 2000000) only [go_sem]) (callOk_still (by kernel_rfl) (by simp only [List.all_cons, List.all_nil, LV.still, LV.leaves, Leaf.still, ints_still, ris_still, eds_still, rels_still, iss_still, ems_still, Bool.and_self, Bool.and_true])) (by simp -implicitDefEqProofs (maxSteps := 2000000) only [go_sem]) ?_
        simp -implicitDefEqProofs (maxSteps := 2000000) only [go_sem]
        repeat (refine ⟨by omega, ?_⟩)
        refine call_of (implIsIndependent_sat l (s ++ [(k : Int)]) hl (by simp; omega)) (by simp -implicitDefEqProofs (maxSteps := 2000000) only [go_sem, d2]) (by kernel_rfl) (by simp -implicitDefEqProofs (maxSteps := 2000000) only [go_sem, d2]) ?_
        simp -implicitDefEqProofs (maxSteps := 2000000) only [go_sem, d2]
        first | done | rfl | exact ⟨rfl, rfl⟩ | exact ⟨rfl, rfl, rfl⟩ | (refine tr_and ?_ ?_ <;> first | rfl | exact ⟨rfl, rfl⟩ | kernel_rfl)
    · simp -implicitDefEqProofs (maxSteps := 2000000) only [go_sem, c1]
      refine call_of (slicesContains_sat s k (by omega)) (by simp -implicitDefEqProofs (maxSteps := 2000000) only [go_sem, d]) (by kernel_rfl) (by simp -implicitDefEqProofs (maxSteps := 2000000) only [go_sem, d]) ?_
      simp -implicitDefEqProofs (maxSteps := 2000000) only [go_sem, d]
      rw [i64_succ (by omega)]
      exact ⟨k + 1, ⟨c1, upTo_step h2 (by rw [fitsE, d]; rfl)⟩, by omega, (le_st _ _ [] [] _ rfl (by simp -implicitDefEqProofs (maxSteps := 2000000) only [go_sem] <;> rfl) trivial trivial)⟩
  · obtain rfl : k = m := by omega
    rw [h2]
    simp -implicitDefEqProofs (maxSteps := 2000000) only [go_sem, c1]
    first | done | rfl | exact ⟨rfl, rfl⟩ | exact ⟨rfl, rfl, rfl⟩ | (refine tr_and ?_ ?_ <;> first | rfl | exact ⟨rfl, rfl⟩ | kernel_rfl)

theorem ixs_ge {s : List Int} {n : Int} (h : ixs s n = true) : ∀ i : Nat, i < s.length → (i : Int) ≤ s.getD i 0
  | 0, hi => by
    have h1 := upTo_at h hi
    unfold ixAt at h1
    rw [Bool.and_eq_true] at h1
    exact (inB_of h1.1).1
  | i + 1, hi => by
    have ih := ixs_ge h i (by omega)
    have h1 := upTo_at h hi
    unfold ixAt at h1
    rw [Bool.and_eq_true, Nat.add_sub_cancel, decide_eq_false (by omega : ¬ i + 1 = 0), Bool.false_or, Bool.not_eq_true', decide_eq_false_iff_not] at h1
    have := h1.2
    omega
theorem ixs_len {s : List Int} {n : Int} (h : ixs s n = true) (hn : 0 ≤ n) : (s.length : Int) ≤ n := by
  rcases e : s.length with _ | k
  · omega
  · have h1 := ixs_ge h k (by omega)
    have h2 := upTo_at h (show k < s.length by omega)
    unfold ixAt at h2
    rw [Bool.and_eq_true] at h2
    have := (inB_of h2.1).2
    omega
/-! #### a set is extended -/
def extN (l : List Edge) (s : List Int) : Nat → List Int
  | 0 => s
  | k + 1 => if fitsE l (extN l s k) k then extN l s k ++ [(k : Int)] else extN l s k
theorem extN_len (l : List Edge) (s : List Int) : ∀ k, (extN l s k).length ≤ s.length + k
  | 0 => by simp [extN]
  | k + 1 => by
    have := extN_len l s k
    unfold extN
    split
    · simp only [List.length_append, List.length_singleton]; omega
    · omega
def goodSet (n : Int) (l : List Edge) (s : List Int) : Bool := goodEds n l && (ixs s n && indep l s)
def extM (n : Int) (l : List Edge) (s : List Int) : List Int × Bool := if goodSet n l s then (sortI (extN l s n.toNat), true) else ([], false)
theorem extM_len (n : Int) (l : List Edge) (s : List Int) (hs : s.length ≤ 1048576) : (extM n l s).1.length ≤ 1048576 + 14 := by
  unfold extM
  split
  · rename_i g
    unfold goodSet at g
    rw [Bool.and_eq_true] at g
    have g := g.1
    unfold goodEds at g
    rw [Bool.and_eq_true] at g
    have := inB_of g.1
    have := extN_len l s n.toNat
    simp only [sortI_len]
    omega
  · simp
theorem specExtendToMaximal_sat (n : Int) (l : List Edge) (s : List Int) (hl : l.length ≤ 9223372036854775807) (hs : s.length ≤ 1048576) : Sat Try.prog 24 [lInt n, lEds l, lInts s] [oInts (extM n l s).1, lBool (extM n l s).2] [g1, g1, g1] := by
  refine sat_of_body mixed Try.func24 rfl (by kernel_rfl) (by kernel_rfl) (rs := [.tmp 6, .tmp 7]) rfl rfl rfl ?_
  unfold extM
  simp -implicitDefEqProofs (maxSteps := 2000000) only [go_sem]
  rcases g : goodEds n l
  · rw [if_neg (by rw [goodSet, g]; simp)]
    refine call_of (specAreValidEdges_sat n l hl) (by simp -implicitDefEqProofs (maxSteps := 2000000) only [go_sem, g]) (by kernel_rfl) (by simp -implicitDefEqProofs (maxSteps := 2000000) only [go_sem, g]) ?_
    simp -implicitDefEqProofs (maxSteps := 2000000) only [go_sem, g]
    first | done | rfl | exact ⟨rfl, rfl⟩ | exact ⟨rfl, rfl, rfl⟩ | (refine tr_and ?_ ?_ <;> first | rfl | exact ⟨rfl, rfl⟩ | kernel_rfl)
  have hn : 0 ≤ n ∧ n ≤ 14 := by
    unfold goodEds at g
    rw [Bool.and_eq_true] at g
    exact inB_of g.1
  rcases d1 : ixs s n
  · rw [if_neg (by rw [goodSet, d1]; simp)]
    refine call_of (specAreValidEdges_sat n l hl) (by simp -implicitDefEqProofs (maxSteps := 2000000) only [go_sem, g]) (by kernel_rfl) (by simp -implicitDefEqProofs (maxSteps := 2000000) only [go_sem, g]) ?_
    simp -implicitDefEqProofs (maxSteps := 2000000) only [go_sem, g]
    refine call_of (l8Set_sat n s (by omega) (by omega)) (by simp -implicitDefEqProofs (maxSteps := 2000000) only [go_sem, d1]) (by kernel_rfl) (by simp -implicitDefEqProofs (maxSteps := 2000000) only [go_sem, d1]) ?_
    simp -implicitDefEqProofs (maxSteps := 2000000) only [go_sem, d1]
    first | done | rfl | exact ⟨rfl, rfl⟩ | exact ⟨rfl, rfl, rfl⟩ | (refine tr_and ?_ ?_ <;> first | rfl | exact ⟨rfl, rfl⟩ | kernel_rfl)
  rcases d2 : indep l s
  · rw [if_neg (by rw [goodSet, d2]; simp)]
    refine call_of (specAreValidEdges_sat n l hl) (by simp -implicitDefEqProofs (maxSteps := 2000000) only [go_sem, g]) (by kernel_rfl) (by simp -implicitDefEqProofs (maxSteps := 2000000) only [go_sem, g]) ?_
    simp -implicitDefEqProofs (maxSteps := 2000000) only [go_sem, g]
    refine call_of (l8Set_sat n s (by omega) (by omega)) (by simp -implicitDefEqProofs (maxSteps := 2000000) only [go_sem, d1]) (by kernel_rfl) (by simp -implicitDefEqProofs (maxSteps := 2000000) only [go_sem, d1]) ?_
    simp -implicitDefEqProofs (maxSteps := 2000000) only [go_sem, d1]
    refine call_of (specIsIndependent_sat l s hl (by omega)) (by simp -implicitDefEqProofs (maxSteps := 2000000) only [go_sem, d2]) (by kernel_rfl) (by simp -implicitDefEqProofs (maxSteps := 2000000) only [go_sem, d2]) ?_
    simp -implicitDefEqProofs (maxSteps := 2000000) only [go_sem, d2]
    first | done | rfl | exact ⟨rfl, rfl⟩ | exact ⟨rfl, rfl, rfl⟩ | (refine tr_and ?_ ?_ <;> first | rfl | exact ⟨rfl, rfl⟩ | kernel_rfl)
  rw [if_pos (by rw [goodSet, g, d1, d2]; rfl)]
  have hsl := ixs_len d1 hn.1
  obtain ⟨m, rfl⟩ : ∃ m : Nat, n = m := ⟨n.toNat, by omega⟩
  rw [show ((m : Nat) : Int).toNat = m by omega]
  refine call_of (specAreValidEdges_sat m l hl) (by simp -implicitDefEqProofs (maxSteps := 2000000) only [go_sem, g]) (by kernel_rfl) (by simp -implicitDefEqProofs (maxSteps := 2000000) only [go_sem, g]) ?_
  simp -implicitDefEqProofs (maxSteps := 2000000) only [go_sem, g]
  refine call_of (l8Set_sat m s (by omega) (by omega)) (by simp -implicitDefEqProofs (maxSteps := 2000000) only [go_sem, d1]) (by kernel_rfl) (by simp -implicitDefEqProofs (maxSteps := 2000000) only [go_sem, d1]) ?_
  simp -implicitDefEqProofs (maxSteps := 2000000) only [go_sem, d1]
  refine call_of (specIsIndependent_sat l s hl (by omega)) (by simp -implicitDefEqProofs (maxSteps := 2000000) only [go_sem, d2]) (by kernel_rfl) (by simp -implicitDefEqProofs (maxSteps := 2000000) only [go_sem, d2]) ?_
  simp -implicitDefEqProofs (maxSteps := 2000000) only [go_sem, d2]
  repeat (refine ⟨by omega, ?_⟩)
  refine awp_loop Nat (fun k => mkSt [(0, .sc (.int .i64 m)), (1, .one (.im 2 (eds l))), (8, .one (.ref 960 1 0 (extN l s k).length)), (9, .sc (.int .i64 k))] [] [(960, (1, ints (extN l s k)))] 4000)
    (fun k => k ≤ m) (fun k => m - k) 0 (by omega) (le_st' _ _ [⟨960, some _, false, 1, _⟩] [] _ (by simp -implicitDefEqProofs (maxSteps := 2000000) only [go_sem, extN] <;> and_intros <;> rfl) (by simp -implicitDefEqProofs (maxSteps := 2000000) only [go_sem, extN] <;> and_intros <;> rfl) (by simp -implicitDefEqProofs (maxSteps := 2000000) only [go_sem, extN] <;> and_intros <;> rfl) (by rfl)) ?_
  rintro k h1
  have hlen := extN_len l s k
  by_cases c1 : k < m
  · rcases d : fitsE l (extN l s k) k
    · simp -implicitDefEqProofs (maxSteps := 2000000) only [go_sem, c1]
      refine call_of (l8Fits_sat l (extN l s k) k hl (by omega)) (by simp -implicitDefEqProofs (maxSteps := 2000000) only [go_sem, d]) (by kernel_rfl) (by simp -implicitDefEqProofs (maxSteps := 2000000) only [go_sem, d]) ?_
      simp -implicitDefEqProofs (maxSteps := 2000000) only [go_sem, d]
      rw [i64_succ (by omega)]
      refine ⟨k + 1, c1, by omega, ?_⟩
      rw [show extN l s (k + 1) = extN l s k by rw [extN, d]; rfl]
      exact (le_st' _ _ [⟨960, some _, false, 1, _⟩] [] _ (by simp -implicitDefEqProofs (maxSteps := 2000000) only [go_sem] <;> and_intros <;> rfl) (by simp -implicitDefEqProofs (maxSteps := 2000000) only [go_sem] <;> and_intros <;> rfl) (by simp -implicitDefEqProofs (maxSteps := 2000000) only [go_sem] <;> and_intros <;> rfl) (by rfl))
    · simp -implicitDefEqProofs (maxSteps := 2000000) only [go_sem, c1]
      refine call_of (l8Fits_sat l (extN l s k) k hl (by omega)) (by simp -implicitDefEqProofs (maxSteps := 2000000) only [go_sem, d]) (by kernel_rfl) (by simp -implicitDefEqProofs (maxSteps := 2000000) only [go_sem, d]) ?_
      simp -implicitDefEqProofs (maxSteps := 2000000) only [go_sem, d]
      refine ⟨by omega, ?_⟩
      rw [i64_succ (by omega)]
      refine ⟨k + 1, c1, by omega, ?_⟩
      rw [show extN l s (k + 1) = extN l s k ++ [(k : Int)] by rw [extN, d]; rfl]
      exact (le_st' _ _ [⟨960, some _, false, 1, _⟩] [] _ (by simp -implicitDefEqProofs (maxSteps := 2000000) only [go_sem, List.length_append] <;> and_intros <;> rfl) (by simp -implicitDefEqProofs (maxSteps := 2000000) only [go_sem, List.length_append] <;> and_intros <;> rfl) (by simp -implicitDefEqProofs (maxSteps := 2000000) only [go_sem, List.length_append] <;> and_intros <;> rfl) (by rfl))
  · obtain rfl : k = m := by omega
    simp -implicitDefEqProofs (maxSteps := 2000000) only [go_sem, c1]
    refine call_of (l7Sorted_sat (extN l s k) (by omega)) (by simp -implicitDefEqProofs (maxSteps := 2000000) only [go_sem]) (callOk_still (by kernel_rfl) (by simp only [List.all_cons, List.all_nil, LV.still, LV.leaves, Leaf.still, ints_still, ris_still, eds_still, rels_still, iss_still, ems_still, Bool.and_self, Bool.and_true])) (by simp -implicitDefEqProofs (maxSteps := 2000000) only [go_sem]) ?_
    simp -implicitDefEqProofs (maxSteps := 2000000) only [go_sem]
    first | done | rfl | exact ⟨rfl, rfl⟩ | exact ⟨rfl, rfl, rfl⟩ | (refine tr_and ?_ ?_ <;> first | rfl | exact ⟨rfl, rfl⟩ | kernel_rfl)
theorem implExtendToMaximal_sat (n : Int) (l : List Edge) (s : List Int) (hl : l.length ≤ 9223372036854775807) (hs : s.length ≤ 1048576) : Sat Try.prog 23 [lInt n, lEds l, lInts s] [oInts (extM n l s).1, lBool (extM n l s).2] [g1, g1, g1] := by
  refine sat_of_body mixed Try.func23 rfl (by kernel_rfl) (by kernel_rfl) (rs := [.tmp 6, .tmp 7]) rfl rfl rfl ?_
  unfold extM
  simp -implicitDefEqProofs (maxSteps := 2000000) only [go_sem]
  rcases g : goodSet n l s
  · rw [if_neg (by simp)]
    refine call_of (isIndependentSet_sat n l s hl (by omega)) (by simp -implicitDefEqProofs (maxSteps := 2000000) only [go_sem, show (goodEds n l && (ixs s n && indep l s)) = false from g]) (by kernel_rfl) (by simp -implicitDefEqProofs (maxSteps := 2000000) only [go_sem, show (goodEds n l && (ixs s n && indep l s)) = false from g]) ?_
    simp -implicitDefEqProofs (maxSteps := 2000000) only [go_sem, show (goodEds n l && (ixs s n && indep l s)) = false from g]
    first | done | rfl | exact ⟨rfl, rfl⟩ | exact ⟨rfl, rfl, rfl⟩ | (refine tr_and ?_ ?_ <;> first | rfl | exact ⟨rfl, rfl⟩ | kernel_rfl)
  have hn : 0 ≤ n ∧ n ≤ 14 := by
    unfold goodSet at g
    rw [Bool.and_eq_true] at g
    have g := g.1
    unfold goodEds at g
    rw [Bool.and_eq_true] at g
    exact inB_of g.1
  have hsl : (s.length : Int) ≤ n := by
    unfold goodSet at g
    rw [Bool.and_eq_true, Bool.and_eq_true] at g
    exact ixs_len g.2.1 hn.1
  rw [if_pos rfl]
  obtain ⟨m, rfl⟩ : ∃ m : Nat, n = m := ⟨n.toNat, by omega⟩
  rw [show ((m : Nat) : Int).toNat = m by omega]
  refine call_of (isIndependentSet_sat m l s hl (by omega)) (by simp -implicitDefEqProofs (maxSteps := 2000000) only [go_sem, show (goodEds m l && (ixs s m && indep l s)) = true from g]) (by kernel_rfl) (by simp -implicitDefEqProofs (maxSteps := 2000000) only [go_sem, show (goodEds m l && (ixs s m && indep l s)) = true from g]) ?_
  simp -implicitDefEqProofs (maxSteps := 2000000) only [go_sem, show (goodEds m l && (ixs s m && indep l s)) = true from g]
  repeat (refine ⟨by omega, ?_⟩)
  refine awp_loop Nat (fun k => mkSt [(0, .sc (.int .i64 m)), (1, .one (.im 2 (eds l))), (8, .one (.ref 960 1 0 (extN l s k).length)), (19, .sc (.int .i64 m)), (20, .sc (.int .i64 k))] [] [(960, (1, ints (extN l s k)))] 4000)
    (fun k => k ≤ m) (fun k => m - k) 0 (by omega) (le_st' _ _ [⟨960, some _, false, 1, _⟩] [] _ (by simp -implicitDefEqProofs (maxSteps := 2000000) only [go_sem, extN] <;> and_intros <;> rfl) (by simp -implicitDefEqProofs (maxSteps := 2000000) only [go_sem, extN] <;> and_intros <;> rfl) (by simp -implicitDefEqProofs (maxSteps := 2000000) only [go_sem, extN] <;> and_intros <;> rfl) (by rfl)) ?_
  rintro k h1
  have hlen := extN_len l s k
  by_cases c1 : k < m
  · have wk : IntKind.i64.wrap ((k : Int) + 1) = ((k + 1 : Nat) : Int) := i64_succ (by omega)
    have ho : (extN l s k ++ [(k : Int)]).length ≤ 9223372036854775807 := by simp; omega
    rcases d : decide ((k : Int) ∈ extN l s k)
    · rcases d2 : indep l (extN l s k ++ [(k : Int)])
      · have e : extN l s (k + 1) = extN l s k := by rw [extN, fitsE, d, d2]; rfl
        simp -implicitDefEqProofs (maxSteps := 2000000) only [go_sem, c1]
        refine call_of (slicesClone_sat (extN l s k) (by omega)) (by simp -implicitDefEqProofs (maxSteps := 2000000) only [go_sem]) (callOk_still (by kernel_rfl) (by simp only [List.all_cons, List.all_nil, LV.still, LV.leaves, Leaf.still, ints_still, ris_still, eds_still, rels_still, iss_still, ems_still, Bool.and_self, Bool.and_true])) (by simp -implicitDefEqProofs (maxSteps := 2000000) only [go_sem]) ?_
        simp -implicitDefEqProofs (maxSteps := 2000000) only [go_sem]
        repeat (refine ⟨by omega, ?_⟩)
        refine call_of (slicesContains_sat (extN l s k) k (by omega)) (by simp -implicitDefEqProofs (maxSteps := 2000000) only [go_sem, d]) (by kernel_rfl) (by simp -implicitDefEqProofs (maxSteps := 2000000) only [go_sem, d]) ?_
        simp -implicitDefEqProofs (maxSteps := 2000000) only [go_sem, d]
        refine call_of (implIsIndependent_sat l (extN l s k ++ [(k : Int)]) hl ho) (by simp -implicitDefEqProofs (maxSteps := 2000000) only [go_sem, d2]) (by kernel_rfl) (by simp -implicitDefEqProofs (maxSteps := 2000000) only [go_sem, d2]) ?_
        simp -implicitDefEqProofs (maxSteps := 2000000) only [go_sem, d2]
        rw [wk]
        refine ⟨k + 1, c1, by omega, ?_⟩
        rw [e]
        exact (le_st' _ _ [⟨960, some _, false, 1, _⟩] [] _ (by simp -implicitDefEqProofs (maxSteps := 2000000) only [go_sem] <;> and_intros <;> rfl) (by simp -implicitDefEqProofs (maxSteps := 2000000) only [go_sem] <;> and_intros <;> rfl) (by simp -implicitDefEqProofs (maxSteps := 2000000) only [go_sem] <;> and_intros <;> rfl) (by rfl))
      · have e : extN l s (k + 1) = extN l s k ++ [(k : Int)] := by rw [extN, fitsE, d, d2]; rfl
        simp -implicitDefEqProofs (maxSteps := 2000000) only [go_sem, c1]
        refine call_of (slicesClone_sat (extN l s k) (by omega)) (by simp -implicitDefEqProofs (maxSteps := 2000000) only [go_sem]) (callOk_still (by kernel_rfl) (by simp only [List.all_cons, List.all_nil, LV.still, LV.leaves, Leaf.still, ints_still, ris_still, eds_still, rels_still, iss_still, ems_still, Bool.and_self, Bool.and_true])) (by simp -implicitDefEqProofs (maxSteps := 2000000) only [go_sem]) ?_
        simp -implicitDefEqProofs (maxSteps := 2000000) only [go_sem]
        repeat (refine ⟨by omega, ?_⟩)
        refine call_of (slicesContains_sat (extN l s k) k (by omega)) (by simp -implicitDefEqProofs (maxSteps := 2000000) only [go_sem, d]) (by kernel_rfl) (by simp -implicitDefEqProofs (maxSteps := 2000000) only [go_sem, d]) ?_
        simp -implicitDefEqProofs (maxSteps := 2000000) only [go_sem, d]
        refine call_of (implIsIndependent_sat l (extN l s k ++ [(k : Int)]) hl ho) (by simp -implicitDefEqProofs (maxSteps := 2000000) only [go_sem, d2]) (by kernel_rfl) (by simp -implicitDefEqProofs (maxSteps := 2000000) only [go_sem, d2]) ?_
        simp -implicitDefEqProofs (maxSteps := 2000000) only [go_sem, d2]
        rw [wk]
        refine ⟨k + 1, c1, by omega, ?_⟩
        rw [e]
        exact (le_st' _ _ [⟨960, some _, false, 1, _⟩] [] _ (by simp -implicitDefEqProofs (maxSteps := 2000000) only [go_sem, List.length_append] <;> and_intros <;> rfl) (by simp -implicitDefEqProofs (maxSteps := 2000000) only [go_sem, List.length_append] <;> and_intros <;> rfl) (by simp -implicitDefEqProofs (maxSteps := 2000000) only [go_sem, List.length_append] <;> and_intros <;> rfl) (by rfl))
    · have e : extN l s (k + 1) = extN l s k := by rw [extN, fitsE, d]; rfl
      simp -implicitDefEqProofs (maxSteps := 2000000) only [go_sem, c1]
      refine call_of (slicesClone_sat (extN l s k) (by omega)) (by simp -implicitDefEqProofs (maxSteps := 2000000) only [go_sem]) (callOk_still (by kernel_rfl) (by simp only [List.all_cons, List.all_nil, LV.still, LV.leaves, Leaf.still, ints_still, ris_still, eds_still, rels_still, iss_still, ems_still, Bool.and_self, Bool.and_true])) (by simp -implicitDefEqProofs (maxSteps := 2000000) only [go_sem]) ?_
      simp -implicitDefEqProofs (maxSteps := 2000000) only [go_sem]
      repeat (refine ⟨by omega, ?_⟩)
      refine call_of (slicesContains_sat (extN l s k) k (by omega)) (by simp -implicitDefEqProofs (maxSteps := 2000000) only [go_sem, d]) (by kernel_rfl) (by simp -implicitDefEqProofs (maxSteps := 2000000) only [go_sem, d]) ?_
      simp -implicitDefEqProofs (maxSteps := 2000000) only [go_sem, d]
      rw [wk]
      refine ⟨k + 1, c1, by omega, ?_⟩
      rw [e]
      exact (le_st' _ _ [⟨960, some _, false, 1, _⟩] [] _ (by simp -implicitDefEqProofs (maxSteps := 2000000) only [go_sem] <;> and_intros <;> rfl) (by simp -implicitDefEqProofs (maxSteps := 2000000) only [go_sem] <;> and_intros <;> rfl) (by simp -implicitDefEqProofs (maxSteps := 2000000) only [go_sem] <;> and_intros <;> rfl) (by rfl))
  · obtain rfl : k = m := by omega
    simp -implicitDefEqProofs (maxSteps := 2000000) only [go_sem, c1]
    refine call_of (slicesSort_sat (extN l s k) (by omega)) (by simp -implicitDefEqProofs (maxSteps := 2000000) only [go_sem]) (by kernel_rfl) (by simp -implicitDefEqProofs (maxSteps := 2000000) only [go_sem]) ?_
    simp -implicitDefEqProofs (maxSteps := 2000000) only [go_sem]
    exact ⟨⟨(List.length_mergeSort ..).symm, rfl⟩, by kernel_rfl⟩
end Go.Proofs.Ytahjpaicfppkoaa.A


/- ALL MAXIMAL INDEPENDENT SETS: the plain law. Conditions: none. (No program in sight but the names.) -/
namespace Go.Proofs.Ytahjpaicfppkoaa.A
open Go
set_option linter.unusedSimpArgs false
set_option linter.unusedVariables false

theorem upTo_all {p : Nat → Bool} : ∀ {n : Nat}, (∀ k, k < n → p k = true) → upTo p n = true
  | 0, _ => rfl
  | n + 1, h => upTo_step (upTo_all fun k hk => h k (by omega)) (h n (by omega))
/-- Is a number an end of an edge. -/
def metE (l : List Edge) (x : Int) : Bool := l.any fun e => (e.a == x) || (e.b == x)
/-- The search of the program, m numbers left. -/
def walkI (n : Nat) (l : List Edge) : Nat → List Int → List (List Int)
  | 0, s => if isMax n l s then [s] else []
  | m + 1, s => (if indep l (s ++ [((n - (m + 1) : Nat) : Int)]) then walkI n l m (s ++ [((n - (m + 1) : Nat) : Int)]) else []) ++ walkI n l m s
/-- The search of the reference. -/
def walkS (n : Nat) (l : List Edge) : Nat → List Int → List (List Int)
  | 0, s => if isMax n l s then [s] else []
  | m + 1, s => (if fitsE l s ((n - (m + 1) : Nat) : Int) then walkS n l m (s ++ [((n - (m + 1) : Nat) : Int)]) else []) ++ (if metE l ((n - (m + 1) : Nat) : Int) then walkS n l m s else [])
theorem walkI_len (n : Nat) (l : List Edge) : ∀ (m : Nat) (s : List Int), (walkI n l m s).length ≤ 2 ^ m
  | 0, s => by unfold walkI; split <;> simp
  | m + 1, s => by
    have h1 := walkI_len n l m (s ++ [((n - (m + 1) : Nat) : Int)])
    have h2 := walkI_len n l m s
    unfold walkI
    rw [List.length_append, Nat.pow_succ]
    split
    · omega
    · simp; omega
/-- A number that no edge meets joins any independent set. -/
theorem indep_join {l : List Edge} {s : List Int} {x : Int} (h : indep l s = true) (hx : metE l x = false) : indep l (s ++ [x]) = true := by
  unfold indep
  refine upTo_all fun k hk => ?_
  have h1 := upTo_at h hk
  have h2 : ((l.getD k default).a == x) = false ∧ ((l.getD k default).b == x) = false := by
    unfold metE at hx
    rw [List.any_eq_false] at hx
    have := hx _ (mem_getD default hk)
    simpa using this
  unfold edNo at h1 ⊢
  have n1 : (l.getD k default).a ≠ x := by simpa using h2.1
  have n2 : (l.getD k default).b ≠ x := by simpa using h2.2
  rw [Bool.not_eq_true'] at h1 ⊢
  rw [← h1]
  congr 1
  · rw [Bool.eq_iff_iff, decide_eq_true_iff, decide_eq_true_iff, List.mem_append, List.mem_singleton]
    exact ⟨fun h => h.resolve_right n1, .inl⟩
  · rw [Bool.eq_iff_iff, decide_eq_true_iff, decide_eq_true_iff, List.mem_append, List.mem_singleton]
    exact ⟨fun h => h.resolve_right n2, .inl⟩
theorem isMax_not {n : Nat} {l : List Edge} {s : List Int} {x : Nat} (hx : x < n) (hm : metE l x = false) (hs : (x : Int) ∉ s) : isMax n l s = false := by
  rcases h : isMax n l s
  · rfl
  · unfold isMax at h
    simp only [Bool.and_eq_true] at h
    obtain ⟨_, _, h3, h4⟩ := h
    have := upTo_at h4 (show x < ((n : Nat) : Int).toNat by omega)
    rw [fitsE, indep_join h3 hm, decide_eq_false hs] at this
    cases this
/-- Where such a number has been left out nothing is found. -/
theorem walkI_none {n : Nat} {l : List Edge} {x : Nat} (hx : x < n) (hm : metE l x = false) : ∀ (m : Nat) (s : List Int), m + x + 1 ≤ n → (x : Int) ∉ s → walkI n l m s = []
  | 0, s, _, hs => by rw [walkI, isMax_not hx hm hs]; rfl
  | m + 1, s, hle, hs => by
    have h2 := walkI_none hx hm m s (by omega) hs
    have h1 := walkI_none hx hm m (s ++ [((n - (m + 1) : Nat) : Int)]) (by omega) (by
      rw [List.mem_append, List.mem_singleton]
      rintro (h | h)
      · exact hs h
      · omega)
    rw [walkI, h1, h2]
    split <;> rfl
theorem walk_same {n : Nat} {l : List Edge} : ∀ (m : Nat) (s : List Int), m ≤ n → (∀ y ∈ s, y < ((n - m : Nat) : Int)) → walkS n l m s = walkI n l m s
  | 0, s, _, _ => rfl
  | m + 1, s, hle, hs => by
    have hn : ((n - (m + 1) : Nat) : Int) ∉ s := fun h => by have := hs _ h; omega
    have h1 := walk_same (n := n) (l := l) m (s ++ [((n - (m + 1) : Nat) : Int)]) (by omega) (by
      intro y hy
      rw [List.mem_append, List.mem_singleton] at hy
      rcases hy with hy | rfl
      · have := hs y hy; omega
      · omega)
    have h2 := walk_same (n := n) (l := l) m s (by omega) (fun y hy => by have := hs y hy; omega)
    rw [walkS, walkI, fitsE, decide_eq_false hn, Bool.not_false, Bool.true_and, h1, h2]
    congr 1
    rcases hm : metE l ((n - (m + 1) : Nat) : Int)
    · rw [walkI_none (x := n - (m + 1)) (by omega) hm m s (by omega) hn]; rfl
    · rfl
def mis (n : Int) (l : List Edge) : List (List Int) := if goodEds n l then walkI n.toNat l n.toNat [] else []
theorem goodEds_n {n : Int} {l : List Edge} (g : goodEds n l = true) : 0 ≤ n ∧ n ≤ 14 := by
  unfold goodEds at g
  rw [Bool.and_eq_true] at g
  exact inB_of g.1
theorem mis_len (n : Int) (l : List Edge) : (mis n l).length ≤ 16384 := by
  unfold mis
  split
  · rename_i g
    have := goodEds_n g
    have h := walkI_len n.toNat l n.toNat []
    have : 2 ^ n.toNat ≤ 2 ^ 14 := Nat.pow_le_pow_right (by omega) (by omega)
    omega
  · simp
/-- What is found is no longer than the numbers that there are. -/
theorem walkI_mem (n : Nat) (l : List Edge) : ∀ (m : Nat) (s : List Int), ∀ t ∈ walkI n l m s, t.length ≤ s.length + m
  | 0, s, t, ht => by
    unfold walkI at ht
    split at ht
    · simp at ht; subst ht; omega
    · cases ht
  | m + 1, s, t, ht => by
    unfold walkI at ht
    rw [List.mem_append] at ht
    rcases ht with ht | ht
    · split at ht
      · have := walkI_mem n l m _ t ht
        simp only [List.length_append, List.length_singleton] at this
        omega
      · cases ht
    · have := walkI_mem n l m s t ht
      omega
theorem mis_small {n : Int} {l : List Edge} : ∀ t ∈ mis n l, t.length ≤ 14 := by
  intro t ht
  unfold mis at ht
  split at ht
  · rename_i g
    have := goodEds_n g
    have := walkI_mem _ _ _ _ t ht
    simp only [List.length_nil] at this
    omega
  · cases ht
end Go.Proofs.Ytahjpaicfppkoaa.A


/- ALL MAXIMAL INDEPENDENT SETS: the two programs. Conditions: none. -/
namespace Go.Proofs.Ytahjpaicfppkoaa.A
open Go
set_option linter.unusedSimpArgs false
set_option linter.unusedVariables false
set_option maxRecDepth 100000

theorem any_stepM {α : Type} {d : α} {l : List α} {k : Nat} {p : α → Bool} (h : k < l.length) : (l.take (k + 1)).any p = ((l.take k).any p || p (l.getD k d)) := by
  rw [take_snoc d h, List.any_append]; simp
theorem walkS_len (n : Nat) (l : List Edge) : ∀ (m : Nat) (s : List Int), (walkS n l m s).length ≤ 2 ^ m
  | 0, s => by unfold walkS; split <;> simp
  | m + 1, s => by
    have h1 := walkS_len n l m (s ++ [((n - (m + 1) : Nat) : Int)])
    have h2 := walkS_len n l m s
    unfold walkS
    rw [List.length_append, Nat.pow_succ]
    split <;> split <;> simp <;> omega
theorem pow14 {m : Nat} (h : m ≤ 14) : 2 ^ m ≤ 16384 := Nat.pow_le_pow_right (by omega) h
theorem ints_nilf : (ints [] = frz []) = True := eq_true rfl
attribute [go_sem] ints_nilf
theorem rst_two (a b : List (List Int)) : rst (iss 999 a ++ iss 1 b) = iss 1 (a ++ b) := by
  rw [show ∀ x y : Rows, rst (x ++ y) = rst x ++ rst y from fun x y => List.map_append .., iss_rst 998, iss_rst 0, iss_append]
set_option maxHeartbeats 4000000 in
theorem l8Walk_step (n : Nat) (l : List Edge) (s : List Int) (x x' : Int) (o1 o2 : List (List Int)) (hn : n ≤ 14) (hl : l.length ≤ 9223372036854775807) (hs : s.length ≤ 14) (wx : IntKind.i64.wrap (x + 1) = x') (ne : (x == (n : Int)) = false) (b1 : o1.length ≤ 16384) (b2 : o2.length ≤ 16384)
    (ih1 : Sat Try.prog 76 [lInt n, lEds l, lInts (s ++ [x]), lInt x'] [oISS o1] [g1, g1, g1, g1]) (ih2 : Sat Try.prog 76 [lInt n, lEds l, lInts s, lInt x'] [oISS o2] [g1, g1, g1, g1]) :
    Sat Try.prog 76 [lInt n, lEds l, lInts s, lInt x] [oISS ((if fitsE l s x then o1 else []) ++ (if metE l x then o2 else []))] [g1, g1, g1, g1] := by
  refine sat_of_body mixed Try.func76 rfl (by kernel_rfl) (by kernel_rfl) (rs := [.tmp 8]) rfl rfl rfl ?_
  rcases d : fitsE l s x
  · rw [if_neg (by simp)]
    simp -implicitDefEqProofs (maxSteps := 2000000) only [go_sem, ne]
    refine call_of (l8Fits_sat l s x hl (by omega)) (by simp -implicitDefEqProofs (maxSteps := 2000000) only [go_sem, d]) (by kernel_rfl) (by simp -implicitDefEqProofs (maxSteps := 2000000) only [go_sem, d]) ?_
    simp -implicitDefEqProofs (maxSteps := 2000000) only [go_sem, d]
    refine awp_loop Nat (fun k => mkSt [(0, .sc (.int .i64 n)), (1, .one (.im 2 (eds l))), (2, .one (.im 1 (ints s))), (3, .sc (.int .i64 x)), (9, .one (.ref 960 1 0 0)), (10, .sc (.bool ((l.take k).any fun e => (e.a == x) || (e.b == x)))), (11, .sc (.int .i64 k))] [] [(960, (1, iss 999 []))] 4000)
      (fun k => k ≤ l.length) (fun k => l.length - k) 0 (by omega) (le_st' _ _ [⟨960, some _, false, 1, _⟩] [] _ (by simp -implicitDefEqProofs (maxSteps := 2000000) only [go_sem, List.take_zero, List.any_nil] <;> and_intros <;> rfl) (by simp -implicitDefEqProofs (maxSteps := 2000000) only [go_sem, List.take_zero, List.any_nil] <;> and_intros <;> rfl) (by simp -implicitDefEqProofs (maxSteps := 2000000) only [go_sem, List.take_zero, List.any_nil] <;> and_intros <;> rfl) (by rfl)) ?_
    rintro k h3
    by_cases c1 : k < l.length
    · have st := any_stepM (d := default) (p := fun e : Edge => (e.a == x) || (e.b == x)) c1
      have wk : IntKind.i64.wrap ((k : Int) + 1) = ((k + 1 : Nat) : Int) := i64_succ (by omega)
      rcases d1 : ((l.take k).any fun e => (e.a == x) || (e.b == x))
      · rcases d2 : (l.getD k default).a == x
        · simp -implicitDefEqProofs (maxSteps := 2000000) only [go_sem, c1, d2]
          rw [wk]
          refine ⟨k + 1, c1, by omega, ?_⟩
          rw [st, d1, d2, Bool.false_or, Bool.false_or]
          exact (le_st' _ _ [⟨960, some _, false, 1, _⟩] [] _ (by simp -implicitDefEqProofs (maxSteps := 2000000) only [go_sem] <;> and_intros <;> rfl) (by simp -implicitDefEqProofs (maxSteps := 2000000) only [go_sem] <;> and_intros <;> rfl) (by simp -implicitDefEqProofs (maxSteps := 2000000) only [go_sem] <;> and_intros <;> rfl) (by rfl))
        · simp -implicitDefEqProofs (maxSteps := 2000000) only [go_sem, c1, d2]
          rw [wk]
          refine ⟨k + 1, c1, by omega, ?_⟩
          rw [st, d1, d2, Bool.false_or, Bool.true_or]
          exact (le_st' _ _ [⟨960, some _, false, 1, _⟩] [] _ (by simp -implicitDefEqProofs (maxSteps := 2000000) only [go_sem] <;> and_intros <;> rfl) (by simp -implicitDefEqProofs (maxSteps := 2000000) only [go_sem] <;> and_intros <;> rfl) (by simp -implicitDefEqProofs (maxSteps := 2000000) only [go_sem] <;> and_intros <;> rfl) (by rfl))
      · simp -implicitDefEqProofs (maxSteps := 2000000) only [go_sem, c1]
        rw [wk]
        refine ⟨k + 1, c1, by omega, ?_⟩
        rw [st, d1, Bool.true_or]
        exact (le_st' _ _ [⟨960, some _, false, 1, _⟩] [] _ (by simp -implicitDefEqProofs (maxSteps := 2000000) only [go_sem] <;> and_intros <;> rfl) (by simp -implicitDefEqProofs (maxSteps := 2000000) only [go_sem] <;> and_intros <;> rfl) (by simp -implicitDefEqProofs (maxSteps := 2000000) only [go_sem] <;> and_intros <;> rfl) (by rfl))
    · obtain rfl : k = l.length := by omega
      rw [List.take_length, show (l.any fun e => (e.a == x) || (e.b == x)) = metE l x from rfl]
      rcases d3 : metE l x
      · simp -implicitDefEqProofs (maxSteps := 2000000) only [go_sem, c1]
        first | done | rfl | exact ⟨rfl, rfl⟩ | exact ⟨rfl, rfl, rfl⟩ | (refine tr_and ?_ ?_ <;> first | rfl | exact ⟨rfl, rfl⟩ | kernel_rfl)
      · simp -implicitDefEqProofs (maxSteps := 2000000) only [go_sem, c1]
        rw [wx]
        refine call_of (ih2) (by simp -implicitDefEqProofs (maxSteps := 2000000) only [go_sem]) (by kernel_rfl) (by simp -implicitDefEqProofs (maxSteps := 2000000) only [go_sem]) ?_
        simp -implicitDefEqProofs (maxSteps := 2000000) only [go_sem]
        split
        · exact ⟨by omega, (rst_two [] o2).symm, by kernel_rfl⟩
        · exact ⟨by omega, (rst_two [] o2).symm, by kernel_rfl⟩
  · rw [if_pos rfl]
    simp -implicitDefEqProofs (maxSteps := 2000000) only [go_sem, ne]
    refine call_of (l8Fits_sat l s x hl (by omega)) (by simp -implicitDefEqProofs (maxSteps := 2000000) only [go_sem, d]) (by kernel_rfl) (by simp -implicitDefEqProofs (maxSteps := 2000000) only [go_sem, d]) ?_
    simp -implicitDefEqProofs (maxSteps := 2000000) only [go_sem, d]
    repeat (refine ⟨by omega, ?_⟩)
    rw [wx]
    refine call_of (ih1) (by simp -implicitDefEqProofs (maxSteps := 2000000) only [go_sem]) (callOk_still (by kernel_rfl) (by simp only [List.all_cons, List.all_nil, LV.still, LV.leaves, Leaf.still, ints_still, ris_still, eds_still, rels_still, iss_still, ems_still, Bool.and_self, Bool.and_true])) (by simp -implicitDefEqProofs (maxSteps := 2000000) only [go_sem]) ?_
    simp -implicitDefEqProofs (maxSteps := 2000000) only [go_sem]
    refine awp_loop Nat (fun k => mkSt [(0, .sc (.int .i64 n)), (1, .one (.im 2 (eds l))), (2, .one (.im 1 (ints s))), (3, .sc (.int .i64 x)), (9, .one (.ref 960 1 0 o1.length)), (10, .sc (.bool ((l.take k).any fun e => (e.a == x) || (e.b == x)))), (11, .sc (.int .i64 k))] [] [(960, (1, iss 999 o1))] 4000)
      (fun k => k ≤ l.length) (fun k => l.length - k) 0 (by omega) (le_st' _ _ [⟨960, some _, false, 1, _⟩] [] _ (by simp -implicitDefEqProofs (maxSteps := 2000000) only [go_sem, List.take_zero, List.any_nil] <;> and_intros <;> rfl) (by simp -implicitDefEqProofs (maxSteps := 2000000) only [go_sem, List.take_zero, List.any_nil] <;> and_intros <;> rfl) (by simp -implicitDefEqProofs (maxSteps := 2000000) only [go_sem, List.take_zero, List.any_nil] <;> and_intros <;> rfl) (by rfl)) ?_
    rintro k h3
    by_cases c1 : k < l.length
    · have st := any_stepM (d := default) (p := fun e : Edge => (e.a == x) || (e.b == x)) c1
      have wk : IntKind.i64.wrap ((k : Int) + 1) = ((k + 1 : Nat) : Int) := i64_succ (by omega)
      rcases d1 : ((l.take k).any fun e => (e.a == x) || (e.b == x))
      · rcases d2 : (l.getD k default).a == x
        · simp -implicitDefEqProofs (maxSteps := 2000000) only [go_sem, c1, d2]
          rw [wk]
          refine ⟨k + 1, c1, by omega, ?_⟩
          rw [st, d1, d2, Bool.false_or, Bool.false_or]
          exact (le_st' _ _ [⟨960, some _, false, 1, _⟩] [] _ (by simp -implicitDefEqProofs (maxSteps := 2000000) only [go_sem] <;> and_intros <;> rfl) (by simp -implicitDefEqProofs (maxSteps := 2000000) only [go_sem] <;> and_intros <;> rfl) (by simp -implicitDefEqProofs (maxSteps := 2000000) only [go_sem] <;> and_intros <;> rfl) (by rfl))
        · simp -implicitDefEqProofs (maxSteps := 2000000) only [go_sem, c1, d2]
          rw [wk]
          refine ⟨k + 1, c1, by omega, ?_⟩
          rw [st, d1, d2, Bool.false_or, Bool.true_or]
          exact (le_st' _ _ [⟨960, some _, false, 1, _⟩] [] _ (by simp -implicitDefEqProofs (maxSteps := 2000000) only [go_sem] <;> and_intros <;> rfl) (by simp -implicitDefEqProofs (maxSteps := 2000000) only [go_sem] <;> and_intros <;> rfl) (by simp -implicitDefEqProofs (maxSteps := 2000000) only [go_sem] <;> and_intros <;> rfl) (by rfl))
      · simp -implicitDefEqProofs (maxSteps := 2000000) only [go_sem, c1]
        rw [wk]
        refine ⟨k + 1, c1, by omega, ?_⟩
        rw [st, d1, Bool.true_or]
        exact (le_st' _ _ [⟨960, some _, false, 1, _⟩] [] _ (by simp -implicitDefEqProofs (maxSteps := 2000000) only [go_sem] <;> and_intros <;> rfl) (by simp -implicitDefEqProofs (maxSteps := 2000000) only [go_sem] <;> and_intros <;> rfl) (by simp -implicitDefEqProofs (maxSteps := 2000000) only [go_sem] <;> and_intros <;> rfl) (by rfl))
    · obtain rfl : k = l.length := by omega
      rw [List.take_length, show (l.any fun e => (e.a == x) || (e.b == x)) = metE l x from rfl]
      rcases d3 : metE l x
      · simp -implicitDefEqProofs (maxSteps := 2000000) only [go_sem, c1]
        first | done | rfl | exact ⟨rfl, rfl⟩ | exact ⟨rfl, rfl, rfl⟩ | (refine tr_and ?_ ?_ <;> first | rfl | exact ⟨rfl, rfl⟩ | kernel_rfl)
      · simp -implicitDefEqProofs (maxSteps := 2000000) only [go_sem, c1]
        rw [wx]
        refine call_of (ih2) (by simp -implicitDefEqProofs (maxSteps := 2000000) only [go_sem]) (by kernel_rfl) (by simp -implicitDefEqProofs (maxSteps := 2000000) only [go_sem]) ?_
        simp -implicitDefEqProofs (maxSteps := 2000000) only [go_sem]
        split
        · exact ⟨by omega, (rst_two o1 o2).symm, by kernel_rfl⟩
        · exact ⟨by omega, (rst_two o1 o2).symm, by kernel_rfl⟩
theorem l8Walk_sat (n : Nat) (l : List Edge) (hn : n ≤ 14) (hl : l.length ≤ 9223372036854775807) : ∀ (m : Nat) (s : List Int), m ≤ n → s.length + m ≤ 14 → Sat Try.prog 76 [lInt n, lEds l, lInts s, lInt ((n - m : Nat) : Int)] [oISS (walkS n l m s)] [g1, g1, g1, g1]
  | 0, s, h1, h2 => by
    refine sat_of_body mixed Try.func76 rfl (by kernel_rfl) (by kernel_rfl) (rs := [.tmp 8]) rfl rfl rfl ?_
    unfold walkS
    rw [Nat.sub_zero]
    simp -implicitDefEqProofs (maxSteps := 2000000) only [go_sem]
    rcases d : isMax n l s
    · refine call_of (specIsMaximalIndependent_sat n l s hl (by omega)) (by simp -implicitDefEqProofs (maxSteps := 2000000) only [go_sem, d]) (by kernel_rfl) (by simp -implicitDefEqProofs (maxSteps := 2000000) only [go_sem, d]) ?_
      simp -implicitDefEqProofs (maxSteps := 2000000) only [go_sem, d]
      first | done | rfl | exact ⟨rfl, rfl⟩ | exact ⟨rfl, rfl, rfl⟩ | (refine tr_and ?_ ?_ <;> first | rfl | exact ⟨rfl, rfl⟩ | kernel_rfl)
    · refine call_of (specIsMaximalIndependent_sat n l s hl (by omega)) (by simp -implicitDefEqProofs (maxSteps := 2000000) only [go_sem, d]) (by kernel_rfl) (by simp -implicitDefEqProofs (maxSteps := 2000000) only [go_sem, d]) ?_
      simp -implicitDefEqProofs (maxSteps := 2000000) only [go_sem, d]
      repeat (refine ⟨by omega, ?_⟩)
      first | done | rfl | exact ⟨rfl, rfl⟩ | exact ⟨rfl, rfl, rfl⟩ | (refine tr_and ?_ ?_ <;> first | rfl | exact ⟨rfl, rfl⟩ | kernel_rfl)
  | m + 1, s, h1, h2 =>
    l8Walk_step n l s _ _ _ _ hn hl (by omega) (by rw [IntWalk.i64_in _ (by omega)]; omega) (by rw [beq_eq_false_iff_ne]; omega)
      (Nat.le_trans (walkS_len n l m (s ++ [((n - (m + 1) : Nat) : Int)])) (pow14 (by omega))) (Nat.le_trans (walkS_len n l m s) (pow14 (by omega)))
      (l8Walk_sat n l hn hl m (s ++ [((n - (m + 1) : Nat) : Int)]) (by omega) (by simp; omega)) (l8Walk_sat n l hn hl m s (by omega) (by omega))
theorem specMaximalIndependentSets_sat (n : Int) (l : List Edge) (hl : l.length ≤ 9223372036854775807) : Sat Try.prog 29 [lInt n, lEds l] [oISS (mis n l)] [g1, g1] := by
  refine sat_of_body mixed Try.func29 rfl (by kernel_rfl) (by kernel_rfl) (rs := [.tmp 4]) rfl rfl rfl ?_
  unfold mis
  simp -implicitDefEqProofs (maxSteps := 2000000) only [go_sem]
  rcases g : goodEds n l
  · rw [if_neg (by simp)]
    refine call_of (specAreValidEdges_sat n l hl) (by simp -implicitDefEqProofs (maxSteps := 2000000) only [go_sem, g]) (by kernel_rfl) (by simp -implicitDefEqProofs (maxSteps := 2000000) only [go_sem, g]) ?_
    simp -implicitDefEqProofs (maxSteps := 2000000) only [go_sem, g]
    first | done | rfl | exact ⟨rfl, rfl⟩ | exact ⟨rfl, rfl, rfl⟩ | (refine tr_and ?_ ?_ <;> first | rfl | exact ⟨rfl, rfl⟩ | kernel_rfl)
  have hn := goodEds_n g
  rw [if_pos rfl]
  obtain ⟨m, rfl⟩ : ∃ m : Nat, n = m := ⟨n.toNat, by omega⟩
  rw [show ((m : Nat) : Int).toNat = m by omega, ← walk_same m [] (Nat.le_refl _) (fun y hy => by cases hy)]
  have h := l8Walk_sat m l (by omega) hl m [] (Nat.le_refl _) (by simp; omega)
  rw [Nat.sub_self] at h
  refine call_of (specAreValidEdges_sat m l hl) (by simp -implicitDefEqProofs (maxSteps := 2000000) only [go_sem, g]) (by kernel_rfl) (by simp -implicitDefEqProofs (maxSteps := 2000000) only [go_sem, g]) ?_
  simp -implicitDefEqProofs (maxSteps := 2000000) only [go_sem, g]
  refine call_of (h) (by simp -implicitDefEqProofs (maxSteps := 2000000) only [go_sem]) (callOk_still (by kernel_rfl) (by simp only [List.all_cons, List.all_nil, LV.still, LV.leaves, Leaf.still, ints_still, ris_still, eds_still, rels_still, iss_still, ems_still, Bool.and_self, Bool.and_true])) (by simp -implicitDefEqProofs (maxSteps := 2000000) only [go_sem]) ?_
  simp -implicitDefEqProofs (maxSteps := 2000000) only [go_sem]
  first | done | rfl | exact ⟨rfl, rfl⟩ | exact ⟨rfl, rfl, rfl⟩ | (refine tr_and ?_ ?_ <;> first | rfl | exact ⟨rfl, rfl⟩ | kernel_rfl)
end Go.Proofs.Ytahjpaicfppkoaa.A


/- ALL MAXIMAL INDEPENDENT SETS: the program's search. Conditions: none. -/
namespace Go.Proofs.Ytahjpaicfppkoaa.A
open Go
set_option linter.unusedSimpArgs false
set_option linter.unusedVariables false
set_option maxRecDepth 100000

abbrev misT (n : Int) (l : List Edge) (o : List (List Int)) : List CV := [.flds [.sc (.int .i64 n)], .flds [.im 2 (eds l)], .own 1 (iss 999 o), .self 75]
theorem misT_stm (n : Int) (l : List Edge) (o : List (List Int)) : ∀ w rows, CV.own w rows ∈ misT n l o → stm 999 rows = rows := by
  intro w rows h
  simp at h
  obtain ⟨rfl, rfl⟩ := h
  exact iss_stm 999 998 o
theorem rep1M {α : Type} (a : α) : List.replicate 1 a = [a] := rfl
theorem search_zero (n : Nat) (l : List Edge) (s : List Int) (o : List (List Int)) (hl : l.length ≤ 9223372036854775807) (hs : s.length ≤ 14) (ho : o.length ≤ 32768) :
    RSat Try.prog 75 [lInt n, lInts s] (misT n l o) (misT n l (o ++ if isMax n l s then [s] else [])) := by
  refine rsat_of_body Try.func75 rfl (by kernel_rfl) rfl rfl (misT_stm _ _ _) ?_
  refine bwp_awp mixed (by kernel_rfl) ?_
  simp -implicitDefEqProofs (maxSteps := 2000000) only [go_sem]
  rcases d : isMax n l s
  · refine call_of (implIsMaximalIndependent_sat n l s hl (by omega)) (by simp -implicitDefEqProofs (maxSteps := 2000000) only [go_sem, d]) (by kernel_rfl) (by simp -implicitDefEqProofs (maxSteps := 2000000) only [go_sem, d]) ?_
    simp -implicitDefEqProofs (maxSteps := 2000000) only [go_sem, d]
    exact (le_st' _ _ [⟨960, some _, false, 1, _⟩] [] _ (by simp -implicitDefEqProofs (maxSteps := 2000000) only [go_sem] <;> and_intros <;> rfl) (by simp -implicitDefEqProofs (maxSteps := 2000000) only [go_sem] <;> and_intros <;> rfl) (by simp -implicitDefEqProofs (maxSteps := 2000000) only [go_sem] <;> and_intros <;> rfl) (by rfl))
  · refine call_of (implIsMaximalIndependent_sat n l s hl (by omega)) (by simp -implicitDefEqProofs (maxSteps := 2000000) only [go_sem, d]) (by kernel_rfl) (by simp -implicitDefEqProofs (maxSteps := 2000000) only [go_sem, d]) ?_
    simp -implicitDefEqProofs (maxSteps := 2000000) only [go_sem, d]
    repeat (refine ⟨by omega, ?_⟩)
    first | (with_reducible refine tr_and ?_ ?_; focus kernel_rfl) | (with_reducible refine tr_only ?_; kernel_rfl) | skip
    exact (le_st' _ _ [⟨960, some _, false, 1, _⟩] [] _ (by simp -implicitDefEqProofs (maxSteps := 2000000) only [go_sem, rep1M, List.set_cons_zero, iss_one] <;> and_intros <;> rfl) (by simp -implicitDefEqProofs (maxSteps := 2000000) only [go_sem, rep1M, List.set_cons_zero, iss_one] <;> and_intros <;> rfl) (by simp -implicitDefEqProofs (maxSteps := 2000000) only [go_sem, rep1M, List.set_cons_zero, iss_one] <;> and_intros <;> rfl) (by rfl))
theorem search_step (n : Nat) (l : List Edge) (s : List Int) (x x' : Int) (o o1 w1 w2 : List (List Int)) (hl : l.length ≤ 9223372036854775807) (hs : s.length ≤ 14) (ho : o.length ≤ 32768) (wx : IntKind.i64.wrap (x + 1) = x') (ne : (x == (n : Int)) = false)
    (e1 : o1 = o ++ if indep l (s ++ [x]) then w1 else [])
    (ih1 : indep l (s ++ [x]) = true → RSat Try.prog 75 [lInt x', lInts (s ++ [x])] (misT n l o) (misT n l (o ++ w1)))
    (ih2 : RSat Try.prog 75 [lInt x', lInts s] (misT n l o1) (misT n l (o1 ++ w2))) :
    RSat Try.prog 75 [lInt x, lInts s] (misT n l o) (misT n l (o1 ++ w2)) := by
  refine rsat_of_body Try.func75 rfl (by kernel_rfl) rfl rfl (misT_stm _ _ _) ?_
  refine bwp_seq mixed (by kernel_rfl) ?_
  simp -implicitDefEqProofs (maxSteps := 2000000) only [go_sem, ne]
  refine bwp_seqB (bwp_seq mixed (by kernel_rfl) ?_)
  simp -implicitDefEqProofs (maxSteps := 2000000) only [go_sem]
  refine call_of (slicesClone_sat s (by omega)) (by simp -implicitDefEqProofs (maxSteps := 2000000) only [go_sem]) (callOk_still (by kernel_rfl) (by simp only [List.all_cons, List.all_nil, LV.still, LV.leaves, Leaf.still, ints_still, ris_still, eds_still, rels_still, iss_still, ems_still, Bool.and_self, Bool.and_true])) (by simp -implicitDefEqProofs (maxSteps := 2000000) only [go_sem]) ?_
  simp -implicitDefEqProofs (maxSteps := 2000000) only [go_sem]
  repeat (refine ⟨by omega, ?_⟩)
  refine bwp_seq mixed (by kernel_rfl) ?_
  simp -implicitDefEqProofs (maxSteps := 2000000) only [go_sem]
  rcases d : indep l (s ++ [x])
  · have e1 : o1 = o := by rw [e1, d]; simp
    subst e1
    refine call_of (implIsIndependent_sat l (s ++ [x]) hl (by simp; omega)) (by simp -implicitDefEqProofs (maxSteps := 2000000) only [go_sem, d]) (by kernel_rfl) (by simp -implicitDefEqProofs (maxSteps := 2000000) only [go_sem, d]) ?_
    simp -implicitDefEqProofs (maxSteps := 2000000) only [go_sem, d]
    refine bwp_cond (t := false) (by simp -implicitDefEqProofs (maxSteps := 2000000) only [go_sem]) (fun h => by cases h) fun _ => bwp_skip ?_
    simp -implicitDefEqProofs (maxSteps := 2000000) only [go_sem]
    refine bwp_call ih2 [900, 901, 902, 903] 960 960 2000 [] rfl rfl rfl (by kernel_rfl) (by kernel_rfl) (by simp -implicitDefEqProofs (maxSteps := 2000000) only [go_sem, wx]; rfl) ?_
    simp -implicitDefEqProofs (maxSteps := 2000000) only [go_sem]
    exact (le_st' _ _ [⟨960, some _, false, 1, _⟩] [] _ (by simp -implicitDefEqProofs (maxSteps := 2000000) only [go_sem] <;> and_intros <;> rfl) (by simp -implicitDefEqProofs (maxSteps := 2000000) only [go_sem] <;> and_intros <;> rfl) (by simp -implicitDefEqProofs (maxSteps := 2000000) only [go_sem] <;> and_intros <;> rfl) (by rfl))
  · have e1 : o1 = o ++ w1 := by rw [e1, d]; simp
    subst e1
    refine call_of (implIsIndependent_sat l (s ++ [x]) hl (by simp; omega)) (by simp -implicitDefEqProofs (maxSteps := 2000000) only [go_sem, d]) (by kernel_rfl) (by simp -implicitDefEqProofs (maxSteps := 2000000) only [go_sem, d]) ?_
    simp -implicitDefEqProofs (maxSteps := 2000000) only [go_sem, d]
    refine bwp_cond (t := true) (by simp -implicitDefEqProofs (maxSteps := 2000000) only [go_sem]) (fun _ => ?_) fun h => by cases h
    refine bwp_call (ih1 d) [900, 901, 902, 903] 960 960 2000 [(0, .sc (.int .i64 x)), (1, .one (.im 1 (ints s))), (5, .one (.vad 903 0))] rfl rfl rfl (by kernel_rfl) (by kernel_rfl) (by simp -implicitDefEqProofs (maxSteps := 2000000) only [go_sem, wx]; rfl) ?_
    simp -implicitDefEqProofs (maxSteps := 2000000) only [go_sem]
    refine bwp_call ih2 [900, 901, 902, 903] 960 960 2000 [] rfl rfl rfl (by kernel_rfl) (by kernel_rfl) (by simp -implicitDefEqProofs (maxSteps := 2000000) only [go_sem, wx]; rfl) ?_
    simp -implicitDefEqProofs (maxSteps := 2000000) only [go_sem]
    exact (le_st' _ _ [⟨960, some _, false, 1, _⟩] [] _ (by simp -implicitDefEqProofs (maxSteps := 2000000) only [go_sem, Nat.add_assoc] <;> and_intros <;> rfl) (by simp -implicitDefEqProofs (maxSteps := 2000000) only [go_sem, Nat.add_assoc] <;> and_intros <;> rfl) (by simp -implicitDefEqProofs (maxSteps := 2000000) only [go_sem, Nat.add_assoc] <;> and_intros <;> rfl) (by rfl))
end Go.Proofs.Ytahjpaicfppkoaa.A


/- ALL MAXIMAL INDEPENDENT SETS: the program's function. Conditions: none. -/
namespace Go.Proofs.Ytahjpaicfppkoaa.A
open Go
set_option linter.unusedSimpArgs false
set_option linter.unusedVariables false
set_option maxRecDepth 100000

theorem search_all (n : Nat) (l : List Edge) (hn : n ≤ 14) (hl : l.length ≤ 9223372036854775807) : ∀ (m : Nat) (s : List Int) (o : List (List Int)), m ≤ n → s.length + m ≤ 14 → o.length + 2 ^ m ≤ 32768 →
    RSat Try.prog 75 [lInt ((n - m : Nat) : Int), lInts s] (misT n l o) (misT n l (o ++ walkI n l m s))
  | 0, s, o, h1, h2, h3 => by
    rw [Nat.sub_zero]
    exact search_zero n l s o hl (by omega) (by omega)
  | m + 1, s, o, h1, h2, h3 => by
    rw [Nat.pow_succ] at h3
    have b1 := walkI_len n l m (s ++ [((n - (m + 1) : Nat) : Int)])
    have hx : ((n - (m + 1) : Nat) : Int) + 1 = ((n - m : Nat) : Int) := by omega
    have := search_step n l s ((n - (m + 1) : Nat) : Int) ((n - m : Nat) : Int) o _ (walkI n l m (s ++ [((n - (m + 1) : Nat) : Int)])) (walkI n l m s) hl (by omega) (by omega) (by rw [IntWalk.i64_in _ (by omega)]; exact hx)
      (by rw [beq_eq_false_iff_ne]; omega) rfl (fun _ => search_all n l hn hl m _ o (by omega) (by simp; omega) (by omega))
      (search_all n l hn hl m s _ (by omega) (by omega) (by
        rw [List.length_append]
        split
        · omega
        · simp; omega))
    rw [List.append_assoc] at this
    exact this
theorem implMaximalIndependentSets_sat (n : Int) (l : List Edge) (hl : l.length ≤ 9223372036854775807) : Sat Try.prog 27 [lInt n, lEds l] [oISS (mis n l)] [g1, g1] := by
  refine sat_of_bodyB Try.func27 rfl (by kernel_rfl) (rs := [.tmp 4]) rfl rfl rfl ?_
  unfold mis
  refine bwp_seq mixed (by kernel_rfl) ?_
  simp -implicitDefEqProofs (maxSteps := 2000000) only [go_sem]
  refine bwp_seq mixed (by kernel_rfl) ?_
  simp -implicitDefEqProofs (maxSteps := 2000000) only [go_sem]
  rcases g : goodEds n l
  · rw [if_neg (by simp)]
    refine call_of (implAreValidEdges_sat n l hl) (by simp -implicitDefEqProofs (maxSteps := 2000000) only [go_sem, g]) (by kernel_rfl) (by simp -implicitDefEqProofs (maxSteps := 2000000) only [go_sem, g]) ?_
    simp -implicitDefEqProofs (maxSteps := 2000000) only [go_sem, g]
    first | done | rfl | exact ⟨rfl, rfl⟩ | exact ⟨rfl, rfl, rfl⟩ | (refine tr_and ?_ ?_ <;> first | rfl | exact ⟨rfl, rfl⟩ | kernel_rfl)
  have hn := goodEds_n g
  rw [if_pos rfl]
  obtain ⟨m, rfl⟩ : ∃ m : Nat, n = m := ⟨n.toNat, by omega⟩
  rw [show ((m : Nat) : Int).toNat = m by omega]
  have h := search_all m l (by omega) hl m [] [] (Nat.le_refl _) (by simp; omega) (by have := pow14 (show m ≤ 14 by omega); simp; omega)
  rw [Nat.sub_self, List.nil_append] at h
  refine call_of (implAreValidEdges_sat m l hl) (by simp -implicitDefEqProofs (maxSteps := 2000000) only [go_sem, g]) (by kernel_rfl) (by simp -implicitDefEqProofs (maxSteps := 2000000) only [go_sem, g]) ?_
  simp -implicitDefEqProofs (maxSteps := 2000000) only [go_sem, g]
  refine bwp_seq mixed (by kernel_rfl) ?_
  simp -implicitDefEqProofs (maxSteps := 2000000) only [go_sem]
  refine bwp_seq mixed (by kernel_rfl) ?_
  simp -implicitDefEqProofs (maxSteps := 2000000) only [go_sem]
  refine bwp_seq mixed (by kernel_rfl) ?_
  simp -implicitDefEqProofs (maxSteps := 2000000) only [go_sem]
  refine bwp_seqB (bwp_call h [1000, 1064, 1512, 1640] 1448 960 2000 [(5, .one (.vad 1512 0))] rfl rfl rfl (by kernel_rfl) (by kernel_rfl) (by simp -implicitDefEqProofs (maxSteps := 2000000) only [go_sem]; exact ⟨⟨rfl, rfl⟩, rfl⟩) ?_)
  simp -implicitDefEqProofs (maxSteps := 2000000) only [go_sem]
  refine bwp_awp mixed (by kernel_rfl) ?_
  simp -implicitDefEqProofs (maxSteps := 2000000) only [go_sem]
  first | done | rfl | exact ⟨rfl, rfl⟩ | exact ⟨rfl, rfl, rfl⟩ | (refine tr_and ?_ ?_ <;> first | rfl | exact ⟨rfl, rfl⟩ | kernel_rfl)
end Go.Proofs.Ytahjpaicfppkoaa.A


/- THE GREATEST SIZE OF AN INDEPENDENT SET. Conditions: none. -/
namespace Go.Proofs.Ytahjpaicfppkoaa.A
open Go
set_option linter.unusedSimpArgs false
set_option linter.unusedVariables false
set_option maxRecDepth 100000

def longer (m : Int) (t : List Int) : Int := if (t.length : Int) > m then t.length else m
def longest (l : List (List Int)) : Int := l.foldl longer 0
theorem longest_step {l : List (List Int)} {k : Nat} (h : k < l.length) : longest (l.take (k + 1)) = longer (longest (l.take k)) (l.getD k []) := by
  unfold longest
  rw [take_snoc [] h, List.foldl_append]; rfl
theorem implMaximumIndependentSize_sat (n : Int) (l : List Edge) (hl : l.length ≤ 9223372036854775807) : Sat Try.prog 30 [lInt n, lEds l] [lInt (longest (mis n l))] [g1, g1] := by
  refine sat_of_body mixed Try.func30 rfl (by kernel_rfl) (by kernel_rfl) (rs := [.tmp 4]) rfl rfl rfl ?_
  have nv := mis_len n l
  simp -implicitDefEqProofs (maxSteps := 2000000) only [go_sem]
  refine call_of (implMaximalIndependentSets_sat n l hl) (by simp -implicitDefEqProofs (maxSteps := 2000000) only [go_sem]) (callOk_still (by kernel_rfl) (by simp only [List.all_cons, List.all_nil, LV.still, LV.leaves, Leaf.still, ints_still, ris_still, eds_still, rels_still, iss_still, ems_still, Bool.and_self, Bool.and_true])) (by simp -implicitDefEqProofs (maxSteps := 2000000) only [go_sem]) ?_
  simp -implicitDefEqProofs (maxSteps := 2000000) only [go_sem]
  refine awp_loop Nat (fun k => mkSt [(5, .sc (.int .i64 (longest ((mis n l).take k)))), (10, .one (.ref 960 1 0 (mis n l).length)), (11, .sc (.int .i64 (mis n l).length)), (12, .sc (.int .i64 k))] [] [(960, (1, iss 999 (mis n l)))] 1000)
    (fun k => k ≤ (mis n l).length) (fun k => (mis n l).length - k) 0 (by omega) (le_st' _ _ [⟨960, some _, false, 1, _⟩] [] _ (by simp -implicitDefEqProofs (maxSteps := 2000000) only [go_sem, List.take_zero, longest, List.foldl_nil] <;> and_intros <;> rfl) (by simp -implicitDefEqProofs (maxSteps := 2000000) only [go_sem, List.take_zero, longest, List.foldl_nil] <;> and_intros <;> rfl) (by simp -implicitDefEqProofs (maxSteps := 2000000) only [go_sem, List.take_zero, longest, List.foldl_nil] <;> and_intros <;> rfl) (by rfl)) ?_
  rintro k h1
  by_cases c1 : k < (mis n l).length
  · simp -implicitDefEqProofs (maxSteps := 2000000) only [go_sem, c1]
    rw [i64_succ (by omega)]
    refine ⟨k + 1, c1, by omega, ?_⟩
    rw [longest_step c1, longer]
    exact (le_st' _ _ [⟨960, some _, false, 1, _⟩] [] _ (by simp -implicitDefEqProofs (maxSteps := 2000000) only [go_sem] <;> and_intros <;> rfl) (by simp -implicitDefEqProofs (maxSteps := 2000000) only [go_sem] <;> and_intros <;> rfl) (by simp -implicitDefEqProofs (maxSteps := 2000000) only [go_sem] <;> and_intros <;> rfl) (by rfl))
  · obtain rfl : k = (mis n l).length := by omega
    rw [List.take_length]
    simp -implicitDefEqProofs (maxSteps := 2000000) only [go_sem, c1]
end Go.Proofs.Ytahjpaicfppkoaa.A
