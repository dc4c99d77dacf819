/- Packed by pack.py: FMisP FKcrP FAtB WKeyConflictRepairs LKB2 LKeyConflictRepairs -/
import Derived.Test.YtahjpaicfppkoaaAZ3KeyConflictRepairs
import Derived.Test.YtahjpaicfppkoaaAZ2KeyConflictRepairs
import Derived.Test.YtahjpaicfppkoaaAZ1KeyConflictRepairs
import Derived.Test.YtahjpaicfppkoaaRows

/- MAXIMAL INDEPENDENT SETS: what holds of what is found. Conditions: none. (No program in sight.) -/
namespace Go.Proofs.Ytahjpaicfppkoaa.A
open Go
set_option linter.unusedSimpArgs false
set_option linter.unusedVariables false

theorem walkI_max {n : Nat} {l : List Edge} : ∀ (m : Nat) (s : List Int), ∀ t ∈ walkI n l m s, isMax n l t = true
  | 0, s, t, ht => by
    rw [walkI] at ht
    split at ht
    · rename_i h; rw [List.mem_singleton.mp ht]; exact h
    · cases ht
  | m + 1, s, t, ht => by
    rw [walkI] at ht
    rcases List.mem_append.mp ht with ht | ht
    · split at ht
      · exact walkI_max m _ t ht
      · cases ht
    · exact walkI_max m _ t ht
theorem mis_max {n : Int} {l : List Edge} : ∀ t ∈ mis n l, isMax n l t = true := by
  intro t ht
  unfold mis at ht
  split at ht
  · rename_i g
    have h0 := (goodEds_n g).1
    have := walkI_max _ _ t ht
    rw [Int.toNat_of_nonneg h0] at this
    exact this
  · cases ht
theorem isMax_indep {n : Int} {l : List Edge} {t : List Int} (h : isMax n l t = true) : indep l t = true := by
  unfold isMax at h
  simp only [Bool.and_eq_true] at h
  exact h.2.2.1
theorem foldl_longer : ∀ (L : List (List Int)) (m : Int), m ≤ L.foldl longer m ∧ ∀ t ∈ L, (t.length : Int) ≤ L.foldl longer m
  | [], m => ⟨Int.le_refl _, fun t ht => by cases ht⟩
  | a :: L, m => by
    obtain ⟨h1, h2⟩ := foldl_longer L (longer m a)
    have h3 : m ≤ longer m a ∧ (a.length : Int) ≤ longer m a := by unfold longer; split <;> omega
    rw [List.foldl_cons]
    refine ⟨by omega, fun t ht => ?_⟩
    rcases List.mem_cons.mp ht with rfl | ht
    · omega
    · exact h2 t ht
theorem longest_ge {L : List (List Int)} : ∀ t ∈ L, (t.length : Int) ≤ longest L := (foldl_longer L 0).2
/-- A part of an independent set is independent. -/
theorem indep_sub {l : List Edge} {s t : List Int} (h : indep l t = true) (hs : ∀ x ∈ s, x ∈ t) : indep l s = true := by
  unfold indep
  refine upTo_all fun k hk => ?_
  have h1 := upTo_at h hk
  unfold edNo at h1 ⊢
  rw [Bool.not_eq_true', Bool.and_eq_false_iff, decide_eq_false_iff_not, decide_eq_false_iff_not] at h1 ⊢
  exact h1.imp (fun h a => h (hs _ a)) (fun h a => h (hs _ a))
/-- Every maximal set that begins so is found. -/
theorem walkI_all {n : Nat} {l : List Edge} : ∀ (m : Nat) (s r : List Int), m ≤ n → isMax n l (s ++ r) = true → r.Pairwise (· < ·) → (∀ x ∈ r, ((n - m : Nat) : Int) ≤ x ∧ x < n) → s ++ r ∈ walkI n l m s
  | 0, s, r, _, h, _, hr => by
    obtain rfl : r = [] := by
      rcases r with _ | ⟨x, r⟩
      · rfl
      · have := hr x (List.mem_cons_self ..); omega
    rw [List.append_nil] at h ⊢
    rw [walkI, if_pos h]; exact List.mem_singleton_self _
  | m + 1, s, r, hm, h, hp, hr => by
    rw [walkI]
    apply List.mem_append.mpr
    rcases r with _ | ⟨x, r⟩
    · exact .inr (walkI_all m s [] (by omega) h hp (fun x hx => by cases hx))
    · have hx := hr x (List.mem_cons_self ..)
      obtain ⟨hp1, hp2⟩ := List.pairwise_cons.mp hp
      by_cases e : x = ((n - (m + 1) : Nat) : Int)
      · refine .inl ?_
        subst e
        rw [if_pos (indep_sub (isMax_indep h) (fun y hy => by
          rcases List.mem_append.mp hy with hy | hy
          · exact List.mem_append_left _ hy
          · exact List.mem_append_right _ (by rw [List.mem_singleton.mp hy]; exact List.mem_cons_self ..)))]
        have h2 : isMax n l ((s ++ [((n - (m + 1) : Nat) : Int)]) ++ r) = true := by rw [List.append_assoc]; exact h
        have := walkI_all m (s ++ [((n - (m + 1) : Nat) : Int)]) r (by omega) h2 hp2 (fun y hy => by
          have h3 := hp1 y hy
          have h4 := hr y (List.mem_cons_of_mem _ hy)
          omega)
        rw [List.append_assoc] at this
        exact this
      · exact .inr (walkI_all m s (x :: r) (by omega) h hp (fun y hy => by
          have h4 := hr y hy
          rcases List.mem_cons.mp hy with rfl | hy
          · omega
          · have h3 := hp1 y hy; omega))
theorem ixs_lt {l : List Int} {n : Int} (h : ixs l n = true) : l.Pairwise (· < ·) ∧ ∀ x ∈ l, 0 ≤ x ∧ x < n := by
  have step : ∀ k, k + 1 < l.length → l.getD k 0 < l.getD (k + 1) 0 := by
    intro k hk
    have h1 := upTo_at h hk
    unfold ixAt at h1
    rw [Bool.and_eq_true, Bool.or_eq_true, decide_eq_true_iff, Bool.not_eq_true', decide_eq_false_iff_not, Nat.add_sub_cancel] at h1
    have := h1.2.resolve_left (by omega)
    omega
  have far : ∀ i j, i < j → j < l.length → l.getD i 0 < l.getD j 0 := by
    intro i j
    induction j with
    | zero => intro h; omega
    | succ j ih =>
      intro h1 h2
      have h3 := step j h2
      by_cases e : i = j
      · subst e; exact h3
      · have := ih (by omega) (by omega); omega
  constructor
  · rw [List.pairwise_iff_getElem]
    intro i j hi hj hij
    have := far i j hij hj
    simpa [List.getD_eq_getElem?_getD, hi, hj] using this
  · intro x hx
    obtain ⟨i, hi, rfl⟩ := List.mem_iff_getElem.mp hx
    have h1 := upTo_at h hi
    unfold ixAt at h1
    rw [Bool.and_eq_true] at h1
    have := inB_of h1.1
    simp only [List.getD_eq_getElem?_getD, List.getElem?_eq_getElem hi, Option.getD_some] at this
    omega
theorem mis_all {n : Int} {l : List Edge} {t : List Int} (h : isMax n l t = true) : t ∈ mis n l := by
  have h0 := h
  unfold isMax at h0
  simp only [Bool.and_eq_true] at h0
  obtain ⟨g, hi, _, _⟩ := h0
  obtain ⟨p1, p2⟩ := ixs_lt hi
  have hn := (goodEds_n g).1
  unfold mis
  rw [if_pos g]
  have e : ((n.toNat : Nat) : Int) = n := Int.toNat_of_nonneg hn
  exact walkI_all n.toNat [] t (Nat.le_refl _) (by rw [e]; exact h) p1 (fun x hx => by have := p2 x hx; omega)
theorem extN_sub (l : List Edge) (s : List Int) : ∀ {k : Nat}, ∀ x ∈ s, x ∈ extN l s k
  | 0, x, hx => hx
  | k + 1, x, hx => by
    rw [extN]
    split
    · exact List.mem_append_left _ (extN_sub l s x hx)
    · exact extN_sub l s x hx
theorem extN_mono (l : List Edge) (s : List Int) {j : Nat} : ∀ {k : Nat}, j ≤ k → ∀ x ∈ extN l s j, x ∈ extN l s k
  | 0, h, x, hx => by rw [show j = 0 by omega] at hx; exact hx
  | k + 1, h, x, hx => by
    by_cases e : j = k + 1
    · rw [e] at hx; exact hx
    · have := extN_mono l s (show j ≤ k by omega) x hx
      rw [extN]
      split
      · exact List.mem_append_left _ this
      · exact this
theorem ixs_of {t : List Int} {n : Int} (h1 : t.Pairwise (· < ·)) (h2 : ∀ x ∈ t, 0 ≤ x ∧ x < n) : ixs t n = true := by
  unfold ixs
  refine upTo_all fun k hk => ?_
  unfold ixAt
  have h3 := h2 _ (mem_getD 0 hk)
  rw [Bool.and_eq_true, Bool.or_eq_true, decide_eq_true_iff, Bool.not_eq_true', decide_eq_false_iff_not]
  refine ⟨?_, ?_⟩
  · unfold inB
    rw [Bool.and_eq_true, decide_eq_true_iff, decide_eq_true_iff]; omega
  · rcases k with _ | k
    · exact .inl rfl
    · refine .inr ?_
      have := List.pairwise_iff_getElem.mp h1 k (k + 1) (by omega) hk (by omega)
      simp only [List.getD_eq_getElem?_getD, Nat.add_sub_cancel, List.getElem?_eq_getElem hk, List.getElem?_eq_getElem (show k < t.length by omega), Option.getD_some]
      omega
structure ExtOk (n : Nat) (l : List Edge) (t : List Int) : Prop where
  nd : t.Nodup
  rng : ∀ x ∈ t, 0 ≤ x ∧ x < n
  ind : indep l t = true
theorem extN_ok {n : Nat} {l : List Edge} {s : List Int} (h : ExtOk n l s) : ∀ {k : Nat}, k ≤ n → ExtOk n l (extN l s k)
  | 0, _ => h
  | k + 1, hk => by
    have ih := extN_ok h (k := k) (by omega)
    rw [extN]
    split
    · rename_i hf
      unfold fitsE at hf
      rw [Bool.and_eq_true, Bool.not_eq_true', decide_eq_false_iff_not] at hf
      refine ⟨?_, ?_, hf.2⟩
      · rw [List.nodup_append]
        exact ⟨ih.nd, by simp, fun a ha b hb => by
          rw [List.mem_singleton] at hb
          rintro rfl
          exact hf.1 (hb ▸ ha)⟩
      · intro x hx
        rcases List.mem_append.mp hx with hx | hx
        · exact ih.rng x hx
        · rw [List.mem_singleton.mp hx]; omega
    · exact ih
theorem fitsE_mono {l : List Edge} {s t : List Int} {x : Int} (h : fitsE l s x = false) (hs : ∀ y ∈ s, y ∈ t) : fitsE l t x = false := by
  unfold fitsE at h ⊢
  rw [Bool.and_eq_false_iff, Bool.not_eq_false', decide_eq_true_iff] at h ⊢
  rcases h with h | h
  · exact .inl (hs _ h)
  · refine .inr ?_
    rcases e : indep l (t ++ [x])
    · rfl
    · rw [indep_sub e (fun y hy => by
        rcases List.mem_append.mp hy with hy | hy
        · exact List.mem_append_left _ (hs y hy)
        · exact List.mem_append_right _ hy)] at h
      cases h
theorem extN_end {l : List Edge} {s : List Int} {n x : Nat} (h : x < n) : fitsE l (extN l s n) x = false := by
  by_cases hf : fitsE l (extN l s x) x = true
  · have hm : (x : Int) ∈ extN l s (x + 1) := by rw [extN, if_pos hf]; exact List.mem_append_right _ (List.mem_singleton_self _)
    have := extN_mono l s (show x + 1 ≤ n by omega) _ hm
    unfold fitsE
    rw [decide_eq_true this]; rfl
  · exact fitsE_mono (by simpa using hf) (extN_mono l s (show x ≤ n by omega))
theorem sortI_strict {l : List Int} (h : l.Nodup) : (sortI l).Pairwise (· < ·) := by
  have h1 := sortI_sorted l
  have h2 : (sortI l).Nodup := (sortI_perm l).nodup_iff.mpr h
  exact (List.pairwise_and_iff.mpr ⟨h1, h2⟩).imp (fun h => by have := h.1; have := h.2; omega)
/-- What a set is extended to. -/
theorem extM_ok {n : Int} {l : List Edge} {s : List Int} (g : goodSet n l s = true) : (extM n l s).2 = true ∧ isMax n l (extM n l s).1 = true ∧ ∀ x ∈ s, x ∈ (extM n l s).1 := by
  unfold extM
  rw [if_pos g]
  unfold goodSet at g
  simp only [Bool.and_eq_true] at g
  obtain ⟨ge, hi, hd⟩ := g
  have hn := (goodEds_n ge).1
  have e : ((n.toNat : Nat) : Int) = n := Int.toNat_of_nonneg hn
  obtain ⟨p1, p2⟩ := ixs_lt hi
  have ok : ExtOk n.toNat l s := ⟨p1.imp (fun h => by omega), fun x hx => by have := p2 x hx; omega, hd⟩
  have ok' := extN_ok ok (Nat.le_refl _)
  have hmem : ∀ x, x ∈ sortI (extN l s n.toNat) ↔ x ∈ extN l s n.toNat := fun x => (sortI_perm _).mem_iff
  refine ⟨rfl, ?_, fun x hx => (hmem x).mpr (extN_sub l s x hx)⟩
  unfold isMax
  rw [ge, ixs_of (sortI_strict ok'.nd) (fun x hx => by have := ok'.rng x ((hmem x).mp hx); omega), indep_sub ok'.ind (fun x hx => (hmem x).mp hx), Bool.true_and, Bool.true_and, Bool.true_and]
  refine upTo_all fun k hk => ?_
  rw [Bool.not_eq_true']
  exact fitsE_mono (extN_end hk) (fun y hy => (hmem y).mpr hy)
theorem extM_no {n : Int} {l : List Edge} {s : List Int} (g : goodSet n l s = false) : extM n l s = ([], false) := by
  unfold extM
  rw [g]; rfl
end Go.Proofs.Ytahjpaicfppkoaa.A


/- KEY CONFLICTS AND REPAIRS: what holds of them. Conditions: none. (No program in sight.) -/
namespace Go.Proofs.Ytahjpaicfppkoaa.A
open Go
set_option linter.unusedSimpArgs false
set_option linter.unusedVariables false

theorem rowE_mem {p : Nat → Nat → Bool} {a : Nat} {e : Edge} : ∀ {m : Nat}, e ∈ rowE p a m ↔ ∃ b : Nat, b < m ∧ a < b ∧ p a b = true ∧ e = ⟨a, b⟩
  | 0 => by simp [rowE]
  | m + 1 => by
    have ih := rowE_mem (p := p) (a := a) (e := e) (m := m)
    rw [rowE]
    rcases h : (decide (a < m) && p a m)
    · rw [if_neg (by simp)]
      rw [ih]
      constructor
      · rintro ⟨b, h1, h2, h3, h4⟩; exact ⟨b, by omega, h2, h3, h4⟩
      · rintro ⟨b, h1, h2, h3, h4⟩
        rcases Nat.lt_or_ge b m with hb | hb
        · exact ⟨b, hb, h2, h3, h4⟩
        · obtain rfl : b = m := by omega
          rw [decide_eq_true h2, h3] at h; cases h
    · rw [if_pos rfl, List.mem_append, ih, List.mem_singleton]
      rw [Bool.and_eq_true, decide_eq_true_iff] at h
      constructor
      · rintro (⟨b, h1, h2, h3, h4⟩ | rfl)
        · exact ⟨b, by omega, h2, h3, h4⟩
        · exact ⟨m, by omega, h.1, h.2, rfl⟩
      · rintro ⟨b, h1, h2, h3, h4⟩
        rcases Nat.lt_or_ge b m with hb | hb
        · exact .inl ⟨b, hb, h2, h3, h4⟩
        · obtain rfl : b = m := by omega
          exact .inr h4
theorem allE_mem {p : Nat → Nat → Bool} {n : Nat} {e : Edge} : ∀ {k : Nat}, e ∈ allE p n k ↔ ∃ a b : Nat, a < k ∧ b < n ∧ a < b ∧ p a b = true ∧ e = ⟨a, b⟩
  | 0 => by simp [allE]
  | k + 1 => by
    rw [allE, List.mem_append, allE_mem (k := k), rowE_mem]
    constructor
    · rintro (⟨a, b, h1, h2⟩ | ⟨b, h1, h2⟩)
      · exact ⟨a, b, by omega, h2⟩
      · exact ⟨k, b, by omega, h1, h2⟩
    · rintro ⟨a, b, h1, h2⟩
      rcases Nat.lt_or_ge a k with ha | ha
      · exact .inl ⟨a, b, ha, h2⟩
      · obtain rfl : a = k := by omega
        exact .inr ⟨b, h2⟩
def lexE (e f : Edge) : Prop := e.a < f.a ∨ (e.a = f.a ∧ e.b < f.b)
theorem rowE_lex {p : Nat → Nat → Bool} {a : Nat} : ∀ m : Nat, (rowE p a m).Pairwise lexE
  | 0 => by simp [rowE]
  | m + 1 => by
    rw [rowE]
    split
    · rw [List.pairwise_append]
      refine ⟨rowE_lex m, List.pairwise_singleton _ _, fun e he f hf => ?_⟩
      obtain ⟨b, h1, _, _, rfl⟩ := rowE_mem.mp he
      obtain rfl := List.mem_singleton.mp hf
      exact .inr ⟨rfl, by show ((b : Nat) : Int) < m; omega⟩
    · exact rowE_lex m
theorem allE_lex {p : Nat → Nat → Bool} {n : Nat} : ∀ k : Nat, (allE p n k).Pairwise lexE
  | 0 => by simp [allE]
  | k + 1 => by
    rw [allE, List.pairwise_append]
    refine ⟨allE_lex k, rowE_lex n, fun e he f hf => ?_⟩
    obtain ⟨a, b, h1, _, _, _, rfl⟩ := allE_mem.mp he
    obtain ⟨c, _, _, _, rfl⟩ := rowE_mem.mp hf
    exact .inl (by show ((a : Nat) : Int) < k; omega)
theorem allE_good {p : Nat → Nat → Bool} {n : Nat} (hn : n ≤ 14) : goodEds n (allE p n n) = true := by
  unfold goodEds
  rw [Bool.and_eq_true]
  refine ⟨by unfold inB; simp; omega, upTo_all fun k hk => ?_⟩
  unfold edAt
  obtain ⟨a, b, h1, h2, h3, _, he⟩ := allE_mem.mp (mem_getD (default : Edge) hk)
  rw [he, Bool.and_eq_true, Bool.and_eq_true]
  refine ⟨by unfold inB; simp; omega, by unfold inB; simp; omega, ?_⟩
  unfold lexAt
  rcases k with _ | k
  · rfl
  · rw [he, Nat.add_sub_cancel]
    have h4 := List.pairwise_iff_getElem.mp (allE_lex (p := p) (n := n) n) k (k + 1) (by omega) hk (by omega)
    have e1 : (allE p n n)[k] = (allE p n n).getD k default := by simp [List.getD_eq_getElem?_getD, (by omega : k < (allE p n n).length)]
    have e2 : (allE p n n)[k + 1] = (allE p n n).getD (k + 1) default := by simp [List.getD_eq_getElem?_getD, hk]
    rw [e1, e2, he] at h4
    unfold lexE at h4
    simp only at h4 ⊢
    rw [Bool.or_eq_true]
    right
    rw [Bool.not_eq_true', Bool.or_eq_false_iff, Bool.and_eq_false_iff, decide_eq_false_iff_not, beq_eq_false_iff_ne, decide_eq_false_iff_not]
    omega
/-! #### a repair has one fact of each block -/
theorem pickR_hit : ∀ {l : List (List Int)} {r : Nat}, (∀ b ∈ l, 0 < b.length) → ∀ b ∈ l, ∃ y ∈ b, y ∈ (pickR l r).1
  | [], _, _, b, hb => by cases hb
  | c :: l, r, hl, b, hb => by
    rw [pickR]
    rcases List.mem_cons.mp hb with rfl | hb
    · refine ⟨_, ?_, List.mem_cons_self ..⟩
      have hb := hl b (by simp)
      rw [List.getD_eq_getElem?_getD, List.getElem?_eq_getElem (Nat.mod_lt _ hb)]
      exact List.getElem_mem _
    · obtain ⟨y, h1, h2⟩ := pickR_hit (r := r) (fun c hc => hl c (by simp [hc])) b hb
      exact ⟨y, h1, List.mem_cons_of_mem _ h2⟩
theorem pickR_one : ∀ {l : List (List Int)} {r : Nat}, (∀ b ∈ l, 0 < b.length) → (l.Pairwise fun a b => ∀ x ∈ a, ∀ y ∈ b, x < y) → ∀ b ∈ l, ∀ x ∈ b, ∀ y ∈ b, x ∈ (pickR l r).1 → y ∈ (pickR l r).1 → x = y
  | [], _, _, _, b, hb, _, _, _, _, _, _ => by cases hb
  | c :: l, r, hl, hp, b, hb, x, hx, y, hy, h1, h2 => by
    rw [pickR] at h1 h2
    rw [List.pairwise_cons] at hp
    have hl' : ∀ c ∈ l, 0 < c.length := fun c hc => hl c (by simp [hc])
    have hh : c.getD ((pickR l r).2 % c.length) 0 ∈ c := by
      have hc := hl c (by simp)
      rw [List.getD_eq_getElem?_getD, List.getElem?_eq_getElem (Nat.mod_lt _ hc)]
      exact List.getElem_mem _
    have no : ∀ z ∈ b, z = c.getD ((pickR l r).2 % c.length) 0 → b ∈ l → False := by
      intro z hz e hbl
      have := hp.1 b hbl z (by rw [e]; exact hh) z hz
      omega
    have no2 : ∀ z ∈ c, z ∈ (pickR l r).1 → False := by
      intro z hz hzp
      obtain ⟨c', hc', hz'⟩ := pickR_mem hl' hzp
      have := hp.1 c' hc' z hz z hz'
      omega
    rcases List.mem_cons.mp hb with rfl | hbl
    · rcases List.mem_cons.mp h1 with e1 | h1
      · rcases List.mem_cons.mp h2 with e2 | h2
        · rw [e1, e2]
        · exact (no2 y hy h2).elim
      · exact (no2 x hx h1).elim
    · rcases List.mem_cons.mp h1 with e1 | h1
      · exact (no x hx e1 hbl).elim
      · rcases List.mem_cons.mp h2 with e2 | h2
        · exact (no y hy e2 hbl).elim
        · exact pickR_one hl' hp.2 b hbl x hx y hy h1 h2
theorem mem_castL {l : List Nat} {x : Nat} : ((x : Nat) : Int) ∈ castL l ↔ x ∈ l := by
  unfold castL
  rw [List.mem_map]
  constructor
  · rintro ⟨y, hy, e⟩
    obtain rfl : y = x := by omega
    exact hy
  · exact fun h => ⟨x, h, rfl⟩
theorem blk_of {S : Nat → Nat → Bool} {n : Nat} {b : List Int} (h : b ∈ blk S n) : ∃ i, i < n ∧ isFst S i = true ∧ b = castL (clsOf S i n) := by
  unfold blk blkN at h
  obtain ⟨c, hc, rfl⟩ := List.mem_map.mp h
  obtain ⟨i, hi, rfl⟩ := List.mem_map.mp hc
  obtain ⟨h1, h2⟩ := fsts_mem.mp hi
  exact ⟨i, h1, h2, rfl⟩
theorem blk_nat {S : Nat → Nat → Bool} {n : Nat} {b : List Int} (h : b ∈ blk S n) {x : Int} (hx : x ∈ b) : ∃ y : Nat, x = y ∧ y < n := by
  obtain ⟨i, _, _, rfl⟩ := blk_of h
  obtain ⟨y, hy, rfl⟩ := List.mem_map.mp hx
  exact ⟨y, rfl, (clsOf_mem.mp hy).1⟩
theorem blk_cover {S : Nat → Nat → Bool} {n : Nat} (E : Eqv S n) {x : Nat} (hx : x < n) : ∃ b ∈ blk S n, ((x : Nat) : Int) ∈ b := by
  obtain ⟨i, h1, h2, h3⟩ := least (p := fun j => S j x) (k := x + 1) ⟨x, by omega, E.refl x hx⟩
  have hf : isFst S i = true := isFst_of fun j hj => by
    rcases e : S j i
    · rfl
    · have := E.trans j i x (by omega) (by omega) hx e h2
      rw [h3 j hj] at this; cases this
  refine ⟨castL (clsOf S i n), ?_, mem_castL.mpr (clsOf_mem.mpr ⟨hx, h2⟩)⟩
  unfold blk blkN
  exact List.mem_map.mpr ⟨_, List.mem_map.mpr ⟨i, fsts_mem.mpr ⟨by omega, hf⟩, rfl⟩, rfl⟩
theorem blk_same {S : Nat → Nat → Bool} {n : Nat} (E : Eqv S n) {b : List Int} (h : b ∈ blk S n) {x y : Nat} (hx : ((x : Nat) : Int) ∈ b) (hy : y < n) : ((y : Nat) : Int) ∈ b ↔ S x y = true := by
  obtain ⟨i, h1, h2, rfl⟩ := blk_of h
  obtain ⟨a1, a2⟩ := clsOf_mem.mp (mem_castL.mp hx)
  rw [mem_castL, clsOf_mem]
  constructor
  · rintro ⟨_, h4⟩
    exact E.trans x i y a1 h1 hy (E.symm i x h1 a1 a2) h4
  · intro h4
    exact ⟨hy, E.trans i x y h1 a1 hy a2 h4⟩
section rep
variable {d : Db} (g : goodDb d = true)
include g
theorem rep_in {r : Nat} {x : Int} (h : x ∈ (pickR (blocksOf d) r).1) : ∃ y : Nat, x = y ∧ y < d.facts.length := by
  obtain ⟨b, hb, hx⟩ := pickR_mem (fun b hb => (blocksOf_len g).2 b hb |>.1) h
  exact blk_nat hb hx
theorem rep_one {r : Nat} {x y : Nat} (hx : ((x : Nat) : Int) ∈ (pickR (blocksOf d) r).1) (hy : ((y : Nat) : Int) ∈ (pickR (blocksOf d) r).1) (h : keyR d x y = true) : x = y := by
  have E := keyR_eqv g
  have hb := blk_ne E (Nat.le_refl _)
  obtain ⟨b, b1, b2⟩ := pickR_mem hb hx
  obtain ⟨x', e1, hx'⟩ := rep_in g hx
  obtain ⟨y', e2, hy'⟩ := rep_in g hy
  have hy2 : ((y : Nat) : Int) ∈ b := (blk_same E b1 b2 (by omega)).mpr h
  have := pickR_one (r := r) hb (blk_asc E (Nat.le_refl _)) b b1 _ b2 _ hy2 hx hy
  omega
theorem rep_hit {r : Nat} {x : Nat} (hx : x < d.facts.length) : ∃ y : Nat, y < d.facts.length ∧ ((y : Nat) : Int) ∈ (pickR (blocksOf d) r).1 ∧ keyR d x y = true := by
  have E := keyR_eqv g
  have hb := blk_ne E (Nat.le_refl _)
  obtain ⟨b, b1, b2⟩ := blk_cover E hx
  obtain ⟨y, y1, y2⟩ := pickR_hit (r := r) hb b b1
  obtain ⟨y', rfl, hy'⟩ := rep_in g y2
  exact ⟨y', hy', y2, (blk_same E b1 b2 hy').mp y1⟩
theorem rep_ixs (r : Nat) : ixs (pickR (blocksOf d) r).1 d.facts.length = true := by
  refine upTo_all fun k hk => ?_
  unfold ixAt
  obtain ⟨y, e1, e2⟩ := rep_in g (mem_getD 0 hk)
  rw [Bool.and_eq_true]
  refine ⟨by unfold inB; rw [e1]; simp; omega, ?_⟩
  rcases k with _ | k
  · rfl
  · have h4 := List.pairwise_iff_getElem.mp (nth'_asc g r) k (k + 1) (by omega) hk (by omega)
    have a1 : (pickR (blocksOf d) r).1[k] = (pickR (blocksOf d) r).1.getD k 0 := by simp [List.getD_eq_getElem?_getD, (by omega : k < (pickR (blocksOf d) r).1.length)]
    have a2 : (pickR (blocksOf d) r).1[k + 1] = (pickR (blocksOf d) r).1.getD (k + 1) 0 := by simp [List.getD_eq_getElem?_getD, hk]
    rw [a1, a2] at h4
    rw [Bool.or_eq_true, Nat.add_sub_cancel]
    right
    rw [Bool.not_eq_true', decide_eq_false_iff_not]
    omega
theorem keysOf_mem {e : Edge} : e ∈ keysOf d ↔ ∃ a b : Nat, b < d.facts.length ∧ a < b ∧ keyR d a b = true ∧ e = ⟨a, b⟩ := by
  unfold keysOf
  rw [if_pos g, allE_mem]
  constructor
  · rintro ⟨a, b, h1, h2, h3, h4, h5⟩; exact ⟨a, b, h2, h3, h4, h5⟩
  · rintro ⟨a, b, h2, h3, h4, h5⟩; exact ⟨a, b, by omega, h2, h3, h4, h5⟩
theorem keysOf_good : goodEds d.facts.length (keysOf d) = true := by
  unfold keysOf
  rw [if_pos g]
  exact allE_good (goodDb_len g)
theorem rep_indep (r : Nat) : indep (keysOf d) (pickR (blocksOf d) r).1 = true := by
  unfold indep
  refine upTo_all fun k hk => ?_
  unfold edNo
  obtain ⟨a, b, h1, h2, h3, he⟩ := (keysOf_mem g).mp (mem_getD (default : Edge) hk)
  rw [he]
  rcases d1 : decide (((a : Nat) : Int) ∈ (pickR (blocksOf d) r).1)
  · rfl
  rcases d2 : decide (((b : Nat) : Int) ∈ (pickR (blocksOf d) r).1)
  · rfl
  have := rep_one g (of_decide_eq_true d1) (of_decide_eq_true d2) h3
  omega
omit g in
theorem indep_no {l : List Edge} {s : List Int} {e : Edge} (he : e ∈ l) (ha : e.a ∈ s) (hb : e.b ∈ s) : indep l s = false := by
  obtain ⟨k, hk, rfl⟩ := List.mem_iff_getElem.mp he
  have e1 : l.getD k default = l[k] := by simp [List.getD_eq_getElem?_getD, hk]
  refine upTo_false hk ?_
  unfold edNo
  rw [e1, decide_eq_true ha, decide_eq_true hb]; rfl
theorem rep_max (r : Nat) : isMax d.facts.length (keysOf d) (pickR (blocksOf d) r).1 = true := by
  unfold isMax
  rw [keysOf_good g, rep_ixs g, rep_indep g, Int.toNat_natCast]
  refine upTo_all fun x hx => ?_
  unfold fitsE
  rcases d1 : decide (((x : Nat) : Int) ∈ (pickR (blocksOf d) r).1)
  · obtain ⟨y, h1, h2, h3⟩ := rep_hit g (r := r) hx
    have hne : x ≠ y := by
      rintro rfl
      rw [decide_eq_true h2] at d1; cases d1
    have hin : indep (keysOf d) ((pickR (blocksOf d) r).1 ++ [((x : Nat) : Int)]) = false := by
      rcases Nat.lt_or_ge x y with h | h
      · exact indep_no (e := ⟨x, y⟩) ((keysOf_mem g).mpr ⟨x, y, h1, h, h3, rfl⟩) (by simp) (by simp [h2])
      · exact indep_no (e := ⟨y, x⟩) ((keysOf_mem g).mpr ⟨y, x, hx, by omega, (keyR_eqv g).symm x y hx h1 h3, rfl⟩) (by simp [h2]) (by simp)
    rw [hin]; rfl
  · rfl
omit g in
theorem sum_ones : ∀ {l : List (List Int)}, (∀ b ∈ l, 0 < b.length) → l.length = (l.map List.length).sum → ∀ b ∈ l, b.length = 1
  | [], _, _, b, hb => by cases hb
  | c :: l, h, e, b, hb => by
    have h1 := sum_ge (l := l) fun c hc => h c (by simp [hc])
    have h2 := h c (by simp)
    simp only [List.length_cons, List.map_cons, List.sum_cons] at e
    rcases List.mem_cons.mp hb with rfl | hb
    · omega
    · exact sum_ones (fun c hc => h c (by simp [hc])) (by omega) b hb
omit g in
theorem sum_one : ∀ {l : List (List Int)}, (∀ b ∈ l, b.length = 1) → l.length = (l.map List.length).sum
  | [], _ => rfl
  | c :: l, h => by
    have := sum_one (l := l) fun c hc => h c (by simp [hc])
    have := h c (by simp)
    simp only [List.length_cons, List.map_cons, List.sum_cons]
    omega
theorem keys_none : (((keysOf d).length : Int) == 0) = cst d := by
  have E := keyR_eqv g
  have hsum : ((blocksOf d).map List.length).sum = d.facts.length := blk_sum E (Nat.le_refl _)
  have hne : ∀ b ∈ blocksOf d, 0 < b.length := blk_ne E (Nat.le_refl _)
  have key : keysOf d = [] ↔ (blocksOf d).length = d.facts.length := by
    constructor
    · intro h
      rw [← hsum]
      refine sum_one fun b hb => ?_
      have h1 := hne b hb
      rcases Nat.lt_or_ge 1 b.length with h2 | h2
      · obtain ⟨i, hi, hf, rfl⟩ := blk_of hb
        have hp : (clsOf (keyR d) i d.facts.length).Pairwise (· < ·) := List.Pairwise.filter _ List.pairwise_lt_range
        have h3 : 1 < (clsOf (keyR d) i d.facts.length).length := by simpa [castL] using h2
        have h4 := List.pairwise_iff_getElem.mp hp 0 1 (by omega) h3 (by omega)
        obtain ⟨a1, a2⟩ := clsOf_mem.mp (List.getElem_mem (show 0 < (clsOf (keyR d) i d.facts.length).length by omega))
        obtain ⟨b1, b2⟩ := clsOf_mem.mp (List.getElem_mem h3)
        have : (⟨_, _⟩ : Edge) ∈ keysOf d := (keysOf_mem g).mpr ⟨_, _, b1, h4, E.trans _ i _ a1 hi b1 (E.symm i _ hi a1 a2) b2, rfl⟩
        rw [h] at this; cases this
      · omega
    · intro h
      have h1 := sum_ones hne (by omega)
      rcases hk : keysOf d with _ | ⟨e, l⟩
      · rfl
      · obtain ⟨a, b, c1, c2, c3, rfl⟩ := (keysOf_mem g).mp (show e ∈ keysOf d by rw [hk]; simp)
        obtain ⟨B, hB, haB⟩ := blk_cover E (show a < d.facts.length by omega)
        have hbB := (blk_same E hB haB c1).mpr c3
        have h2 := h1 B hB
        obtain ⟨z, rfl⟩ := List.length_eq_one_iff.mp h2
        have := List.mem_singleton.mp haB
        have := List.mem_singleton.mp hbB
        omega
  unfold cst
  rw [g, Bool.true_and, Bool.eq_iff_iff, beq_iff_eq, decide_eq_true_iff, ← key]
  constructor
  · intro h; exact List.length_eq_zero_iff.mp (by omega)
  · intro h; rw [h]; rfl
end rep
theorem edges_nil (d : Db) : edgesOf d [] = keysOf d := by
  unfold edgesOf keysOf confl keyE
  simp only [List.any_nil, Bool.false_or]
end Go.Proofs.Ytahjpaicfppkoaa.A


/- A BYTE OF THE CODE. Conditions: none. -/
namespace Go.Proofs.Ytahjpaicfppkoaa.A
open Go
set_option linter.unusedSimpArgs false
set_option linter.unusedVariables false
set_option maxRecDepth 100000
theorem at_ex (b : List Int) (i : Nat) (h : b.length ≤ 1048576) (hb : bytesOk b) (hi : i ≤ 1000) : ∃ a : Nat, a < 256 ∧ Sat Try.prog 15 [lBys b, lInt i] [lInt a] [g1, g1] := by
  by_cases c1 : i < b.length
  · have hz := hb _ (mem_getD 0 c1)
    have wz : IntKind.i64.wrap (b.getD i 0) = (((b.getD i 0).toNat : Nat) : Int) := by rw [IntWalk.i64_in _ (by omega)]; omega
    refine ⟨(b.getD i 0).toNat, by omega, ?_⟩
    refine sat_of_body mixed Try.func15 rfl (by kernel_rfl) (by kernel_rfl) (rs := [.tmp 4]) rfl rfl rfl ?_
    simp -implicitDefEqProofs (maxSteps := 2000000) only [go_sem, c1, wz]
    first | done | rfl | exact ⟨rfl, rfl⟩ | exact ⟨rfl, rfl, rfl⟩ | (refine tr_and ?_ ?_ <;> first | rfl | exact ⟨rfl, rfl⟩ | kernel_rfl)
  · have w1 : IntKind.i64.wrap ((i : Int) * 37) = ((i * 37 : Nat) : Int) := by rw [IntWalk.i64_in _ (by omega)]; omega
    have w2 : IntKind.i64.wrap ((b.length : Int) * 11) = ((b.length * 11 : Nat) : Int) := by rw [IntWalk.i64_in _ (by omega)]; omega
    have w3 : IntKind.i64.wrap (((i * 37 : Nat) : Int) + ((b.length * 11 : Nat) : Int)) = ((i * 37 + b.length * 11 : Nat) : Int) := by rw [IntWalk.i64_in _ (by omega)]; omega
    have w4 : Int.tmod (((i * 37 + b.length * 11 : Nat) : Nat) : Int) 256 = (((i * 37 + b.length * 11) % 256 : Nat) : Int) := by rw [Int.tmod_eq_emod_of_nonneg (by omega)]; omega
    refine ⟨(i * 37 + b.length * 11) % 256, by omega, ?_⟩
    refine sat_of_body mixed Try.func15 rfl (by kernel_rfl) (by kernel_rfl) (rs := [.tmp 4]) rfl rfl rfl ?_
    simp -implicitDefEqProofs (maxSteps := 2000000) only [go_sem, c1, w1, w2, w3, w4]
    decide
end Go.Proofs.Ytahjpaicfppkoaa.A


/- THE WALK OF THE LAW FnKeyConflictRepairs. Conditions: none. -/
namespace Go.Proofs.Ytahjpaicfppkoaa.A
open Go
set_option linter.unusedSimpArgs false
set_option linter.unusedVariables false
set_option maxRecDepth 100000
theorem bigK_sat (b : List Int) (h : b.length ≤ 9223372036854775807) : Sat Try.prog 7 [lBys b] [lBool (decide ((b.length : Int) > 1048576))] [g1] := by
  refine sat_of_body mixed Try.func7 rfl (by kernel_rfl) (by kernel_rfl) (rs := [.tmp 2]) rfl rfl rfl ?_
  simp -implicitDefEqProofs (maxSteps := 2000000) only [go_sem]
set_option maxHeartbeats 8000000 in
/-- THE LAW FnKeyConflictRepairs. -/
theorem lawKeyConflictRepairs_sat (b : List Int) (h : b.length ≤ 9223372036854775807) (hb : bytesOk b) : Sat Try.prog 4 [lBys b] [lBool true] [g1] := by
  refine sat_of_body mixed Try.func4 rfl (by kernel_rfl) (by kernel_rfl) (rs := [.tmp 2]) rfl rfl rfl ?_
  simp -implicitDefEqProofs (maxSteps := 2000000) only [go_sem]
  refine call_of (bigK_sat b h) (by simp -implicitDefEqProofs (maxSteps := 2000000) only [go_sem]) (by kernel_rfl) (by simp -implicitDefEqProofs (maxSteps := 2000000) only [go_sem]) ?_
  simp -implicitDefEqProofs (maxSteps := 2000000) only [go_sem]
  refine cond_split (fun e0 => ?_) fun e0 => ?_
  · simp -implicitDefEqProofs (maxSteps := 2000000) only [go_sem]
  have o0 : b.length ≤ 1048576 := by have := of_decide_eq_false e0; omega
  simp -implicitDefEqProofs (maxSteps := 2000000) only [go_sem]
  obtain ⟨d, hd, s0⟩ := drawKC_ex b o0
  have hok := hd.ok (m := 13) (by decide)
  have hf := hok.fit
  have hkl := keysOf_len d
  refine call_of (s0) (by simp -implicitDefEqProofs (maxSteps := 2000000) only [go_sem]) (by kernel_rfl) (by simp -implicitDefEqProofs (maxSteps := 2000000) only [go_sem]) ?_
  simp -implicitDefEqProofs (maxSteps := 2000000) only [go_sem]
  refine call_of (implKeyConflicts_sat d hf) (by simp -implicitDefEqProofs (maxSteps := 2000000) only [go_sem]) (callOk_still (by kernel_rfl) (by simp only [List.all_cons, List.all_nil, LV.still, LV.leaves, Leaf.still, ints_still, ris_still, eds_still, rels_still, iss_still, ems_still, Bool.and_self, Bool.and_true])) (by simp -implicitDefEqProofs (maxSteps := 2000000) only [go_sem]) ?_
  simp -implicitDefEqProofs (maxSteps := 2000000) only [go_sem]
  rcases g : goodDb d
  · have e : keysOf d = [] := by rw [keysOf, g]; rfl
    rw [e]
    refine call_of (specIsValidDatabase_sat d hf) (by simp -implicitDefEqProofs (maxSteps := 2000000) only [go_sem, g]) (by kernel_rfl) (by simp -implicitDefEqProofs (maxSteps := 2000000) only [go_sem, g]) ?_
    simp -implicitDefEqProofs (maxSteps := 2000000) only [go_sem, g]
    first | done | rfl | exact ⟨rfl, rfl⟩ | exact ⟨rfl, rfl, rfl⟩ | (refine tr_and ?_ ?_ <;> first | rfl | exact ⟨rfl, rfl⟩ | kernel_rfl)
  refine call_of (specIsValidDatabase_sat d hf) (by simp -implicitDefEqProofs (maxSteps := 2000000) only [go_sem, g]) (by kernel_rfl) (by simp -implicitDefEqProofs (maxSteps := 2000000) only [go_sem, g]) ?_
  simp -implicitDefEqProofs (maxSteps := 2000000) only [go_sem, g]
  obtain ⟨a, ha, s1⟩ := at_ex b 0 o0 hb (by decide)
  obtain ⟨p1, p2⟩ := blocksOf_prod g
  have hcR : cntR d = prodL (blocksOf d) := by rw [cntR, if_pos g]
  have hne : ¬ ((cntR d : Nat) : Int) = 0 := by omega
  have wm : Int.tmod ((a : Nat) : Int) ((cntR d : Nat) : Int) = ((a % cntR d : Nat) : Int) := tmodN a (cntR d)
  have hlt : a % cntR d < cntR d := Nat.mod_lt _ (by omega)
  have hok2 : nthOk d ((a % cntR d : Nat) : Int) = true := by rw [nthOk, inB]; simp; omega
  have hnth : nth' d ((a % cntR d : Nat) : Int) = (pickR (blocksOf d) (a % cntR d)).1 := by rw [nth', if_pos hok2]; rfl
  have hnl : (pickR (blocksOf d) (a % cntR d)).1.length ≤ 14 := by rw [pickR_len]; exact (blocksOf_len g).1
  have r1 := rep_max g (a % cntR d)
  have r2 := rep_indep g (a % cntR d)
  have r3 := keysOf_good g
  have r4 := keys_none g
  refine call_of (s1) (by simp -implicitDefEqProofs (maxSteps := 2000000) only [go_sem] <;> and_intros <;> rfl) (by kernel_rfl) (by simp -implicitDefEqProofs (maxSteps := 2000000) only [go_sem]) ?_
  simp -implicitDefEqProofs (maxSteps := 2000000) only [go_sem]
  refine call_of (specCountRepairs_sat d hf) (by simp -implicitDefEqProofs (maxSteps := 2000000) only [go_sem, wm, hne]) (by kernel_rfl) (by simp -implicitDefEqProofs (maxSteps := 2000000) only [go_sem, wm, hne]) ?_
  simp -implicitDefEqProofs (maxSteps := 2000000) only [go_sem, wm, hne]
  refine ⟨hne, ?_⟩
  refine call_of (specNthRepair_sat d ((a % cntR d : Nat) : Int) hf) (by simp -implicitDefEqProofs (maxSteps := 2000000) only [go_sem, hnth]) (callOk_still (by kernel_rfl) (by simp only [List.all_cons, List.all_nil, LV.still, LV.leaves, Leaf.still, ints_still, ris_still, eds_still, rels_still, iss_still, ems_still, Bool.and_self, Bool.and_true])) (by simp -implicitDefEqProofs (maxSteps := 2000000) only [go_sem, hnth]) ?_
  simp -implicitDefEqProofs (maxSteps := 2000000) only [go_sem, hnth]
  first | (with_reducible refine tr_and ?_ ?_; focus kernel_rfl) | (with_reducible refine tr_only ?_; kernel_rfl) | skip
  have hE := edges_nil d
  generalize hR : (pickR (blocksOf d) (a % cntR d)).1 = R at hnl r1 r2
  generalize hEE : keysOf d = E at hkl r1 r2 r3 r4 hE
  have eN : ∀ n : Nat, (((n : Nat) : Int) != ((n : Nat) : Int)) = false := fun n => by simp
  have eP : ∀ x y : Int, (!(x == x && y == y)) = false := fun x y => by simp
  refine call_of (implConflictEdges_sat d [] hf (by simp)) (by simp -implicitDefEqProofs (maxSteps := 2000000) only [go_sem, hE, eN] <;> and_intros <;> rfl) (callOk_still (by kernel_rfl) (by simp only [List.all_cons, List.all_nil, LV.still, LV.leaves, Leaf.still, ints_still, ris_still, eds_still, rels_still, iss_still, ems_still, Bool.and_self, Bool.and_true])) (by simp -implicitDefEqProofs (maxSteps := 2000000) only [go_sem, hE, eN]) ?_
  simp -implicitDefEqProofs (maxSteps := 2000000) only [go_sem, hE, eN]
  refine awp_loop Nat (fun k => mkSt [(3, .one (.vad 1320 0)), (4, .one (.ref 960 2 0 E.length)), (5, .one (.ref 961 1 0 R.length)), (7, .one (.ref 962 2 0 E.length)), (8, .sc (.int .i64 k))] [(1320, sDb d)] [(960, (2, eds E)), (961, (1, ints R)), (962, (2, eds E))] 20000)
    (fun k => k ≤ E.length) (fun k => E.length - k) 0 (by omega) (le_st' _ _ [⟨960, some _, false, 2, _⟩, ⟨961, some _, false, 1, _⟩, ⟨962, some _, false, 2, _⟩] [] _ (by simp -implicitDefEqProofs (maxSteps := 2000000) only [go_sem] <;> and_intros <;> rfl) (by simp -implicitDefEqProofs (maxSteps := 2000000) only [go_sem] <;> and_intros <;> rfl) (by simp -implicitDefEqProofs (maxSteps := 2000000) only [go_sem] <;> and_intros <;> rfl) (by rfl)) ?_
  rintro k q1
  by_cases c1 : k < E.length
  · have wk : IntKind.i64.wrap ((k : Int) + 1) = ((k + 1 : Nat) : Int) := i64_succ (by omega)
    simp -implicitDefEqProofs (maxSteps := 2000000) only [go_sem, c1, eP]
    first | (with_reducible refine tr_and ?_ ?_; focus kernel_rfl) | (with_reducible refine tr_only ?_; kernel_rfl) | skip
    rw [wk]
    exact ⟨k + 1, c1, by omega, (le_st' _ _ [⟨960, some _, false, 2, _⟩, ⟨961, some _, false, 1, _⟩, ⟨962, some _, false, 2, _⟩] [] _ (by simp -implicitDefEqProofs (maxSteps := 2000000) only [go_sem] <;> and_intros <;> rfl) (by simp -implicitDefEqProofs (maxSteps := 2000000) only [go_sem] <;> and_intros <;> rfl) (by simp -implicitDefEqProofs (maxSteps := 2000000) only [go_sem] <;> and_intros <;> rfl) (by rfl))⟩
  · obtain rfl : k = E.length := by omega
    have e4 : ((((E.length : Nat) : Int) == 0) == cst d) = true := by rw [r4]; exact beq_self_eq_true _
    simp -implicitDefEqProofs (maxSteps := 2000000) only [go_sem, c1]
    refine call_of (implAreValidEdges_sat d.facts.length E (by omega)) (by simp -implicitDefEqProofs (maxSteps := 2000000) only [go_sem, r3]) (by kernel_rfl) (by simp -implicitDefEqProofs (maxSteps := 2000000) only [go_sem, r3]) ?_
    simp -implicitDefEqProofs (maxSteps := 2000000) only [go_sem, r3]
    refine call_of (implIsMaximalIndependent_sat d.facts.length E R (by omega) (by omega)) (by simp -implicitDefEqProofs (maxSteps := 2000000) only [go_sem, r1]) (by kernel_rfl) (by simp -implicitDefEqProofs (maxSteps := 2000000) only [go_sem, r1]) ?_
    simp -implicitDefEqProofs (maxSteps := 2000000) only [go_sem, r1]
    refine call_of (implIsIndependent_sat E R (by omega) (by omega)) (by simp -implicitDefEqProofs (maxSteps := 2000000) only [go_sem, r2]) (by kernel_rfl) (by simp -implicitDefEqProofs (maxSteps := 2000000) only [go_sem, r2]) ?_
    simp -implicitDefEqProofs (maxSteps := 2000000) only [go_sem, r2]
    refine call_of (isConsistent_sat d hf) (by simp -implicitDefEqProofs (maxSteps := 2000000) only [go_sem, e4]) (by kernel_rfl) (by simp -implicitDefEqProofs (maxSteps := 2000000) only [go_sem, e4]) ?_
    simp -implicitDefEqProofs (maxSteps := 2000000) only [go_sem, e4]
    trace_state
    first | done | rfl | exact ⟨rfl, rfl⟩ | exact ⟨rfl, rfl, rfl⟩ | (refine tr_and ?_ ?_ <;> first | rfl | exact ⟨rfl, rfl⟩ | kernel_rfl)
end Go.Proofs.Ytahjpaicfppkoaa.A


/- BYTES READ, with their range. Conditions: none. -/
namespace Go.Proofs.Ytahjpaicfppkoaa.A
open Go
set_option linter.unusedVariables false
theorem trod_u8 {H : Type} {enc : TypeId × Value → H} {P : Program} {W : World} {t : TypeId} (ht : P.underlying t = some (.int .u8)) {n : Nat} {cs : List Value} {x : DataW H × List MemPlace} (h : DataW.trod enc P W 0 (fun _ => true) true n t cs = some x) : ∃ z, cs = [.int .u8 z] ∧ (Lit.int .u8 z).wf = true := by
  obtain ⟨z, rfl⟩ := trod_int ht h
  refine ⟨z, rfl, ?_⟩
  cases n with
  | zero => simp [DataW.trod] at h
  | succ n =>
    unfold DataW.trod at h
    rw [ht] at h
    simp only [true_and] at h
    split at h
    · assumption
    · cases h
theorem readsC_byteR {H : Type} {enc : TypeId × Value → H} {P : Program} {W : World} {t : TypeId} (ht : P.underlying t = some (.int .u8)) : ReadsC enc P W t cBy (fun z => 0 ≤ z ∧ z ≤ 255) := by
  intro n cs x h
  obtain ⟨z, rfl, hz⟩ := trod_u8 ht h
  refine ⟨z, ?_, ⟨rfl, rfl⟩, trivial⟩
  simp only [Lit.wf, Bool.and_eq_true, decide_eq_true_eq] at hz
  have e1 : IntKind.u8.min = 0 := by decide
  have e2 : IntKind.u8.max = 255 := by decide
  rw [e1, e2] at hz
  exact hz
end Go.Proofs.Ytahjpaicfppkoaa.A


/- THE LAW FnKeyConflictRepairs: for every input it returns true, and the input reads as it did. Conditions: none. -/
namespace Go.Proofs.Ytahjpaicfppkoaa.lawKeyConflictRepairs
open Go.ChangeShapes Go.WideShapes Go.ChangeAt Go.RowKit
open Go.Proofs.Ytahjpaicfppkoaa.A
set_option linter.unusedVariables false
theorem own : ownKnob Try.prog.godebug = none := by kernel_rfl
theorem laid : laidOutB Try.prog = true := by kernel_rfl
theorem rowed : mapsRowed Try.prog = true := by kernel_rfl
theorem full : ((List.range Try.prog.types.size).all fun t => match Try.prog.underlying t with | some (.slice e) => decide (0 < Try.prog.cellsOf e) | _ => true) = true := by kernel_rfl
set_option maxRecDepth 100000 in
theorem lifted (os : Os) (started : os.Started) (H : Type) (enc : TypeId × Value → H) :
    ReturnsInHanded {} Try.checked os 4 .any (Rows.fnKeyConflictRepairsSpec.pre6 enc Try.prog Try.f4 Rows.fnKeyConflictRepairsRow.domain false) (Rows.fnKeyConflictRepairsSpec.post enc Try.prog Try.f4 false true false false) := by
  refine returnsInHanded_of_change_sized (C := Try.checked) own started (by kernel_rfl) Try.func4
    (ChangeSpec.witness6 (enc := enc) (C := Try.checked) false ⟨#[], #[.slice none 0 0], []⟩ 8 (by kernel_rfl) (by kernel_rfl) (by kernel_rfl) (by kernel_rfl)) ?_
  intro W base args ds gs before hval hW _ _ _
  obtain ⟨p, q, hA, hV, hpq, _⟩ := id hW
  rw [Try.params4] at hA hval
  obtain ⟨v0, vs0, d0, ds0, p0, q0, e0, rfl, rfl, h0, r0⟩ := trodAll_cons hA
  obtain ⟨rfl, rfl, rfl⟩ := trodAll_nil r0
  obtain ⟨rfl, _⟩ := trodVars_none hV
  obtain rfl : args = #[v0] := by cases args; simp_all
  have rB := readsC_byteR (enc := enc) (W := W) und5
  have lBs := readsL_rows (w := 1) rB und22 (by kernel_rfl) (by omega) (fun _ => rfl) bys (fun _ => rfl)
  obtain ⟨a0, g0, l0⟩ := arg_one lBs (okWide_slice_ne und22 (hval 0 _ v0 rfl rfl)) h0
  exact law_calls laid rowed full Try.func4 rfl (by kernel_rfl) rfl rfl (by kernel_rfl) rfl und4 hW (lawKeyConflictRepairs_sat a0 g0.1 g0.2) ⟨l0 _, trivial⟩ rfl rfl rfl
theorem over : Rows.fnKeyConflictRepairsRow.holds Try.pinned (OpenSpec.ofChange Rows.fnKeyConflictRepairsSpec) :=
  OpenClaim.holds_of_wide 4 Try.f4 rfl rfl rfl rfl rfl rfl rfl ⟨rfl, rfl, rfl, rfl, rfl⟩ rfl rfl rfl rfl rfl (by kernel_rfl) Try.func4 (by kernel_rfl)
    (of_decide_eq_true (by kernel_rfl)) (by unfold Func.isWrapper; first | (rw [if_pos (by decide +kernel)]; kernel_rfl) | (rw [if_neg (by decide +kernel)]; exact ⟨rfl, rfl⟩))
    (fun os started H enc _ => lifted os started H enc)
end Go.Proofs.Ytahjpaicfppkoaa.lawKeyConflictRepairs
namespace Go.Proofs.Ytahjpaicfppkoaa
/-- The row, under a short name, for the claim. -/
theorem fnKeyConflictRepairs_holds : Rows.FnKeyConflictRepairsSaid := lawKeyConflictRepairs.over
#print axioms fnKeyConflictRepairs_holds
end Go.Proofs.Ytahjpaicfppkoaa
