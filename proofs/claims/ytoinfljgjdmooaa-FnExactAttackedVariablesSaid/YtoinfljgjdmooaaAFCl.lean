
/- CLOSURES: the plain law. Conditions: none. (No program in sight but the names.) -/
import Derived.Test.YtoinfljgjdmooaaAFQ2
namespace Go.Proofs.Ytoinfljgjdmooaa.A
open Go
set_option linter.unusedSimpArgs false
set_option linter.unusedVariables false

/-- Are all numbers of a list in another. -/
def subAt (a b : List Int) (i : Nat) : Bool := decide (a.getD i 0 ∈ b)
def subs (a b : List Int) : Bool := upTo (subAt a b) a.length
theorem upTo_true {p : Nat → Bool} : ∀ {n : Nat}, (∀ k, k < n → p k = true) → upTo p n = true
  | 0, _ => rfl
  | n + 1, h => upTo_step (upTo_true fun k hk => h k (by omega)) (h n (by omega))
theorem subs_iff {a b : List Int} : subs a b = true ↔ ∀ x ∈ a, x ∈ b := by
  constructor
  · intro h x hx
    obtain ⟨i, hi, rfl⟩ := List.mem_iff_getElem.mp hx
    have h1 := upTo_at h hi
    unfold subAt at h1
    rw [List.getD_eq_getElem?_getD, List.getElem?_eq_getElem hi] at h1
    exact of_decide_eq_true h1
  · intro h
    exact upTo_true fun k hk => decide_eq_true (h _ (mem_getD 0 hk))
/-- One atom's dependency, applied to a set. -/
def fire (l : List Rel) (ats : List RI) (skip : Int) (c : List Int) (i : Nat) : List Int :=
  if ((i : Int) != skip) && subs (keyVars l (ats.getD i default)) c then uni c (varsOf (ats.getD i default).l) else c
/-- The first k atoms' dependencies, one after another. -/
def passA (l : List Rel) (ats : List RI) (skip : Int) (c : List Int) : Nat → List Int
  | 0 => c
  | k + 1 => fire l ats skip (passA l ats skip c k) k
structure Small (c : List Int) : Prop where
  strict : Strict c
  small : ∀ x ∈ c, 0 ≤ x ∧ x < 4
theorem Small.uni {c v : List Int} (h : Small c) (hv : ∀ x ∈ v, 0 ≤ x ∧ x < 4) : Small (uni c v) :=
  ⟨uni_strict _ _, fun x hx => ((uni_mem _ _ _).mp hx).elim (h.small x) (hv x)⟩
theorem varsOf_small (l : List Int) : ∀ x ∈ varsOf l, 0 ≤ x ∧ x < 4 := fun x hx => by
  have := (selN_mem _ _ _).mp hx
  omega
theorem Small.selN {p : Int → Bool} : Small (selN p 4) := ⟨selN_strict _ _, fun x hx => by have := (selN_mem _ _ _).mp hx; omega⟩
theorem Small.eq_selN {c : List Int} (h : Small c) : c = A.selN (fun v => decide (v ∈ c)) 4 := by
  refine strict_eq h.strict (selN_strict _ _) fun x => ?_
  rw [selN_mem]
  exact ⟨fun hx => ⟨(h.small x hx).1, (h.small x hx).2, decide_eq_true hx⟩, fun hx => of_decide_eq_true hx.2.2⟩
theorem Small.len {c : List Int} (h : Small c) : c.length ≤ 4 := by
  rw [h.eq_selN]; exact selN_len _ 4
theorem strict_sub_len : ∀ {a b : List Int}, Strict a → Strict b → (∀ x ∈ a, x ∈ b) → a.length ≤ b.length ∧ (a.length = b.length → a = b)
  | [], b, _, _, _ => ⟨by simp, fun h => by cases b <;> simp at h ⊢⟩
  | x :: a, [], _, _, h => absurd (h x (by simp)) (by simp)
  | x :: a, y :: b, ha, hb, h => by
    obtain ⟨ha1, ha2⟩ := List.pairwise_cons.mp ha
    obtain ⟨hb1, hb2⟩ := List.pairwise_cons.mp hb
    rcases List.mem_cons.mp (h x (by simp)) with e | e
    · subst e
      have h1 := strict_sub_len ha2 hb2 fun z hz => by
        rcases List.mem_cons.mp (h z (List.mem_cons_of_mem _ hz)) with e | e
        · have := ha1 z hz; omega
        · exact e
      exact ⟨by simp only [List.length_cons]; omega, fun hl => by rw [h1.2 (by simpa using hl)]⟩
    · have h1 := strict_sub_len (a := x :: a) ha hb2 fun z hz => by
        rcases List.mem_cons.mp hz with rfl | hz'
        · exact e
        · rcases List.mem_cons.mp (h z hz) with e' | e'
          · have := ha1 z hz'; have := hb1 x e; omega
          · exact e'
      exact ⟨by have := h1.1; simp only [List.length_cons] at this ⊢; omega, fun hl => by have := h1.1; simp only [List.length_cons] at this hl; omega⟩
theorem fire_sub {l : List Rel} {ats : List RI} {skip : Int} {c : List Int} {i : Nat} : ∀ x ∈ c, x ∈ fire l ats skip c i := by
  intro x hx
  unfold fire
  split
  · exact (uni_mem _ _ _).mpr (.inl hx)
  · exact hx
theorem fire_small {l : List Rel} {ats : List RI} {skip : Int} {c : List Int} {i : Nat} (h : Small c) : Small (fire l ats skip c i) := by
  unfold fire
  split
  · exact h.uni (varsOf_small _)
  · exact h
theorem passA_sub {l : List Rel} {ats : List RI} {skip : Int} {c : List Int} : ∀ {k : Nat}, ∀ x ∈ c, x ∈ passA l ats skip c k
  | 0, x, hx => hx
  | k + 1, x, hx => fire_sub x (passA_sub (k := k) x hx)
theorem passA_small {l : List Rel} {ats : List RI} {skip : Int} {c : List Int} (h : Small c) : ∀ {k : Nat}, Small (passA l ats skip c k)
  | 0 => h
  | k + 1 => fire_small (passA_small h (k := k))
theorem uni_same {c v : List Int} (h : Strict c) (hv : ∀ x ∈ v, x ∈ c) : uni c v = c :=
  strict_eq (uni_strict _ _) h fun x => by rw [uni_mem]; exact ⟨fun h => h.elim id (hv x), .inl⟩
/-- A passA that changes a set takes in an atom's variables. -/
theorem passA_new {l : List Rel} {ats : List RI} {skip : Int} {c : List Int} (h : Small c) : ∀ (k : Nat), passA l ats skip c k = c ∨ ∃ i, i < k ∧ subs (varsOf (ats.getD i default).l) c = false ∧ subs (varsOf (ats.getD i default).l) (passA l ats skip c k) = true
  | 0 => .inl rfl
  | k + 1 => by
    have ih := passA_new (l := l) (ats := ats) (skip := skip) h k
    have hmono : ∀ i, subs (varsOf (ats.getD i default).l) (passA l ats skip c k) = true → subs (varsOf (ats.getD i default).l) (passA l ats skip c (k + 1)) = true :=
      fun i hi => subs_iff.mpr fun x hx => fire_sub x (subs_iff.mp hi x hx)
    rcases ih with ih | ⟨i, hi, h1, h2⟩
    · rw [passA, ih]
      unfold fire
      split
      · rcases hs : subs (varsOf (ats.getD k default).l) c
        · exact .inr ⟨k, by omega, hs, subs_iff.mpr fun x hx => (uni_mem _ _ _).mpr (.inr hx)⟩
        · exact .inl (uni_same h.strict (subs_iff.mp hs))
      · exact .inl rfl
    · exact .inr ⟨i, by omega, h1, hmono i h2⟩
def took (ats : List RI) (c : List Int) (n : Nat) : List Nat := (List.range n).filter fun i => subs (varsOf (ats.getD i default).l) c
theorem took_le (ats : List RI) (c : List Int) (n : Nat) : (took ats c n).length ≤ n := by
  unfold took; exact Nat.le_trans (List.length_filter_le _ _) (by rw [List.length_range]; exact Nat.le_refl _)
theorem filter_lt {α : Type} {p p' : α → Bool} : ∀ {l : List α}, (∀ x ∈ l, p x = true → p' x = true) → (∃ x ∈ l, p x = false ∧ p' x = true) → (l.filter p).length < (l.filter p').length
  | [], _, ⟨x, hx, _⟩ => absurd hx (by simp)
  | a :: l, h, ⟨x, hx, h1, h2⟩ => by
    have hle : ∀ {l : List α}, (∀ x ∈ l, p x = true → p' x = true) → (l.filter p).length ≤ (l.filter p').length := by
      intro l
      induction l with
      | nil => intro _; simp
      | cons b l ih =>
        intro h
        have ih := ih fun x hx => h x (List.mem_cons_of_mem _ hx)
        rcases hb : p b
        · rw [List.filter_cons_of_neg (by simp [hb])]
          rcases hb' : p' b
          · rw [List.filter_cons_of_neg (by simp [hb'])]; exact ih
          · rw [List.filter_cons_of_pos hb']; simp only [List.length_cons]; omega
        · rw [List.filter_cons_of_pos hb, List.filter_cons_of_pos (h b (by simp) hb)]; simp only [List.length_cons]; omega
    rcases List.mem_cons.mp hx with rfl | hx
    · rw [List.filter_cons_of_neg (by simp [h1]), List.filter_cons_of_pos h2]
      have := hle (l := l) fun y hy => h y (List.mem_cons_of_mem _ hy)
      simp only [List.length_cons]; omega
    · have ih := filter_lt (p := p) (p' := p') (l := l) (fun y hy => h y (List.mem_cons_of_mem _ hy)) ⟨x, hx, h1, h2⟩
      rcases hb : p a
      · rw [List.filter_cons_of_neg (by simp [hb])]
        rcases hb' : p' a
        · rw [List.filter_cons_of_neg (by simp [hb'])]; exact ih
        · rw [List.filter_cons_of_pos hb']; simp only [List.length_cons]; omega
      · rw [List.filter_cons_of_pos hb, List.filter_cons_of_pos (h a (by simp) hb)]; simp only [List.length_cons]; omega
theorem took_lt {l : List Rel} {ats : List RI} {skip : Int} {c : List Int} {n : Nat} (h : Small c) (hne : passA l ats skip c n ≠ c) : (took ats c n).length < (took ats (passA l ats skip c n) n).length := by
  rcases passA_new (l := l) (ats := ats) (skip := skip) h n with e | ⟨i, hi, h1, h2⟩
  · exact absurd e hne
  · exact filter_lt (fun x _ hx => subs_iff.mpr fun y hy => passA_sub y (subs_iff.mp hx y hy)) ⟨i, List.mem_range.mpr hi, h1, h2⟩
/-- So many passes. -/
def iter (l : List Rel) (ats : List RI) (skip : Int) (n : Nat) (c : List Int) : Nat → List Int
  | 0 => c
  | m + 1 => passA l ats skip (iter l ats skip n c m) n
theorem iter_small {l : List Rel} {ats : List RI} {skip : Int} {n : Nat} {c : List Int} (h : Small c) : ∀ {m : Nat}, Small (iter l ats skip n c m)
  | 0 => h
  | m + 1 => passA_small (iter_small h (m := m))
theorem iter_took {l : List Rel} {ats : List RI} {skip : Int} {n : Nat} {c : List Int} (h : Small c) : ∀ m : Nat, (∃ j, j ≤ m ∧ iter l ats skip n c (j + 1) = iter l ats skip n c j) ∨ m < (took ats (iter l ats skip n c (m + 1)) n).length
  | 0 => by
    by_cases e : iter l ats skip n c 1 = iter l ats skip n c 0
    · exact .inl ⟨0, by omega, e⟩
    · have := took_lt (l := l) (ats := ats) (skip := skip) (n := n) (iter_small h (m := 0)) e
      refine .inr ?_
      show 0 < (took ats (passA l ats skip (iter l ats skip n c 0) n) n).length
      omega
  | m + 1 => by
    rcases iter_took h m with ⟨j, hj, e⟩ | ht
    · exact .inl ⟨j, by omega, e⟩
    · by_cases e : iter l ats skip n c (m + 2) = iter l ats skip n c (m + 1)
      · exact .inl ⟨m + 1, by omega, e⟩
      · have := took_lt (l := l) (ats := ats) (skip := skip) (n := n) (iter_small h (m := m + 1)) e
        refine .inr ?_
        show m + 1 < (took ats (passA l ats skip (iter l ats skip n c (m + 1)) n) n).length
        omega
theorem iter_stays {l : List Rel} {ats : List RI} {skip : Int} {n : Nat} {c : List Int} {j : Nat} (e : iter l ats skip n c (j + 1) = iter l ats skip n c j) : ∀ d : Nat, iter l ats skip n c (j + d) = iter l ats skip n c j
  | 0 => rfl
  | d + 1 => by
    have ih := iter_stays e d
    show passA l ats skip (iter l ats skip n c (j + d)) n = _
    rw [ih]
    exact e
/-- Where a passA changes nothing, as many passes as there are atoms lead there too. -/
theorem iter_done {l : List Rel} {ats : List RI} {skip : Int} {n : Nat} {c : List Int} (h : Small c) {j : Nat} (e : iter l ats skip n c (j + 1) = iter l ats skip n c j) : iter l ats skip n c j = iter l ats skip n c n := by
  rcases iter_took (l := l) (ats := ats) (skip := skip) (n := n) h n with ⟨i, hi, e'⟩ | ht
  · have h1 := iter_stays e' (n - i)
    rw [show i + (n - i) = n by omega] at h1
    rw [h1]
    by_cases hij : i ≤ j
    · have h2 := iter_stays e' (j - i)
      rw [show i + (j - i) = j by omega] at h2
      exact h2
    · have h2 := iter_stays e (i - j)
      rw [show j + (i - j) = i by omega] at h2
      exact h2.symm
  · have := took_le ats (iter l ats skip n c (n + 1)) n
    omega
end Go.Proofs.Ytoinfljgjdmooaa.A
