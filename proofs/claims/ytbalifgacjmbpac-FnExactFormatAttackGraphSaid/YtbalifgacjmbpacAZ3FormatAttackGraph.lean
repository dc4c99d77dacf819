/- Packed by pack.py: FAG FE WFormatAttackGraph LFormatAttackGraph -/
import Derived.Test.YtbalifgacjmbpacAZ2FormatAttackGraph
import Derived.WideShapes
import Derived.Test.YtbalifgacjmbpacAZ1FormatAttackGraph
import Derived.Test.YtbalifgacjmbpacRows

/- THE TEXT OF AN ATTACK GRAPH. Conditions: none. -/
namespace Go.Proofs.Ytbalifgacjmbpac.A
open Go
set_option linter.unusedSimpArgs false
set_option linter.unusedVariables false
set_option maxRecDepth 100000

/-! #### texts joined -/
abbrev noB : ByteArray := ⟨#[]⟩
abbrev spB : ByteArray := ⟨#[32]⟩
theorem bytes_eq {a b : ByteArray} (h : a.data.toList = b.data.toList) : a = b := Go.WideShapes.bytes_inj h
theorem app_data (a b : ByteArray) : (a ++ b).data.toList = a.data.toList ++ b.data.toList := by
  rw [ByteArray.data_append, Array.toList_append]
theorem size_data (a : ByteArray) : a.size = a.data.toList.length := (Array.length_toList ..).symm
theorem app_size (a b : ByteArray) : (a ++ b).size = a.size + b.size := by rw [size_data, size_data, size_data, app_data, List.length_append]
theorem joinB_data (xs : List ByteArray) (sep : ByteArray) : (joinB xs sep).data.toList = Lib.join (xs.map (·.data.toList)) sep.data.toList := by simp [joinB]
theorem joinB_nil (sep : ByteArray) : joinB [] sep = noB := bytes_eq (by rw [joinB_data]; rfl)
theorem joinB_one (x sep : ByteArray) : joinB [x] sep = x := bytes_eq (by rw [joinB_data, List.map_cons, List.map_nil, Lib.join_one])
theorem joinB_snoc {xs : List ByteArray} (h : xs ≠ []) (y sep : ByteArray) : joinB (xs ++ [y]) sep = joinB xs sep ++ sep ++ y := by
  obtain ⟨x, r, rfl⟩ := List.exists_cons_of_ne_nil h
  apply bytes_eq
  rw [app_data, app_data, joinB_data, joinB_data, List.cons_append, List.map_cons, List.map_cons, Lib.join_cons, Lib.join_cons]
  simp [Lib.joinTail, List.append_assoc]
theorem joinB_size (sep : ByteArray) (m : Nat) : ∀ (xs : List ByteArray), (∀ x ∈ xs, x.size ≤ m) → (joinB xs sep).size ≤ xs.length * (m + sep.size) := by
  intro xs h
  rcases xs with _ | ⟨x, r⟩
  · rw [joinB_nil]; exact Nat.zero_le _
  have hr : ∀ r : List ByteArray, (∀ x ∈ r, x.size ≤ m) → (Lib.joinTail sep.data.toList (r.map (·.data.toList))).length ≤ r.length * (m + sep.size) := by
    intro r
    induction r with
    | nil => intro _; simp [Lib.joinTail]
    | cons y r ih =>
      intro h
      have h1 := ih fun x hx => h x (List.mem_cons_of_mem _ hx)
      have h2 := h y (List.mem_cons_self ..)
      have e : Lib.joinTail sep.data.toList ((y :: r).map (·.data.toList)) = sep.data.toList ++ y.data.toList ++ Lib.joinTail sep.data.toList (r.map (·.data.toList)) := by simp [Lib.joinTail]
      rw [e, List.length_append, List.length_append, ← size_data, ← size_data, List.length_cons, Nat.add_mul, Nat.one_mul]
      omega
  have h1 := hr r fun x hx => h x (List.mem_cons_of_mem _ hx)
  have h2 := h x (List.mem_cons_self ..)
  rw [size_data, joinB_data, List.map_cons, Lib.join_cons, List.length_append, ← size_data, List.length_cons, Nat.add_mul, Nat.one_mul]
  omega
theorem noB_ne {a : ByteArray} (h : 0 < a.size) : a ≠ noB := by
  rintro rfl
  exact absurd h (by decide)

/-! #### the edges, as texts -/
def signOf (w : Bool) : ByteArray := if w then ⟨#[62]⟩ else ⟨#[62, 62]⟩
def nameR (l : List Rel) (a : RI) : ByteArray := (l.getD a.r.toNat default).name
def edgeS (l : List Rel) (q : Qu) (i k : Nat) : ByteArray := nameR l (q.atoms.getD i default) ++ signOf (weakA l q i k) ++ nameR l (q.atoms.getD k default)
def eS (l : List Rel) (q : Qu) (i k : Nat) : List ByteArray := if hasA l q i k then [edgeS l q i k] else []
def rowS (l : List Rel) (q : Qu) (i : Nat) : Nat → List ByteArray
  | 0 => []
  | k + 1 => rowS l q i k ++ eS l q i k
def allS (l : List Rel) (q : Qu) (n : Nat) : Nat → List ByteArray
  | 0 => []
  | i + 1 => allS l q n i ++ rowS l q i n
def agStr (l : List Rel) (q : Qu) : ByteArray := if goodQu l q then joinB (allS l q q.atoms.length q.atoms.length) spB else noB
theorem eS_no {l : List Rel} {q : Qu} {i k : Nat} (h : hasA l q i k = false) : eS l q i k = [] := by rw [eS, h]; rfl
theorem eS_yes {l : List Rel} {q : Qu} {i k : Nat} (h : hasA l q i k = true) : eS l q i k = [edgeS l q i k] := by rw [eS, h]; rfl
theorem good_rel {l : List Rel} {q : Qu} (h : goodQu l q = true) {i : Nat} (hi : i < q.atoms.length) : ∃ n : Nat, (q.atoms.getD i default).r = n ∧ n < l.length ∧ (l.getD n default).name.size = 1 := by
  have h1 := goodQu_at h hi
  unfold goodQu goodRels at h
  unfold atomOk relAt at h1
  simp only [Bool.and_eq_true] at h h1
  have h2 := inB_of h1.1.1
  refine ⟨(q.atoms.getD i default).r.toNat, by omega, by omega, ?_⟩
  have h3 := upTo_at h.1.1 (show (q.atoms.getD i default).r.toNat < l.length by omega)
  unfold relOk goodRel at h3
  simp only [Bool.and_eq_true, beq_iff_eq] at h3
  have := h3.1.1
  omega
theorem signOf_size (w : Bool) : 1 ≤ (signOf w).size ∧ (signOf w).size ≤ 2 := by cases w <;> exact ⟨by decide, by decide⟩
theorem edgeS_size {l : List Rel} {q : Qu} (h : goodQu l q = true) {i k : Nat} (hi : i < q.atoms.length) (hk : k < q.atoms.length) : 3 ≤ (edgeS l q i k).size ∧ (edgeS l q i k).size ≤ 4 := by
  obtain ⟨n, e1, _, e2⟩ := good_rel h hi
  obtain ⟨m, f1, _, f2⟩ := good_rel h hk
  have := signOf_size (weakA l q i k)
  have a1 : (nameR l (q.atoms.getD i default)).size = 1 := by rw [nameR, e1, Int.toNat_natCast, e2]
  have a2 : (nameR l (q.atoms.getD k default)).size = 1 := by rw [nameR, f1, Int.toNat_natCast, f2]
  rw [edgeS, app_size, app_size, a1, a2]
  omega
theorem eS_mem {l : List Rel} {q : Qu} (h : goodQu l q = true) {i k : Nat} (hi : i < q.atoms.length) (hk : k < q.atoms.length) : ∀ x ∈ eS l q i k, 3 ≤ x.size ∧ x.size ≤ 4 := by
  intro x hx
  unfold eS at hx
  split at hx
  · obtain rfl := List.mem_singleton.mp hx
    exact edgeS_size h hi hk
  · cases hx
theorem rowS_mem {l : List Rel} {q : Qu} (h : goodQu l q = true) {i : Nat} (hi : i < q.atoms.length) : ∀ {k : Nat}, k ≤ q.atoms.length → ∀ x ∈ rowS l q i k, 3 ≤ x.size ∧ x.size ≤ 4
  | 0, _, x, hx => by cases hx
  | k + 1, hk, x, hx => by
    rw [rowS] at hx
    rcases List.mem_append.mp hx with hx | hx
    · exact rowS_mem h hi (show k ≤ q.atoms.length by omega) x hx
    · exact eS_mem h hi (by omega) x hx
theorem allS_mem {l : List Rel} {q : Qu} (h : goodQu l q = true) : ∀ {i : Nat}, i ≤ q.atoms.length → ∀ x ∈ allS l q q.atoms.length i, 3 ≤ x.size ∧ x.size ≤ 4
  | 0, _, x, hx => by cases hx
  | i + 1, hi, x, hx => by
    rw [allS] at hx
    rcases List.mem_append.mp hx with hx | hx
    · exact allS_mem h (show i ≤ q.atoms.length by omega) x hx
    · exact rowS_mem h (by omega) (Nat.le_refl _) x hx
theorem rowS_len (l : List Rel) (q : Qu) (i : Nat) : ∀ k, (rowS l q i k).length ≤ k
  | 0 => Nat.le_refl _
  | k + 1 => by
    have := rowS_len l q i k
    rw [rowS, List.length_append, eS]
    split <;> simp <;> omega
theorem allS_len (l : List Rel) (q : Qu) (n : Nat) : ∀ i, (allS l q n i).length ≤ i * n
  | 0 => by simp [allS]
  | i + 1 => by
    have h1 := allS_len l q n i
    have h2 := rowS_len l q i n
    rw [allS, List.length_append, Nat.add_mul, Nat.one_mul]; omega
theorem joined_size {xs : List ByteArray} (h : ∀ x ∈ xs, 3 ≤ x.size ∧ x.size ≤ 4) : (joinB xs spB).size ≤ xs.length * 5 := joinB_size spB 4 xs fun x hx => (h x hx).2
theorem joined_no {xs : List ByteArray} (h : ∀ x ∈ xs, 3 ≤ x.size ∧ x.size ≤ 4) : decide (joinB xs spB = noB) = decide (xs = []) := by
  rcases xs with _ | ⟨x, r⟩
  · rw [joinB_nil]; simp
  · rw [decide_eq_false (by simp : ¬ x :: r = []), decide_eq_false_iff_not]
    apply noB_ne
    have h1 := (h x (List.mem_cons_self ..)).1
    rw [size_data, joinB_data, List.map_cons, Lib.join_cons, List.length_append, ← size_data]
    omega
theorem grow_one {xs : List ByteArray} (h : xs = []) (n s m : ByteArray) : joinB (xs ++ [n ++ s ++ m]) spB = joinB xs spB ++ n ++ s ++ m := by
  subst h
  rw [List.nil_append, joinB_one, joinB_nil]
  apply bytes_eq
  simp [app_data]
theorem grow_more {xs : List ByteArray} (h : xs ≠ []) (n s m : ByteArray) : joinB (xs ++ [n ++ s ++ m]) spB = joinB xs spB ++ spB ++ n ++ s ++ m := by
  rw [joinB_snoc h]
  apply bytes_eq
  simp [app_data]

theorem implFormatAttackGraph_sat (l : List Rel) (q : Qu) (hl : l.length ≤ 9223372036854775807) (hq : q.ok) : Sat Try.prog 9 [lRels l, lQu q] [lStr (agStr l q)] [g1, g3] := by
  refine sat_of_body mixed Try.func9 rfl (by kernel_rfl) (by kernel_rfl) (rs := [.tmp 4]) rfl rfl rfl ?_
  unfold agStr
  rcases g : goodQu l q
  · rw [if_neg (by simp)]
    simp -implicitDefEqProofs (maxSteps := 2000000) only [go_sem]
    refine call_of (implIsValidQuery_sat l q hl hq) (by simp -implicitDefEqProofs (maxSteps := 2000000) only [go_sem, g]) (by kernel_rfl) (by simp -implicitDefEqProofs (maxSteps := 2000000) only [go_sem, g]) ?_
    simp -implicitDefEqProofs (maxSteps := 2000000) only [go_sem, g]
    first | done | rfl | exact ⟨rfl, rfl⟩ | exact ⟨rfl, rfl, rfl⟩ | (refine tr_and ?_ ?_ <;> first | rfl | exact ⟨rfl, rfl⟩ | kernel_rfl)
  rw [if_pos rfl]
  obtain ⟨hv, hn1, hn⟩ := goodQu_parts g
  simp -implicitDefEqProofs (maxSteps := 2000000) only [go_sem]
  refine call_of (implIsValidQuery_sat l q hl hq) (by simp -implicitDefEqProofs (maxSteps := 2000000) only [go_sem, g]) (by kernel_rfl) (by simp -implicitDefEqProofs (maxSteps := 2000000) only [go_sem, g]) ?_
  simp -implicitDefEqProofs (maxSteps := 2000000) only [go_sem, g]
  generalize hN : q.atoms.length = N at hn1 hn ⊢
  refine awp_loop Nat (fun i => mkSt [(0, .one (.im 3 (rels l))), (3, .one (.vad 1000 0)), (5, .one (.ref 960 1 0 (allS l q N i).length)), (17, .one (.im 2 (ris 0 q.atoms))), (18, .sc (.int .i64 N)), (19, .sc (.int .i64 i))] [(1000, sQu q)] [(960, (1, sts (allS l q N i)))] 6000)
    (fun i => i ≤ N) (fun i => N - i) 0 (by omega) (le_st' _ _ [⟨960, some _, false, 1, _⟩] [] _ (by simp -implicitDefEqProofs (maxSteps := 2000000) only [go_sem, allS, List.length_nil, sts_nil] <;> and_intros <;> rfl) (by simp -implicitDefEqProofs (maxSteps := 2000000) only [go_sem, allS, List.length_nil, sts_nil] <;> and_intros <;> rfl) (by simp -implicitDefEqProofs (maxSteps := 2000000) only [go_sem, allS, List.length_nil, sts_nil] <;> and_intros <;> rfl) (by rfl)) ?_
  rintro i h1
  have hal := allS_len l q N i
  have hal' : i * N ≤ 3 * 3 := Nat.mul_le_mul (by omega) hn
  by_cases c1 : i < N
  · have wi : IntKind.i64.wrap ((i : Int) + 1) = ((i + 1 : Nat) : Int) := i64_succ (by omega)
    have ci : i < q.atoms.length := by omega
    obtain ⟨n, en, cn, sn⟩ := good_rel g ci
    simp -implicitDefEqProofs (maxSteps := 2000000) only [go_sem, c1, ci, hN]
    refine awp_loop Nat (fun k => mkSt [(0, .one (.im 3 (rels l))), (3, .one (.vad 1000 0)), (5, .one (.ref 960 1 0 (allS l q N i ++ rowS l q i k).length)), (6, .sc (.int .i64 i)), (7, .one (.vad 6256 0)), (17, .one (.im 2 (ris 0 q.atoms))), (18, .sc (.int .i64 N)), (19, .sc (.int .i64 i)), (25, .one (.im 2 (ris 0 q.atoms))), (26, .sc (.int .i64 N)), (27, .sc (.int .i64 k))] [(1000, sQu q), (6256, sRI (q.atoms.getD i default))] [(960, (1, sts (allS l q N i ++ rowS l q i k)))] 9000)
      (fun k => k ≤ N) (fun k => N - k) 0 (by omega) (le_st' _ _ [⟨960, some _, false, 1, _⟩] [] _ (by simp -implicitDefEqProofs (maxSteps := 2000000) only [go_sem, rowS, List.append_nil] <;> and_intros <;> rfl) (by simp -implicitDefEqProofs (maxSteps := 2000000) only [go_sem, rowS, List.append_nil] <;> and_intros <;> rfl) (by simp -implicitDefEqProofs (maxSteps := 2000000) only [go_sem, rowS, List.append_nil] <;> and_intros <;> rfl) (by rfl)) ?_
    rintro k h2
    have hrl := rowS_len l q i k
    have hlen : (allS l q N i ++ rowS l q i k).length ≤ 12 := by rw [List.length_append]; omega
    by_cases c2 : k < N
    · have wk : IntKind.i64.wrap ((k : Int) + 1) = ((k + 1 : Nat) : Int) := i64_succ (by omega)
      have ck : k < q.atoms.length := by omega
      obtain ⟨m, em, cm, sm⟩ := good_rel g ck
      rcases hA : hasA l q i k
      · simp -implicitDefEqProofs (maxSteps := 2000000) only [go_sem, c2, ck]
        refine call_of (implHasAttack_sat l q i k hl hq) (by simp -implicitDefEqProofs (maxSteps := 2000000) only [go_sem, hA]) (by kernel_rfl) (by simp -implicitDefEqProofs (maxSteps := 2000000) only [go_sem, hA]) ?_
        simp -implicitDefEqProofs (maxSteps := 2000000) only [go_sem, hA]
        rw [wk]
        exact ⟨k + 1, c2, by omega, (le_st' _ _ [⟨960, some _, false, 1, _⟩] [] _ (by simp -implicitDefEqProofs (maxSteps := 2000000) only [go_sem, rowS, eS_no hA, List.append_nil] <;> and_intros <;> rfl) (by simp -implicitDefEqProofs (maxSteps := 2000000) only [go_sem, rowS, eS_no hA, List.append_nil] <;> and_intros <;> rfl) (by simp -implicitDefEqProofs (maxSteps := 2000000) only [go_sem, rowS, eS_no hA, List.append_nil] <;> and_intros <;> rfl) (by rfl))⟩
      have hst : allS l q N i ++ rowS l q i (k + 1) = allS l q N i ++ rowS l q i k ++ [edgeS l q i k] := by rw [rowS, eS_yes hA, List.append_assoc]
      have hed : edgeS l q i k = (l.getD n default).name ++ signOf (weakA l q i k) ++ (l.getD m default).name := by rw [edgeS, nameR, nameR, en, em]; rfl
      have hss := signOf_size (weakA l q i k)
      have hr1 : (rowS l q i (k + 1)).length = (rowS l q i k).length + 1 := by rw [rowS, eS_yes hA, List.length_append]; rfl
      rw [hed] at hst
      rcases hW : weakA l q i k
      · have s1 : ((l.getD n default).name ++ (⟨#[62, 62]⟩ : ByteArray)).size = 3 := by rw [app_size, sn]; rfl
        simp -implicitDefEqProofs (maxSteps := 2000000) only [go_sem, c2, ck]
        refine call_of (implHasAttack_sat l q i k hl hq) (by simp -implicitDefEqProofs (maxSteps := 2000000) only [go_sem, hA]) (by kernel_rfl) (by simp -implicitDefEqProofs (maxSteps := 2000000) only [go_sem, hA]) ?_
        simp -implicitDefEqProofs (maxSteps := 2000000) only [go_sem, hA]
        refine call_of (implIsWeakAttack_sat l q i k hl hq) (by simp -implicitDefEqProofs (maxSteps := 2000000) only [go_sem, hW, en, em, cn, cm, sn, sm, s1]) (by kernel_rfl) (by simp -implicitDefEqProofs (maxSteps := 2000000) only [go_sem, hW, en, em, cn, cm, sn, sm, s1]) ?_
        simp -implicitDefEqProofs (maxSteps := 2000000) only [go_sem, hW, en, em, cn, cm, sn, sm, s1]
        refine ⟨by omega, tr_and (by kernel_rfl) ?_⟩
        rw [wk]
        refine ⟨k + 1, c2, by omega, ?_⟩
        rw [show allS l q N i ++ rowS l q i (k + 1) = allS l q N i ++ rowS l q i k ++ [(l.getD n default).name ++ (⟨#[62, 62]⟩ : ByteArray) ++ (l.getD m default).name] by rw [hst, hW]; rfl]
        exact (le_st' _ _ [⟨960, some _, false, 1, _⟩] [] _ (by simp -implicitDefEqProofs (maxSteps := 2000000) only [go_sem, hr1] <;> and_intros <;> rfl) (by simp -implicitDefEqProofs (maxSteps := 2000000) only [go_sem, hr1] <;> and_intros <;> rfl) (by simp -implicitDefEqProofs (maxSteps := 2000000) only [go_sem, hr1] <;> and_intros <;> rfl) (by rfl))
      · have s1 : ((l.getD n default).name ++ (⟨#[62]⟩ : ByteArray)).size = 2 := by rw [app_size, sn]; rfl
        simp -implicitDefEqProofs (maxSteps := 2000000) only [go_sem, c2, ck]
        refine call_of (implHasAttack_sat l q i k hl hq) (by simp -implicitDefEqProofs (maxSteps := 2000000) only [go_sem, hA]) (by kernel_rfl) (by simp -implicitDefEqProofs (maxSteps := 2000000) only [go_sem, hA]) ?_
        simp -implicitDefEqProofs (maxSteps := 2000000) only [go_sem, hA]
        refine call_of (implIsWeakAttack_sat l q i k hl hq) (by simp -implicitDefEqProofs (maxSteps := 2000000) only [go_sem, hW, en, em, cn, cm, sn, sm, s1]) (by kernel_rfl) (by simp -implicitDefEqProofs (maxSteps := 2000000) only [go_sem, hW, en, em, cn, cm, sn, sm, s1]) ?_
        simp -implicitDefEqProofs (maxSteps := 2000000) only [go_sem, hW, en, em, cn, cm, sn, sm, s1]
        refine ⟨by omega, tr_and (by kernel_rfl) ?_⟩
        rw [wk]
        refine ⟨k + 1, c2, by omega, ?_⟩
        rw [show allS l q N i ++ rowS l q i (k + 1) = allS l q N i ++ rowS l q i k ++ [(l.getD n default).name ++ (⟨#[62]⟩ : ByteArray) ++ (l.getD m default).name] by rw [hst, hW]; rfl]
        exact (le_st' _ _ [⟨960, some _, false, 1, _⟩] [] _ (by simp -implicitDefEqProofs (maxSteps := 2000000) only [go_sem, hr1] <;> and_intros <;> rfl) (by simp -implicitDefEqProofs (maxSteps := 2000000) only [go_sem, hr1] <;> and_intros <;> rfl) (by simp -implicitDefEqProofs (maxSteps := 2000000) only [go_sem, hr1] <;> and_intros <;> rfl) (by rfl))
    · obtain rfl : k = N := by omega
      simp -implicitDefEqProofs (maxSteps := 2000000) only [go_sem, c2]
      rw [wi]
      exact ⟨i + 1, c1, by omega, (le_st' _ _ [⟨960, some _, false, 1, _⟩] [] _ (by simp -implicitDefEqProofs (maxSteps := 2000000) only [go_sem, allS] <;> and_intros <;> rfl) (by simp -implicitDefEqProofs (maxSteps := 2000000) only [go_sem, allS] <;> and_intros <;> rfl) (by simp -implicitDefEqProofs (maxSteps := 2000000) only [go_sem, allS] <;> and_intros <;> rfl) (by rfl))⟩
  · obtain rfl : i = N := by omega
    have hmm := allS_mem g (i := q.atoms.length) (Nat.le_refl _)
    rw [hN] at hmm
    have hjs := joined_size hmm
    simp -implicitDefEqProofs (maxSteps := 2000000) only [go_sem, c1]
    refine call_of (stringsJoin_sat (allS l q i i) spB (by omega) (by omega)) (by simp -implicitDefEqProofs (maxSteps := 2000000) only [go_sem]) (by kernel_rfl) (by simp -implicitDefEqProofs (maxSteps := 2000000) only [go_sem]) ?_
    simp -implicitDefEqProofs (maxSteps := 2000000) only [go_sem]
    first | done | rfl | exact ⟨rfl, rfl⟩ | exact ⟨rfl, rfl, rfl⟩ | (refine tr_and ?_ ?_ <;> first | rfl | exact ⟨rfl, rfl⟩ | kernel_rfl)
theorem specFormatAttackGraph_sat (l : List Rel) (q : Qu) (hl : l.length ≤ 9223372036854775807) (hq : q.fit) : Sat Try.prog 6 [lRels l, lQu q] [lStr (agStr l q)] [g1, g3] := by
  refine sat_of_body mixed Try.func6 rfl (by kernel_rfl) (by kernel_rfl) (rs := [.tmp 4]) rfl rfl rfl ?_
  have hqb : q.atoms.length ≤ 9223372036854775807 := hq.1.1
  simp -implicitDefEqProofs (maxSteps := 2000000) only [go_sem]
  refine awp_loop Nat (fun i => mkSt [(0, .one (.im 3 (rels l))), (3, .one (.vad 1000 0)), (5, .sc (.string (joinB (allS l q q.atoms.length i) spB))), (6, .sc (.int .i64 i))] [(1000, sQu q)] [] 2000)
    (fun i => i ≤ q.atoms.length ∧ (goodQu l q = false → i = 0)) (fun i => q.atoms.length - i) 0 ⟨by omega, fun _ => rfl⟩ (le_st _ _ [] [] _ rfl (by simp -implicitDefEqProofs (maxSteps := 2000000) only [go_sem, allS, joinB_nil] <;> rfl) (by simp -implicitDefEqProofs (maxSteps := 2000000) only [go_sem, allS, joinB_nil] <;> rfl) (by simp -implicitDefEqProofs (maxSteps := 2000000) only [go_sem, allS, joinB_nil] <;> rfl)) ?_
  rintro i ⟨h1, h0⟩
  rcases g : goodQu l q
  · obtain rfl := h0 g
    rw [show allS l q q.atoms.length 0 = [] from rfl, joinB_nil]
    unfold agStr
    rw [g, if_neg (by simp)]
    rcases c1 : decide ((0 : Int) < ((q.atoms.length : Nat) : Int))
    · simp -implicitDefEqProofs (maxSteps := 2000000) only [go_sem, c1]
      first | done | rfl | exact ⟨rfl, rfl⟩ | exact ⟨rfl, rfl, rfl⟩ | (refine tr_and ?_ ?_ <;> first | rfl | exact ⟨rfl, rfl⟩ | kernel_rfl)
    · simp -implicitDefEqProofs (maxSteps := 2000000) only [go_sem, c1]
      refine call_of (specIsValidQuery_sat l q hl hq) (by simp -implicitDefEqProofs (maxSteps := 2000000) only [go_sem, g]) (by kernel_rfl) (by simp -implicitDefEqProofs (maxSteps := 2000000) only [go_sem, g]) ?_
      simp -implicitDefEqProofs (maxSteps := 2000000) only [go_sem, g]
      first | done | rfl | exact ⟨rfl, rfl⟩ | exact ⟨rfl, rfl, rfl⟩ | (refine tr_and ?_ ?_ <;> first | rfl | exact ⟨rfl, rfl⟩ | kernel_rfl)
  obtain ⟨hv, hn1, hn⟩ := goodQu_parts g
  have hal := allS_len l q q.atoms.length i
  have hal' : i * q.atoms.length ≤ 3 * 3 := Nat.mul_le_mul (by omega) hn
  have hmm := allS_mem g (i := i) h1
  have hjs := joined_size hmm
  by_cases c1 : i < q.atoms.length
  · have wi : IntKind.i64.wrap ((i : Int) + 1) = ((i + 1 : Nat) : Int) := i64_succ (by omega)
    obtain ⟨n, en, cn, sn⟩ := good_rel g c1
    simp -implicitDefEqProofs (maxSteps := 2000000) only [go_sem, c1]
    refine call_of (specIsValidQuery_sat l q hl hq) (by simp -implicitDefEqProofs (maxSteps := 2000000) only [go_sem, g]) (by kernel_rfl) (by simp -implicitDefEqProofs (maxSteps := 2000000) only [go_sem, g]) ?_
    simp -implicitDefEqProofs (maxSteps := 2000000) only [go_sem, g]
    refine awp_loop Nat (fun k => mkSt [(0, .one (.im 3 (rels l))), (3, .one (.vad 1000 0)), (5, .sc (.string (joinB (allS l q q.atoms.length i ++ rowS l q i k) spB))), (6, .sc (.int .i64 i)), (7, .sc (.int .i64 k))] [(1000, sQu q)] [] 9000)
      (fun k => k ≤ q.atoms.length) (fun k => q.atoms.length - k) 0 (by omega) (le_st _ _ [] [] _ rfl (by simp -implicitDefEqProofs (maxSteps := 2000000) only [go_sem, rowS, List.append_nil] <;> rfl) (by simp -implicitDefEqProofs (maxSteps := 2000000) only [go_sem, rowS, List.append_nil] <;> rfl) (by simp -implicitDefEqProofs (maxSteps := 2000000) only [go_sem, rowS, List.append_nil] <;> rfl)) ?_
    rintro k h2
    have hrl := rowS_len l q i k
    have hlen : (allS l q q.atoms.length i ++ rowS l q i k).length ≤ 12 := by rw [List.length_append]; omega
    have hmx : ∀ x ∈ allS l q q.atoms.length i ++ rowS l q i k, 3 ≤ x.size ∧ x.size ≤ 4 := fun x hx => by
      rcases List.mem_append.mp hx with hx | hx
      · exact hmm x hx
      · exact rowS_mem g c1 h2 x hx
    have hjx := joined_size hmx
    have hno := joined_no hmx
    by_cases c2 : k < q.atoms.length
    · have wk : IntKind.i64.wrap ((k : Int) + 1) = ((k + 1 : Nat) : Int) := i64_succ (by omega)
      obtain ⟨m, em, cm, sm⟩ := good_rel g c2
      rcases hA : hasA l q i k
      · simp -implicitDefEqProofs (maxSteps := 2000000) only [go_sem, c2]
        refine call_of (specHasAttack_sat l q i k hl hq) (by simp -implicitDefEqProofs (maxSteps := 2000000) only [go_sem, hA]) (by kernel_rfl) (by simp -implicitDefEqProofs (maxSteps := 2000000) only [go_sem, hA]) ?_
        simp -implicitDefEqProofs (maxSteps := 2000000) only [go_sem, hA]
        rw [wk]
        exact ⟨k + 1, c2, by omega, (le_st _ _ [] [] _ rfl (by simp -implicitDefEqProofs (maxSteps := 2000000) only [go_sem, rowS, eS_no hA, List.append_nil] <;> rfl) (by simp -implicitDefEqProofs (maxSteps := 2000000) only [go_sem, rowS, eS_no hA, List.append_nil] <;> rfl) (by simp -implicitDefEqProofs (maxSteps := 2000000) only [go_sem, rowS, eS_no hA, List.append_nil] <;> rfl))⟩
      have hed : edgeS l q i k = (l.getD n default).name ++ signOf (weakA l q i k) ++ (l.getD m default).name := by rw [edgeS, nameR, nameR, en, em]; rfl
      have hst : allS l q q.atoms.length i ++ rowS l q i (k + 1) = allS l q q.atoms.length i ++ rowS l q i k ++ [(l.getD n default).name ++ signOf (weakA l q i k) ++ (l.getD m default).name] := by rw [rowS, eS_yes hA, hed, List.append_assoc]
      generalize hX : allS l q q.atoms.length i ++ rowS l q i k = X at hlen hmx hjx hno hst ⊢
      rcases hW : weakA l q i k
      · rw [hW] at hst
        by_cases hx : X = []
        · have hz : decide (joinB X spB = noB) = true := by rw [hno, decide_eq_true hx]
          have hg := grow_one hx (l.getD n default).name (signOf false) (l.getD m default).name
          simp -implicitDefEqProofs (maxSteps := 2000000) only [go_sem, c2]
          refine call_of (specHasAttack_sat l q i k hl hq) (by simp -implicitDefEqProofs (maxSteps := 2000000) only [go_sem, hA, hz, str_beq]) (by kernel_rfl) (by simp -implicitDefEqProofs (maxSteps := 2000000) only [go_sem, hA, hz, str_beq]) ?_
          simp -implicitDefEqProofs (maxSteps := 2000000) only [go_sem, hA, hz, str_beq]
          refine call_of (specIsWeakAttack_sat l q i k hl hq) (by simp -implicitDefEqProofs (maxSteps := 2000000) only [go_sem, hW, en, em, cn, cm, sn, sm, c1, c2, app_size]) (by kernel_rfl) (by simp -implicitDefEqProofs (maxSteps := 2000000) only [go_sem, hW, en, em, cn, cm, sn, sm, c1, c2, app_size]) ?_
          simp -implicitDefEqProofs (maxSteps := 2000000) only [go_sem, hW, en, em, cn, cm, sn, sm, c1, c2, app_size]
          refine ⟨by omega, by omega, by omega, ?_⟩
          rw [wk]
          exact ⟨k + 1, c2, by omega, (le_st _ _ [] [] _ rfl (by simp -implicitDefEqProofs (maxSteps := 2000000) only [go_sem, hst, hg] <;> rfl) (by simp -implicitDefEqProofs (maxSteps := 2000000) only [go_sem, hst, hg] <;> rfl) (by simp -implicitDefEqProofs (maxSteps := 2000000) only [go_sem, hst, hg] <;> rfl))⟩
        · have hz : decide (joinB X spB = noB) = false := by rw [hno, decide_eq_false hx]
          have hg := grow_more hx (l.getD n default).name (signOf false) (l.getD m default).name
          simp -implicitDefEqProofs (maxSteps := 2000000) only [go_sem, c2]
          refine call_of (specHasAttack_sat l q i k hl hq) (by simp -implicitDefEqProofs (maxSteps := 2000000) only [go_sem, hA, hz, str_beq]) (by kernel_rfl) (by simp -implicitDefEqProofs (maxSteps := 2000000) only [go_sem, hA, hz, str_beq]) ?_
          simp -implicitDefEqProofs (maxSteps := 2000000) only [go_sem, hA, hz, str_beq]
          refine ⟨by omega, ?_⟩
          refine call_of (specIsWeakAttack_sat l q i k hl hq) (by simp -implicitDefEqProofs (maxSteps := 2000000) only [go_sem, hW, en, em, cn, cm, sn, sm, c1, c2, app_size]) (by kernel_rfl) (by simp -implicitDefEqProofs (maxSteps := 2000000) only [go_sem, hW, en, em, cn, cm, sn, sm, c1, c2, app_size]) ?_
          simp -implicitDefEqProofs (maxSteps := 2000000) only [go_sem, hW, en, em, cn, cm, sn, sm, c1, c2, app_size]
          refine ⟨by omega, by omega, by omega, ?_⟩
          rw [wk]
          exact ⟨k + 1, c2, by omega, (le_st _ _ [] [] _ rfl (by simp -implicitDefEqProofs (maxSteps := 2000000) only [go_sem, hst, hg] <;> rfl) (by simp -implicitDefEqProofs (maxSteps := 2000000) only [go_sem, hst, hg] <;> rfl) (by simp -implicitDefEqProofs (maxSteps := 2000000) only [go_sem, hst, hg] <;> rfl))⟩
      · rw [hW] at hst
        by_cases hx : X = []
        · have hz : decide (joinB X spB = noB) = true := by rw [hno, decide_eq_true hx]
          have hg := grow_one hx (l.getD n default).name (signOf true) (l.getD m default).name
          simp -implicitDefEqProofs (maxSteps := 2000000) only [go_sem, c2]
          refine call_of (specHasAttack_sat l q i k hl hq) (by simp -implicitDefEqProofs (maxSteps := 2000000) only [go_sem, hA, hz, str_beq]) (by kernel_rfl) (by simp -implicitDefEqProofs (maxSteps := 2000000) only [go_sem, hA, hz, str_beq]) ?_
          simp -implicitDefEqProofs (maxSteps := 2000000) only [go_sem, hA, hz, str_beq]
          refine call_of (specIsWeakAttack_sat l q i k hl hq) (by simp -implicitDefEqProofs (maxSteps := 2000000) only [go_sem, hW, en, em, cn, cm, sn, sm, c1, c2, app_size]) (by kernel_rfl) (by simp -implicitDefEqProofs (maxSteps := 2000000) only [go_sem, hW, en, em, cn, cm, sn, sm, c1, c2, app_size]) ?_
          simp -implicitDefEqProofs (maxSteps := 2000000) only [go_sem, hW, en, em, cn, cm, sn, sm, c1, c2, app_size]
          refine ⟨by omega, by omega, by omega, ?_⟩
          rw [wk]
          exact ⟨k + 1, c2, by omega, (le_st _ _ [] [] _ rfl (by simp -implicitDefEqProofs (maxSteps := 2000000) only [go_sem, hst, hg] <;> rfl) (by simp -implicitDefEqProofs (maxSteps := 2000000) only [go_sem, hst, hg] <;> rfl) (by simp -implicitDefEqProofs (maxSteps := 2000000) only [go_sem, hst, hg] <;> rfl))⟩
        · have hz : decide (joinB X spB = noB) = false := by rw [hno, decide_eq_false hx]
          have hg := grow_more hx (l.getD n default).name (signOf true) (l.getD m default).name
          simp -implicitDefEqProofs (maxSteps := 2000000) only [go_sem, c2]
          refine call_of (specHasAttack_sat l q i k hl hq) (by simp -implicitDefEqProofs (maxSteps := 2000000) only [go_sem, hA, hz, str_beq]) (by kernel_rfl) (by simp -implicitDefEqProofs (maxSteps := 2000000) only [go_sem, hA, hz, str_beq]) ?_
          simp -implicitDefEqProofs (maxSteps := 2000000) only [go_sem, hA, hz, str_beq]
          refine ⟨by omega, ?_⟩
          refine call_of (specIsWeakAttack_sat l q i k hl hq) (by simp -implicitDefEqProofs (maxSteps := 2000000) only [go_sem, hW, en, em, cn, cm, sn, sm, c1, c2, app_size]) (by kernel_rfl) (by simp -implicitDefEqProofs (maxSteps := 2000000) only [go_sem, hW, en, em, cn, cm, sn, sm, c1, c2, app_size]) ?_
          simp -implicitDefEqProofs (maxSteps := 2000000) only [go_sem, hW, en, em, cn, cm, sn, sm, c1, c2, app_size]
          refine ⟨by omega, by omega, by omega, ?_⟩
          rw [wk]
          exact ⟨k + 1, c2, by omega, (le_st _ _ [] [] _ rfl (by simp -implicitDefEqProofs (maxSteps := 2000000) only [go_sem, hst, hg] <;> rfl) (by simp -implicitDefEqProofs (maxSteps := 2000000) only [go_sem, hst, hg] <;> rfl) (by simp -implicitDefEqProofs (maxSteps := 2000000) only [go_sem, hst, hg] <;> rfl))⟩
    · obtain rfl : k = q.atoms.length := by omega
      simp -implicitDefEqProofs (maxSteps := 2000000) only [go_sem, c2]
      rw [wi]
      exact ⟨i + 1, ⟨c1, fun e => by cases e⟩, by omega, (le_st _ _ [] [] _ rfl (by simp -implicitDefEqProofs (maxSteps := 2000000) only [go_sem, allS] <;> rfl) (by simp -implicitDefEqProofs (maxSteps := 2000000) only [go_sem, allS] <;> rfl) (by simp -implicitDefEqProofs (maxSteps := 2000000) only [go_sem, allS] <;> rfl))⟩
  · obtain rfl : i = q.atoms.length := by omega
    unfold agStr
    rw [g, if_pos rfl]
    simp -implicitDefEqProofs (maxSteps := 2000000) only [go_sem, c1]
    first | done | rfl | exact ⟨rfl, rfl⟩ | exact ⟨rfl, rfl, rfl⟩ | (refine tr_and ?_ ?_ <;> first | rfl | exact ⟨rfl, rfl⟩ | kernel_rfl)
end Go.Proofs.Ytbalifgacjmbpac.A


/- CONFLICT EDGES: size, copy, comparison, marks; marks of databases. Conditions: none. -/
namespace Go.Proofs.Ytbalifgacjmbpac.A
open Go
set_option linter.unusedSimpArgs false
set_option linter.unusedVariables false
set_option maxRecDepth 100000

def szEds (a : List Edge) (n : Int) : Int := if n - a.length < 0 then -1 else n - a.length
theorem szEds_ok : SzOk szEds (fun a => a.length ≤ 1048576) := by
  intro a n h
  unfold szEds
  split
  · exact ⟨by omega, fun h => absurd (by omega) h⟩
  · exact ⟨by omega, fun h => by omega⟩
def cntE : Int → Nat → List Edge
  | _, 0 => []
  | k, n + 1 => ⟨k, k + 1⟩ :: cntE (k + 2) n
theorem cntE_length : ∀ (k : Int) (n : Nat), (cntE k n).length = n
  | _, 0 => rfl
  | k, n + 1 => by rw [cntE, List.length_cons, cntE_length]
theorem cntE_get : ∀ {k : Int} {n i : Nat}, i < n → (cntE k n).getD i default = ⟨k + ((2 * i : Nat) : Int), k + ((2 * i : Nat) : Int) + 1⟩
  | k, n + 1, 0, _ => by simp [cntE]
  | k, n + 1, i + 1, h => by
    rw [cntE, List.getD_cons_succ, cntE_get (by omega), show k + 2 + ((2 * i : Nat) : Int) = k + ((2 * (i + 1) : Nat) : Int) by omega]
theorem cntE_full (k : Int) (n : Nat) : List.take n (cntE k n) = cntE k n := List.take_of_length_le (by rw [cntE_length]; omega)
attribute [go_sem] cntE_full
def numDb (d : Db) : Nat := 3 * d.rels.length + numRI d.facts
theorem numDb_ok {d : Db} (h : d.ok) : numDb d ≤ 1048577 * 1048577 + 3 * 1048576 := by
  have h1 := numRI_ok h.2.2
  have h2 := h.1.1
  have h3 := h.2.1
  unfold numDb
  have : d.facts.length * 1048577 ≤ 1048576 * 1048577 := Nat.mul_le_mul_right _ h3
  omega
end Go.Proofs.Ytbalifgacjmbpac.A


/- THE WALK OF THE LAW OF FormatAttackGraph. Conditions: none. -/
namespace Go.Proofs.Ytbalifgacjmbpac.A
open Go
set_option linter.unusedSimpArgs false
set_option linter.unusedVariables false
set_option maxRecDepth 100000
set_option maxHeartbeats 8000000 in
/-- THE LAW OF FormatAttackGraph. -/
theorem lawFormatAttackGraph_sat (a0 : List Rel) (a1 : Qu) (h0 : a0.length ≤ 9223372036854775807 ∧ ∀ x ∈ a0, x.fit) (h1 : a1.fit) : Sat Try.prog 3 [lRels a0, lQu a1] [lBool true] [g1, g3] := by
  refine sat_of_body mixed Try.func3 rfl (by kernel_rfl) (by kernel_rfl) (rs := [.tmp 4]) rfl rfl rfl ?_
  simp -implicitDefEqProofs (maxSteps := 2000000) only [go_sem]
  have z0 := szAll_ok szRel_ok a0 1048576 (by omega)
  refine call_of (szRelationS_sat a0 1048576 (by omega) h0.1 h0.2) (by simp -implicitDefEqProofs (maxSteps := 2000000) only [go_sem]) (by kernel_rfl) (by simp -implicitDefEqProofs (maxSteps := 2000000) only [go_sem]) ?_
  simp -implicitDefEqProofs (maxSteps := 2000000) only [go_sem]
  first | (with_reducible refine tr_and ?_ ?_; focus kernel_rfl) | (with_reducible refine tr_only ?_; kernel_rfl) | skip
  refine cond_split (fun c0 => ?_) fun c0 => ?_
  · simp -implicitDefEqProofs (maxSteps := 2000000) only [go_sem]
  have o0 := z0.2 (of_decide_eq_false c0)
  simp -implicitDefEqProofs (maxSteps := 2000000) only [go_sem]
  have n0 := o0.1
  have z1 := szQu_ok a1 (szAll szRel a0 1048576) z0.1
  refine call_of (szQuery_sat a1 (szAll szRel a0 1048576) z0.1 h1) (by simp -implicitDefEqProofs (maxSteps := 2000000) only [go_sem]) (by kernel_rfl) (by simp -implicitDefEqProofs (maxSteps := 2000000) only [go_sem]) ?_
  simp -implicitDefEqProofs (maxSteps := 2000000) only [go_sem]
  first | (with_reducible refine tr_and ?_ ?_; focus kernel_rfl) | (with_reducible refine tr_only ?_; kernel_rfl) | skip
  refine cond_split (fun c1 => ?_) fun c1 => ?_
  · simp -implicitDefEqProofs (maxSteps := 2000000) only [go_sem]
  have o1 := z1.2 (of_decide_eq_false c1)
  simp -implicitDefEqProofs (maxSteps := 2000000) only [go_sem]
  have n1 := numQu_ok o1
  refine call_of (toRelationS_sat a0 o0.1) (by simp -implicitDefEqProofs (maxSteps := 2000000) only [go_sem]) (by kernel_rfl) (by simp -implicitDefEqProofs (maxSteps := 2000000) only [go_sem]) ?_
  simp -implicitDefEqProofs (maxSteps := 2000000) only [go_sem]
  first | (with_reducible refine tr_and ?_ ?_; focus kernel_rfl) | (with_reducible refine tr_only ?_; kernel_rfl) | skip
  refine call_of (toQuery_sat a1 o1) (by simp -implicitDefEqProofs (maxSteps := 2000000) only [go_sem]) (by kernel_rfl) (by simp -implicitDefEqProofs (maxSteps := 2000000) only [go_sem]) ?_
  simp -implicitDefEqProofs (maxSteps := 2000000) only [go_sem]
  first | (with_reducible refine tr_and ?_ ?_; focus kernel_rfl) | (with_reducible refine tr_only ?_; kernel_rfl) | skip
  refine call_of (specFormatAttackGraph_sat a0 a1 h0.1 h1) (by simp -implicitDefEqProofs (maxSteps := 2000000) only [go_sem]) (by kernel_rfl) (by simp -implicitDefEqProofs (maxSteps := 2000000) only [go_sem]) ?_
  simp -implicitDefEqProofs (maxSteps := 2000000) only [go_sem]
  first | (with_reducible refine tr_and ?_ ?_; focus kernel_rfl) | (with_reducible refine tr_only ?_; kernel_rfl) | skip
  refine call_of (toRelationS_sat a0 o0.1) (by simp -implicitDefEqProofs (maxSteps := 2000000) only [go_sem]) (by kernel_rfl) (by simp -implicitDefEqProofs (maxSteps := 2000000) only [go_sem]) ?_
  simp -implicitDefEqProofs (maxSteps := 2000000) only [go_sem]
  first | (with_reducible refine tr_and ?_ ?_; focus kernel_rfl) | (with_reducible refine tr_only ?_; kernel_rfl) | skip
  refine call_of (toQuery_sat a1 o1) (by simp -implicitDefEqProofs (maxSteps := 2000000) only [go_sem]) (by kernel_rfl) (by simp -implicitDefEqProofs (maxSteps := 2000000) only [go_sem]) ?_
  simp -implicitDefEqProofs (maxSteps := 2000000) only [go_sem]
  first | (with_reducible refine tr_and ?_ ?_; focus kernel_rfl) | (with_reducible refine tr_only ?_; kernel_rfl) | skip
  refine call_of (implFormatAttackGraph_sat a0 a1 h0.1 o1) (by simp -implicitDefEqProofs (maxSteps := 2000000) only [go_sem]) (by kernel_rfl) (by simp -implicitDefEqProofs (maxSteps := 2000000) only [go_sem]) ?_
  simp -implicitDefEqProofs (maxSteps := 2000000) only [go_sem]
  first | (with_reducible refine tr_and ?_ ?_; focus kernel_rfl) | (with_reducible refine tr_only ?_; kernel_rfl) | skip
  refine call_of (toRelationS_sat a0 o0.1) (by simp -implicitDefEqProofs (maxSteps := 2000000) only [go_sem]) (by kernel_rfl) (by simp -implicitDefEqProofs (maxSteps := 2000000) only [go_sem]) ?_
  simp -implicitDefEqProofs (maxSteps := 2000000) only [go_sem]
  first | (with_reducible refine tr_and ?_ ?_; focus kernel_rfl) | (with_reducible refine tr_only ?_; kernel_rfl) | skip
  refine call_of (eqRelationS_sat a0 a0 h0.1) (by simp -implicitDefEqProofs (maxSteps := 2000000) only [go_sem]) (by kernel_rfl) (by simp -implicitDefEqProofs (maxSteps := 2000000) only [go_sem]) ?_
  simp -implicitDefEqProofs (maxSteps := 2000000) only [go_sem]
  first | (with_reducible refine tr_and ?_ ?_; focus kernel_rfl) | (with_reducible refine tr_only ?_; kernel_rfl) | skip
  refine call_of (toQuery_sat a1 o1) (by simp -implicitDefEqProofs (maxSteps := 2000000) only [go_sem]) (by kernel_rfl) (by simp -implicitDefEqProofs (maxSteps := 2000000) only [go_sem]) ?_
  simp -implicitDefEqProofs (maxSteps := 2000000) only [go_sem]
  first | (with_reducible refine tr_and ?_ ?_; focus kernel_rfl) | (with_reducible refine tr_only ?_; kernel_rfl) | skip
  refine call_of (eqQuery_sat a1 a1 h1) (by simp -implicitDefEqProofs (maxSteps := 2000000) only [go_sem]) (by kernel_rfl) (by simp -implicitDefEqProofs (maxSteps := 2000000) only [go_sem]) ?_
  simp -implicitDefEqProofs (maxSteps := 2000000) only [go_sem]
  first | (with_reducible refine tr_and ?_ ?_; focus kernel_rfl) | (with_reducible refine tr_only ?_; kernel_rfl) | skip
end Go.Proofs.Ytbalifgacjmbpac.A


/- THE LAW FnExactFormatAttackGraph: for every input it returns true, and the input reads as it did. Conditions: none. -/
namespace Go.Proofs.Ytbalifgacjmbpac.lawFormatAttackGraph
open Go.ChangeShapes Go.WideShapes Go.ChangeAt Go.RowKit
open Go.Proofs.Ytbalifgacjmbpac.A
set_option linter.unusedVariables false
theorem own : ownKnob Try.prog.godebug = none := by kernel_rfl
theorem laid : laidOutB Try.prog = true := by kernel_rfl
theorem rowed : mapsRowed Try.prog = true := by kernel_rfl
theorem full : ((List.range Try.prog.types.size).all fun t => match Try.prog.underlying t with | some (.slice e) => decide (0 < Try.prog.cellsOf e) | _ => true) = true := by kernel_rfl
set_option maxRecDepth 100000 in
theorem lifted (os : Os) (started : os.Started) (H : Type) (enc : TypeId × Value → H) :
    ReturnsInHanded {} Try.checked os 3 .any (Rows.fnExactFormatAttackGraphSpec.pre6 enc Try.prog Try.f3 Rows.fnExactFormatAttackGraphRow.domain false) (Rows.fnExactFormatAttackGraphSpec.post enc Try.prog Try.f3 false true false false) := by
  refine returnsInHanded_of_change_sized (C := Try.checked) own started (by kernel_rfl) Try.func3
    (ChangeSpec.witness6 (enc := enc) (C := Try.checked) false ⟨#[], #[.slice none 0 0, .agg #[.int .i64 0, .slice none 0 0, .slice none 0 0]], []⟩ 8 (by kernel_rfl) (by kernel_rfl) (by kernel_rfl) (by kernel_rfl)) ?_
  intro W base args ds gs before hval hW _ _ _
  obtain ⟨p, q, hA, hV, hpq, _⟩ := id hW
  rw [Try.params3] at hA hval
  obtain ⟨v0, vs0, d0, ds0, p0, q0, e0, rfl, rfl, h0, r0⟩ := trodAll_cons hA
  obtain ⟨v1, vs1, d1, ds1, p1, q1, e1, rfl, rfl, h1, r1⟩ := trodAll_cons r0
  subst e1
  obtain ⟨rfl, rfl, rfl⟩ := trodAll_nil r1
  obtain ⟨rfl, _⟩ := trodVars_none hV
  obtain rfl : args = #[v0, v1] := by cases args; simp_all
  have rI := readsC_int (enc := enc) (W := W) und3
  have rS := readsC_str (enc := enc) (W := W) und9
  have rR : ReadsC enc Try.prog W 41 cRel Rel.fit := readsC_map (readsC_three Try.underlying41 (by kernel_rfl) (by kernel_rfl) rS rI rI) (fun x => ⟨x.1, x.2.1, x.2.2⟩) (fun _ => rfl) (fun _ h => h.1)
  have lRs := readsL_rows (w := 3) rR und22 (by kernel_rfl) (by omega) (fun _ => rfl) rels (fun _ => rfl)
  have rIs := readsC_ints (enc := enc) (W := W) und24 (by kernel_rfl) und3
  have lIs := readsL_ints (enc := enc) (W := W) und24 (by kernel_rfl) und3
  have rA : ReadsC enc Try.prog W 58 (cRI 0) RI.fit := readsC_map (readsC_pair Try.underlying58 (by kernel_rfl) (by kernel_rfl) rI rIs) (fun x => ⟨x.1, x.2⟩) (fun _ => rfl) (fun _ h => h.2)
  have lAs := readsL_rows (w := 2) rA und23 (by kernel_rfl) (by omega) (fun _ => rfl) (ris 0) (fun _ => rfl)
  obtain ⟨a0, g0, l0⟩ := arg_one lRs (okWide_slice_ne und22 (hval 0 _ v0 rfl rfl)) h0
  obtain ⟨a1, b1, c1, -, gb1, gc1, l1⟩ := arg_three Try.underlying26 (by kernel_rfl) (by kernel_rfl) (readsL_int (enc := enc) (W := W) und3) lAs lIs (hval 1 _ v1 rfl rfl) h1
  exact law_calls laid rowed full Try.func3 rfl (by kernel_rfl) rfl rfl (by kernel_rfl) rfl und4 hW (lawFormatAttackGraph_sat a0 ⟨a1, b1, c1⟩ g0 ⟨gb1, gc1⟩) ⟨l0 _, l1 _, trivial⟩ rfl rfl rfl
theorem over : Rows.fnExactFormatAttackGraphRow.holds Try.pinned (OpenSpec.ofChange Rows.fnExactFormatAttackGraphSpec) :=
  OpenClaim.holds_of_wide 3 Try.f3 rfl rfl rfl rfl rfl rfl rfl ⟨rfl, rfl, rfl, rfl, rfl⟩ rfl rfl rfl rfl rfl (by kernel_rfl) Try.func3 (by kernel_rfl)
    (of_decide_eq_true (by kernel_rfl)) (by unfold Func.isWrapper; first | (rw [if_pos (by decide +kernel)]; kernel_rfl) | (rw [if_neg (by decide +kernel)]; exact ⟨rfl, rfl⟩))
    (fun os started H enc _ => lifted os started H enc)
end Go.Proofs.Ytbalifgacjmbpac.lawFormatAttackGraph
namespace Go.Proofs.Ytbalifgacjmbpac
/-- The row, under a short name, for the claim. -/
theorem fnExactFormatAttackGraph_holds : Rows.FnExactFormatAttackGraphSaid := lawFormatAttackGraph.over
#print axioms fnExactFormatAttackGraph_holds
end Go.Proofs.Ytbalifgacjmbpac
