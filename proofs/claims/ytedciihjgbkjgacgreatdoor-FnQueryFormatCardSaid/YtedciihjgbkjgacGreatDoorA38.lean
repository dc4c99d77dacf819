/- THE ABSTRACT SEMANTICS IS SOUND: regions whose order is drawn. Conditions: none. -/
import Derived.Test.YtedciihjgbkjgacGreatDoorA36
namespace Go.Proofs.YtedciihjgbkjgacGreatDoor.A
open Go
set_option linter.unusedSimpArgs false
set_option linter.unusedVariables false

/-! #### what comes before what -/
theorem masks_snoc (l : List Oper) (o : Oper) : masks (l ++ [o]) = masks l ++ [edgeMask (masks l) o] := by
  unfold masks; rw [List.foldl_append]; rfl
theorem snoc_ind {α : Type} {p : List α → Prop} (h0 : p []) (h1 : ∀ l a, p l → p (l ++ [a])) (l : List α) : p l := by
  rw [← l.reverse_reverse]
  induction l.reverse with
  | nil => exact h0
  | cons a r ih => rw [List.reverse_cons]; exact h1 _ _ ih
theorem masks_length : ∀ (l : List Oper), (masks l).length = l.length :=
  snoc_ind rfl fun l o ih => by rw [masks_snoc]; simp [ih]
theorem masks_get : ∀ (l : List Oper) (k : Nat) (o : Oper), l[k]? = some o → (masks l).getD k 0 = edgeMask (masks (l.take k)) o := by
  refine snoc_ind (fun k o h => by simp at h) fun l x ih => ?_
  · intro k o h
    rw [masks_snoc]
    have hl := masks_length l
    rcases Nat.lt_or_ge k l.length with hk | hk
    · rw [List.getElem?_append_left hk] at h
      rw [List.getD_eq_getElem?_getD, List.getElem?_append_left (by omega), ← List.getD_eq_getElem?_getD, ih k o h, List.take_append_of_le_length (by omega)]
    · have hk' : k = l.length := by
        have := (List.getElem?_eq_some_iff.mp h).1
        simp at this; omega
      subst hk'
      simp at h
      subst h
      rw [List.getD_eq_getElem?_getD, List.getElem?_append_right (by omega), hl]
      simp
theorem masks_take (l : List Oper) (k j : Nat) (h : j < k) : (masks (l.take k)).getD j 0 = (masks l).getD j 0 := by
  rcases hj : l[j]? with _ | o
  · have h1 : l.length ≤ j := by simpa using hj
    have e1 : (masks l).getD j 0 = 0 := by rw [List.getD_eq_getElem?_getD, List.getElem?_eq_none (by rw [masks_length]; omega)]; rfl
    have e2 : (masks (l.take k)).getD j 0 = 0 := by rw [List.getD_eq_getElem?_getD, List.getElem?_eq_none (by rw [masks_length]; simp; omega)]; rfl
    rw [e1, e2]
  · rw [masks_get l j o hj, masks_get (l.take k) j o (by rw [List.getElem?_take, if_pos h]; exact hj), List.take_take, Nat.min_eq_left (by omega)]
def bindsE (e : Edge) : Bool := match e.ground with | .textOnly _ => false | .gcOnly _ => false | _ => true
theorem edgeMask_bit {acc : List Nat} {o : Oper} {i : Nat} (h : (edgeMask acc o).testBit i = true) : ∃ e ∈ o.after.toList, bindsE e = true ∧ (e.on = i ∨ (acc.getD e.on 0).testBit i = true) := by
  unfold edgeMask at h
  have key : ∀ l : List Edge, (l.foldr (fun e m => ((1 <<< e.on) ||| acc.getD e.on 0) ||| m) 0).testBit i = true → ∃ e ∈ l, e.on = i ∨ (acc.getD e.on 0).testBit i = true := by
    intro l
    induction l with
    | nil => intro h; simp at h
    | cons e l ih =>
      intro h
      simp only [List.foldr_cons, Nat.testBit_or, Bool.or_eq_true] at h
      rcases h with (h | h) | h
      · refine ⟨e, by simp, .inl ?_⟩
        rw [Nat.one_shiftLeft, Nat.testBit_two_pow] at h
        simpa using h
      · exact ⟨e, by simp, .inr h⟩
      · obtain ⟨e', h1, h2⟩ := ih h
        exact ⟨e', by simp [h1], h2⟩
  obtain ⟨e, h1, h2⟩ := key _ h
  rw [List.mem_filter] at h1
  exact ⟨e, h1.1, h1.2, h2⟩

section st
variable {ops : List Oper} (hst : stOk ops = true)
include hst
theorem stOk_at {i : Nat} {o : Oper} (h : ops[i]? = some o) : (∀ e ∈ o.after.toList, bindsE e = true → e.on < i) ∧ ∀ j o', ops[j]? = some o' → i ≠ j → ordM (masks ops) i j = false → apartS ops o o' = true := by
  have hi := (List.getElem?_eq_some_iff.mp h).1
  simp only [stOk, List.all_eq_true, List.mem_range] at hst
  have h1 := hst i hi
  rw [nth_eq, h] at h1
  simp only [Bool.and_eq_true, List.all_eq_true, List.mem_range] at h1
  refine ⟨fun e he hb => ?_, fun j o' hj hne hno => ?_⟩
  · have := h1.1 e he
    unfold bindsE at hb
    split at this
    · rename_i hg; rw [hg] at hb; cases hb
    · rename_i hg; rw [hg] at hb; cases hb
    · simpa using this
  · have := h1.2 j (List.getElem?_eq_some_iff.mp hj).1
    rw [nth_eq, hj, hno] at this
    simpa [hne] using this
/-- What comes before is before. -/
theorem mask_lt : ∀ (j i : Nat), ((masks ops).getD j 0).testBit i = true → i < j := by
  intro j
  induction j using Nat.strongRecOn with
  | _ j ih =>
    intro i h
    rcases hj : ops[j]? with _ | o
    · have : (masks ops).getD j 0 = 0 := by rw [List.getD_eq_getElem?_getD, List.getElem?_eq_none (by rw [masks_length]; simpa using hj)]; rfl
      rw [this] at h; simp at h
    · rw [masks_get ops j o hj] at h
      obtain ⟨e, h1, h2, h3⟩ := edgeMask_bit h
      have hlt := (stOk_at hst hj).1 e h1 h2
      rcases h3 with rfl | h3
      · exact hlt
      · rw [masks_take _ _ _ hlt] at h3
        have := ih e.on hlt i h3
        omega
/-- A set that holds what each of its operations waits for holds all that comes before. -/
theorem mask_closed {L : Nat → Bool} (hL : ∀ j o, L j = true → ops[j]? = some o → ∀ e ∈ o.after.toList, bindsE e = true → L e.on = true) : ∀ (j i : Nat), L j = true → ((masks ops).getD j 0).testBit i = true → L i = true := by
  intro j
  induction j using Nat.strongRecOn with
  | _ j ih =>
    intro i hLj h
    rcases hj : ops[j]? with _ | o
    · have : (masks ops).getD j 0 = 0 := by rw [List.getD_eq_getElem?_getD, List.getElem?_eq_none (by rw [masks_length]; simpa using hj)]; rfl
      rw [this] at h; simp at h
    · rw [masks_get ops j o hj] at h
      obtain ⟨e, h1, h2, h3⟩ := edgeMask_bit h
      have hlt := (stOk_at hst hj).1 e h1 h2
      have hLe := hL j o hLj hj e h1 h2
      rcases h3 with rfl | h3
      · exact hLe
      · rw [masks_take _ _ _ hlt] at h3
        exact ih e.on hlt i hLe h3
end st

/-! #### effects in any order -/
theorem upd_not {α : Type} {f : Nat → Option α} {k : Nat} : ∀ {l : List (Nat × Option α)}, k ∉ l.map (·.1) → upd f l k = f k
  | [], _ => rfl
  | (i, x) :: l, h => by
    simp only [List.map_cons, List.mem_cons, not_or] at h
    simp only [upd, if_neg h.1]
    exact upd_not h.2
theorem upd_in {α : Type} {f g : Nat → Option α} {k : Nat} : ∀ {l : List (Nat × Option α)}, k ∈ l.map (·.1) → upd f l k = upd g l k
  | [], h => by cases h
  | (i, x) :: l, h => by
    simp only [upd]
    split
    · rfl
    · rename_i e
      simp only [List.map_cons, List.mem_cons] at h
      exact upd_in (h.resolve_left e)
theorem upd_comm {α : Type} (f : Nat → Option α) {l m : List (Nat × Option α)} (h : ∀ k, k ∈ l.map (·.1) → k ∉ m.map (·.1)) : upd (upd f l) m = upd (upd f m) l := by
  funext k
  by_cases hl : k ∈ l.map (·.1)
  · rw [upd_not (h k hl)]; exact upd_in hl
  · rw [upd_not hl]
    by_cases hm : k ∈ m.map (·.1)
    · exact upd_in hm
    · rw [upd_not hm, upd_not hm, upd_not hl]
structure Rec where
  ran : Bool
  e : Eff
  foot : List Nat
abbrev Fx := Nat → Option Tmp × Eff
def apps (f : Fx) (l : List Nat) (st : St) : St := l.foldl (fun s k => s.app (f k).1 (f k).2) st
def upto (n : Nat) (L : Nat → Bool) : List Nat := (List.range n).filter L
theorem upto_succ (n : Nat) (L : Nat → Bool) : upto (n + 1) L = if L n then upto n L ++ [n] else upto n L := by
  unfold upto
  rw [List.range_succ, List.filter_append]
  cases h : L n <;> simp [h]
theorem apps_succ (f : Fx) (st : St) (n : Nat) (L : Nat → Bool) : apps f (upto (n + 1) L) st = if L n then (apps f (upto n L) st).app (f n).1 (f n).2 else apps f (upto n L) st := by
  rw [upto_succ]
  split
  · unfold apps; rw [List.foldl_append]; rfl
  · rfl
theorem apps_next (f : Fx) (st : St) : ∀ (l : List Nat), (apps f l st).next = st.next := by
  intro l
  induction l generalizing st with
  | nil => rfl
  | cons k l ih => exact ih _
theorem apps_slot (f : Fx) (st : St) (t : Nat) (L1 L2 : Nat → Bool) : ∀ m, (∀ k < m, (f k).1 = some t → L1 k = L2 k) → (apps f (upto m L1) st).slots t = (apps f (upto m L2) st).slots t
  | 0, _ => rfl
  | m + 1, h => by
    have ih := apps_slot f st t L1 L2 m fun k hk => h k (by omega)
    have hm := h m (by omega)
    rw [apps_succ, apps_succ]
    by_cases hd : (f m).1 = some t
    · rw [hm hd]
      split
      · show (if some t = (f m).1 then _ else _) = (if some t = (f m).1 then _ else _)
        simp [hd]
      · exact ih
    · have e : ∀ s : St, (s.app (f m).1 (f m).2).slots t = s.slots t := fun s => by
        show (if some t = (f m).1 then _ else _) = _
        rw [if_neg fun h => hd h.symm]
      split <;> split <;> first | exact ih | (simp only [e]; exact ih)
theorem apps_obj (f : Fx) (st : St) (id : Nat) (L1 L2 : Nat → Bool) : ∀ m, (∀ k < m, id ∈ wrOf (f k).2 → L1 k = L2 k) → (apps f (upto m L1) st).objs id = (apps f (upto m L2) st).objs id
  | 0, _ => rfl
  | m + 1, h => by
    have ih := apps_obj f st id L1 L2 m fun k hk => h k (by omega)
    have hm := h m (by omega)
    rw [apps_succ, apps_succ]
    by_cases hd : id ∈ (f m).2.ow.map (·.1)
    · rw [hm (by simp only [wrOf, List.mem_append]; exact .inl hd)]
      split
      · exact upd_in hd
      · exact ih
    · have e : ∀ s : St, (s.app (f m).1 (f m).2).objs id = s.objs id := fun s => upd_not hd
      split <;> split <;> first | exact ih | (simp only [e]; exact ih)
theorem apps_var (f : Fx) (st : St) (id : Nat) (L1 L2 : Nat → Bool) : ∀ m, (∀ k < m, id ∈ wrOf (f k).2 → L1 k = L2 k) → (apps f (upto m L1) st).vars id = (apps f (upto m L2) st).vars id
  | 0, _ => rfl
  | m + 1, h => by
    have ih := apps_var f st id L1 L2 m fun k hk => h k (by omega)
    have hm := h m (by omega)
    rw [apps_succ, apps_succ]
    by_cases hd : id ∈ (f m).2.vw.map (·.1)
    · rw [hm (by simp only [wrOf, List.mem_append]; exact .inr hd)]
      split
      · exact upd_in hd
      · exact ih
    · have e : ∀ s : St, (s.app (f m).1 (f m).2).vars id = s.vars id := fun s => upd_not hd
      split <;> split <;> first | exact ih | (simp only [e]; exact ih)
theorem app_comm (s : St) {d d' : Option Tmp} {e e' : Eff} (hd : ∀ t, d = some t → d' ≠ some t) (hw : ∀ k, k ∈ wrOf e → k ∉ wrOf e') : (s.app d e).app d' e' = (s.app d' e').app d e := by
  have h1 : upd (upd s.vars e.vw) e'.vw = upd (upd s.vars e'.vw) e.vw := upd_comm _ fun k hk hk' => hw k (by simp only [wrOf, List.mem_append]; exact .inr hk) (by simp only [wrOf, List.mem_append]; exact .inr hk')
  have h2 : upd (upd s.objs e.ow) e'.ow = upd (upd s.objs e'.ow) e.ow := upd_comm _ fun k hk hk' => hw k (by simp only [wrOf, List.mem_append]; exact .inl hk) (by simp only [wrOf, List.mem_append]; exact .inl hk')
  unfold St.app
  simp only [h1, h2]
  congr 1
  funext t
  by_cases ht : some t = d
  · have : ¬ some t = d' := fun h => hd t ht.symm h.symm
    rw [if_neg this, if_pos ht, if_pos ht]
  · rw [if_neg ht]
    simp only [if_neg ht]
theorem apps_move (f : Fx) (st : St) {i : Nat} {L L' : Nat → Bool} (hL : ∀ k, L' k = (decide (k = i) || L k)) (hi : L i = false) : ∀ m, (∀ k < m, i < k → L k = true → (∀ t, (f i).1 = some t → (f k).1 ≠ some t) ∧ ∀ x, x ∈ wrOf (f i).2 → x ∉ wrOf (f k).2) →
    apps f (upto m L') st = if i < m then (apps f (upto m L) st).app (f i).1 (f i).2 else apps f (upto m L) st
  | 0, _ => by simp [upto, apps]
  | m + 1, h => by
    have ih := apps_move f st hL hi m fun k hk => h k (by omega)
    rw [apps_succ, apps_succ, ih, hL m]
    by_cases e : m = i
    · subst e
      simp [hi]
    · by_cases hlt : i < m
      · have hlt' : i < m + 1 := by omega
        simp only [if_pos hlt, if_pos hlt', decide_eq_false e, Bool.false_or]
        split
        · rename_i hm
          obtain ⟨h1, h2⟩ := h m (by omega) hlt hm
          exact app_comm _ h1 h2
        · rfl
      · have hlt' : ¬ i < m + 1 := by omega
        simp only [if_neg hlt, if_neg hlt', decide_eq_false e, Bool.false_or]

/-! #### what the run in the text's order tells -/
section recs
variable {P : Program} {ops : List Oper} {base : Nat} {st0 : St}
def fxOf (ops : List Oper) (R : List Rec) : Fx := fun k => (((nth ops k).map (·.dst)).getD none, ((nth R k).map (·.e)).getD ⟨.un, [], []⟩)
def stAt (ops : List Oper) (R : List Rec) (st0 : St) (k : Nat) : St := apps (fxOf ops R) (List.range k) st0
/-- The guard of an operation that does not run. -/
def Off (s : St) (ds : List (Option Tmp)) (g : Nat) (want : Bool) : Prop := (∃ b, yieldOf s (nth ds g) = some b ∧ b ≠ want) ∨ skipOf s (nth ds g) = true
/-- What is known of an operation. -/
def RecOk (P : Program) (ops : List Oper) (base : Nat) (s : St) (k : Nat) (o : Oper) (r : Rec) : Prop :=
  (r.ran = true ∧ r.foot = footOf s o ∧ (o.guard = none ∨ ∃ g want, o.guard = some (g, want) ∧ yieldOf s (nth (ops.map (·.dst)) g) = some want) ∧
    ∀ s' (K' : Eff → Prop), AgO o s s' → K' r.e → effK P s' (base + 64 * k) o K') ∨
  (r.ran = false ∧ r.e = ⟨.tup [], [], []⟩ ∧ ∃ g want, o.guard = some (g, want) ∧ Off s (ops.map (·.dst)) g want)
def trsOf : Nat → List Rec → List Tr
  | _, [] => []
  | k, r :: R => if r.ran then ⟨k, r.foot, wrOf r.e⟩ :: trsOf (k + 1) R else trsOf (k + 1) R

theorem runD_recs {K : St → List Tr → Prop} : ∀ (rest : List Oper) (i : Nat) (st : St) (tr : List Tr), runD P (ops.map (·.dst)) base i rest st tr K →
    ∃ R : List Rec, R.length = rest.length ∧ K (R.zip rest |>.foldl (fun s p => s.app p.2.dst p.1.e) st) ((trsOf i R).reverse ++ tr) ∧
      ∀ k o r, rest[k]? = some o → R[k]? = some r → RecOk P ops base ((R.zip rest).take k |>.foldl (fun s p => s.app p.2.dst p.1.e) st) (i + k) o r
  | [], i, st, tr, h => ⟨[], rfl, by simpa [trsOf, runD] using h, fun k o r hk => by simp at hk⟩
  | o :: rest, i, st, tr, h => by
    have ran : ∀ (hg : o.guard = none ∨ ∃ g want, o.guard = some (g, want) ∧ yieldOf st (nth (ops.map (·.dst)) g) = some want),
        effK P st (base + 64 * i) o (fun e => runD P (ops.map (·.dst)) base (i + 1) rest (st.app o.dst e) (⟨i, footOf st o, wrOf e⟩ :: tr) K) → ∃ R : List Rec, R.length = (o :: rest).length ∧ K (R.zip (o :: rest) |>.foldl (fun s p => s.app p.2.dst p.1.e) st) ((trsOf i R).reverse ++ tr) ∧
          ∀ k o' r, (o :: rest)[k]? = some o' → R[k]? = some r → RecOk P ops base ((R.zip (o :: rest)).take k |>.foldl (fun s p => s.app p.2.dst p.1.e) st) (i + k) o' r := by
      intro hg hE
      obtain ⟨e, h1, h2⟩ := lin_eff o _ hE
      obtain ⟨R, g1, g2, g3⟩ := runD_recs rest (i + 1) _ _ h1
      refine ⟨⟨true, e, footOf st o⟩ :: R, by simp [g1], ?_, fun k o' r hk hr => ?_⟩
      · simp only [List.zip_cons_cons, List.foldl_cons, trsOf, if_true, List.reverse_cons, List.append_assoc, List.singleton_append]
        exact g2
      · cases k with
        | zero =>
          simp at hk hr
          subst hk hr
          refine .inl ⟨rfl, rfl, hg, fun s' K' hag hk' => ?_⟩
          rw [Nat.add_zero, eff_ag hag]
          exact h2 K' hk'
        | succ k =>
          simp only [List.getElem?_cons_succ] at hk hr
          have := g3 k o' r hk hr
          rw [show i + 1 + k = i + (k + 1) by omega] at this
          simpa using this
    have off : ∀ (g : Nat) (want : Bool), o.guard = some (g, want) → Off st (ops.map (·.dst)) g want → runD P (ops.map (·.dst)) base (i + 1) rest (st.put o.dst (.tup [])) tr K →
        ∃ R : List Rec, R.length = (o :: rest).length ∧ K (R.zip (o :: rest) |>.foldl (fun s p => s.app p.2.dst p.1.e) st) ((trsOf i R).reverse ++ tr) ∧
          ∀ k o' r, (o :: rest)[k]? = some o' → R[k]? = some r → RecOk P ops base ((R.zip (o :: rest)).take k |>.foldl (fun s p => s.app p.2.dst p.1.e) st) (i + k) o' r := by
      intro g want hg hoff h
      obtain ⟨R, g1, g2, g3⟩ := runD_recs rest (i + 1) _ _ h
      have hput : st.put o.dst (.tup []) = st.app o.dst ⟨.tup [], [], []⟩ := rfl
      rw [hput] at g2 g3
      refine ⟨⟨false, ⟨.tup [], [], []⟩, []⟩ :: R, by simp [g1], ?_, fun k o' r hk hr => ?_⟩
      · simp only [List.zip_cons_cons, List.foldl_cons, trsOf, Bool.false_eq_true, if_false]
        exact g2
      · cases k with
        | zero =>
          simp at hk hr
          subst hk hr
          exact .inr ⟨rfl, rfl, g, want, hg, hoff⟩
        | succ k =>
          simp only [List.getElem?_cons_succ] at hk hr
          have := g3 k o' r hk hr
          rw [show i + 1 + k = i + (k + 1) by omega] at this
          simpa using this
    unfold runD at h
    split at h
    · rename_i hg
      exact ran (.inl hg) h
    · rename_i g want hg
      split at h
      · rename_i b hy
        split at h
        · rename_i e
          subst e
          exact ran (.inr ⟨g, b, hg, hy⟩) h
        · rename_i e
          exact off g want hg (.inl ⟨b, hy, e⟩) h
      · exact off g want hg (.inr h.1) h.2
theorem zip_apps : ∀ (R : List Rec) (ops : List Oper) (k : Nat), R.length = ops.length → k ≤ ops.length → ((R.zip ops).take k).foldl (fun s p => s.app p.2.dst p.1.e) st0 = apps (fxOf ops R) (upto k fun _ => true) st0 := by
  intro R ops k hl
  induction k with
  | zero => intro _; rfl
  | succ k ih =>
    intro hk
    rw [apps_succ]
    simp only [if_true]
    rw [← ih (by omega), List.take_add_one, List.foldl_append]
    have h1 : (R.zip ops)[k]? = some (R[k]'(by omega), ops[k]'(by omega)) := by
      rw [List.getElem?_zip_eq_some]
      exact ⟨List.getElem?_eq_getElem _, List.getElem?_eq_getElem _⟩
    rw [h1]
    simp only [Option.toList_some, List.foldl_cons, List.foldl_nil, fxOf, nth_eq]
    rw [List.getElem?_eq_getElem (show k < ops.length by omega), List.getElem?_eq_getElem (show k < R.length by omega)]
    rfl
theorem trsOf_mem : ∀ (R : List Rec) (i k : Nat) (r : Rec), R[k]? = some r → r.ran = true → (⟨i + k, r.foot, wrOf r.e⟩ : Tr) ∈ trsOf i R
  | r' :: R, i, 0, r, h, hr => by simp at h; subst h; simp [trsOf, hr]
  | r' :: R, i, k + 1, r, h, hr => by
    simp only [List.getElem?_cons_succ] at h
    have := trsOf_mem R (i + 1) k r h hr
    rw [show i + 1 + k = i + (k + 1) by omega] at this
    unfold trsOf
    split
    · exact List.mem_cons_of_mem _ this
    · exact this
  | [], _, _, _, h, _ => by simp at h
end recs

theorem meets_false {l m : List Nat} (h : meets l m = false) : ∀ x ∈ l, x ∉ m := by
  intro x hx hm
  simp only [meets, List.any_eq_false] at h
  have := h x hx
  simp [hm] at this
theorem trOk_at {ops : List Oper} {tr : List Tr} (h : trOk ops tr = true) {x y : Tr} (hx : x ∈ tr) (hy : y ∈ tr) (hne : x.i ≠ y.i) (hno : ordM (masks ops) x.i y.i = false) : (∀ k ∈ x.wr, k ∉ y.foot) ∧ ∀ k ∈ x.wr, k ∉ y.wr := by
  simp only [trOk, List.all_eq_true] at h
  have := h x hx y hy
  rw [hno] at this
  simp only [Bool.or_eq_true, Bool.and_eq_true, Bool.not_eq_true', beq_iff_eq, Bool.false_eq_true, or_false, hne] at this
  rcases this with this | ⟨h1, h2⟩
  · have : x.wr = [] := by simpa using this
    rw [this]; simp
  · exact ⟨meets_false h1, meets_false h2⟩
theorem ordM_comm (ms : List Nat) (i j : Nat) : ordM ms i j = ordM ms j i := by unfold ordM; rw [Bool.or_comm]

section draw
variable {P : Program} {cx : Cx} {ops : Array Oper} {base : Nat} {st0 : St} {R : List Rec} {Q : Exit → Act → World → Prop} {tr : List Tr}

/-- The ids that no operation so far has taken. -/
def FrL (base n : Nat) (L : Nat → Bool) : Nat → Prop := fun id => base ≤ id ∧ ∀ k < n, L k = true → ¬ (base + 64 * k ≤ id ∧ id < base + 64 * k + 64)

theorem draw_any (hm : P.follows .mixedOrders = true) (hpins : ∀ q ∈ cx.pins, q.1 < 1000) (hbound : ∀ o ∈ ops.toList, ∀ d', o.dst = some d' → d' < cx.n) (hst : stOk ops.toList = true)
    (hlen : R.length = ops.toList.length) (hrec : ∀ k o r, ops.toList[k]? = some o → R[k]? = some r → RecOk P ops.toList base (apps (fxOf ops.toList R) (upto k fun _ => true) st0) k o r)
    (htr : trOk ops.toList tr = true) (hmem : ∀ k r, R[k]? = some r → r.ran = true → (⟨k, r.foot, wrOf r.e⟩ : Tr) ∈ tr)
    (hQ : ∀ sh' a' W', InvS cx (apps (fxOf ops.toList R) (upto ops.size fun _ => true) st0) sh' a' W' (fun id => base + 64 * ops.size ≤ id) → Q .normal a' W') :
    ∀ (fuel : Nat) (listed : Array Bool) (a : Act) (W : World) (sh : Sh), listed.size = ops.size → ((List.range ops.size).filter fun k => !listed.getD k false).length ≤ fuel →
      (∀ j o, listed.getD j false = true → ops.toList[j]? = some o → ∀ e ∈ o.after.toList, bindsE e = true → listed.getD e.on false = true) →
      InvS cx (apps (fxOf ops.toList R) (upto ops.size fun k => listed.getD k false) st0) sh a W (FrL base ops.size fun k => listed.getD k false) → wpAny P .any ops Q fuel listed a W := by
  have hbinds : ∀ e : Edge, Region.binds .any e = bindsE e := fun e => by unfold Region.binds bindsE; split <;> simp_all
  -- all listed: the end
  have hend : ∀ (listed : Array Bool) (a : Act) (W : World) (sh : Sh), (∀ k < ops.size, listed.getD k false = true) → InvS cx (apps (fxOf ops.toList R) (upto ops.size fun k => listed.getD k false) st0) sh a W (FrL base ops.size fun k => listed.getD k false) → Q .normal a W := by
    intro listed a W sh hall h
    have e : upto ops.size (fun k => listed.getD k false) = upto ops.size fun _ => true := by
      unfold upto
      refine List.filter_congr fun k hk => hall k (by simpa using hk)
    rw [e] at h
    refine hQ sh a W (h.less fun id hid => ⟨by omega, fun k hk _ => by omega⟩)
  have hnone : ∀ (listed : Array Bool), listed.size = ops.size → Region.ready .any ops listed = [] → ∀ k < ops.size, listed.getD k false = true := by
    intro listed hsz hr k
    induction k using Nat.strongRecOn with
    | _ k ih =>
      intro hk
      rcases hl : listed.getD k false with _ | _
      · exfalso
        have ho : ops[k]? = some ops[k] := by simp [hk]
        have hmemr : k ∈ Region.ready .any ops listed := by
          rw [mem_ready]
          refine ⟨?_, ops[k], ho, fun e he hb => ?_⟩
          · rw [Array.getD_eq_getD_getElem?] at hl ⊢
            rw [Array.getElem?_eq_getElem (by omega)] at hl ⊢
            exact hl
          · rw [hbinds] at hb
            have hlt := (stOk_at hst (i := k) (o := ops[k]) (by rw [Array.getElem?_toList]; exact ho)).1 e (by simpa using he) hb
            exact ih e.on hlt (by omega)
        rw [hr] at hmemr
        cases hmemr
      · rfl
  intro fuel
  induction fuel with
  | zero =>
    intro listed a W sh hsz hfu hdown h
    have hall : ∀ k < ops.size, listed.getD k false = true := by
      intro k hk
      rcases hl : listed.getD k false with _ | _
      · exfalso
        have : k ∈ (List.range ops.size).filter fun k => !listed.getD k false := by
          rw [List.mem_filter]; exact ⟨by simpa using hk, by rw [hl]; rfl⟩
        have hz : ((List.range ops.size).filter fun k => !listed.getD k false).length = 0 := by omega
        rw [List.length_eq_zero_iff.mp hz] at this
        cases this
      · rfl
    refine ⟨?_, hend listed a W sh hall h⟩
    rw [List.eq_nil_iff_forall_not_mem]
    intro j hj
    obtain ⟨h0, o, ho, _⟩ := mem_ready.1 hj
    have hj' : j < ops.size := (Array.getElem?_eq_some_iff.1 ho).1
    have := hall j hj'
    rw [Array.getD_eq_getD_getElem?, Array.getElem?_eq_getElem (by omega)] at h0 this
    simp at h0 this
    rw [h0] at this; cases this
  | succ fuel ih =>
    intro listed a W sh hsz hfu hdown h
    refine ⟨fun hr => hend listed a W sh (hnone listed hsz hr) h, fun i hi => ?_⟩
    obtain ⟨h0, o, ho, hpre⟩ := mem_ready.1 hi
    have hin : i < ops.size := (Array.getElem?_eq_some_iff.1 ho).1
    have hot : ops.toList[i]? = some o := by rw [Array.getElem?_toList]; exact ho
    have hLi : listed.getD i false = false := by
      rw [Array.getD_eq_getD_getElem?, Array.getElem?_eq_getElem (by omega)] at h0 ⊢
      exact h0
    have hR : ∃ r, R[i]? = some r := ⟨R[i]'(by rw [hlen]; simpa using hin), List.getElem?_eq_getElem _⟩
    obtain ⟨r, hr⟩ := hR
    have hrc := hrec i o r hot hr
    have hfx : fxOf ops.toList R i = (o.dst, r.e) := by simp [fxOf, nth_eq, hot, hr]
    have hfxk : ∀ k o', ops.toList[k]? = some o' → (fxOf ops.toList R k).1 = o'.dst := fun k o' hk => by simp [fxOf, nth_eq, hk]
    have hop : ∀ k, k < ops.size → ∃ o', ops.toList[k]? = some o' := fun k hk => ⟨ops[k], by rw [Array.getElem?_toList]; simp [hk]⟩
    -- the operations before and behind, listed and not
    have hpre' : ∀ k, ((masks ops.toList).getD i 0).testBit k = true → listed.getD k false = true := by
      intro k hk
      have hlt := mask_lt hst i k hk
      have := mask_closed hst (L := fun k => decide (k = i) || listed.getD k false) (fun j o' hj hoj e he hb => by
        simp only [Bool.or_eq_true, decide_eq_true_eq] at hj ⊢
        rcases hj with rfl | hj
        · rw [hot] at hoj; cases hoj
          exact .inr (hpre e (by simpa using he) (by rw [hbinds]; exact hb))
        · exact .inr (hdown j o' hj hoj e he hb)) i k (by simp) hk
      simp only [Bool.or_eq_true, decide_eq_true_eq] at this
      exact this.resolve_left (by omega)
    have hpost : ∀ k, ((masks ops.toList).getD k 0).testBit i = true → listed.getD k false = false := by
      intro k hk
      rcases hl : listed.getD k false with _ | _
      · rfl
      · have := mask_closed hst (L := fun k => listed.getD k false) hdown k i hl hk
        rw [hLi] at this; cases this
    have hsame : ∀ k, k < ops.size → k ≠ i → ordM (masks ops.toList) i k = true → listed.getD k false = decide (k < i) := by
      intro k hk hne ho'
      simp only [ordM, Bool.or_eq_true] at ho'
      rcases ho' with ho' | ho'
      · have := mask_lt hst k i ho'
        rw [hpost k ho']; symm; simp; omega
      · have := mask_lt hst i k ho'
        rw [hpre' k ho']; symm; simp; omega
    have hmeet : ∀ k, k < ops.size → k ≠ i → ordM (masks ops.toList) i k = false → (∀ o', ops.toList[k]? = some o' → apartS ops.toList o o' = true ∧ apartS ops.toList o' o = true) := by
      intro k hk hne hno o' hok
      exact ⟨(stOk_at hst hot).2 k o' hok (fun e => hne e.symm) hno, (stOk_at hst hok).2 i o hot hne (by rw [ordM_comm]; exact hno)⟩
    -- slots that the operation looks at are as they were in the text's order
    have upi : upto i (fun _ => true) = upto ops.size fun k => decide (k < i) := by
      unfold upto
      have e : List.range ops.size = List.range i ++ (List.range (ops.size - i)).map (i + ·) := by
        rw [← List.range_add]; congr 1; omega
      rw [e, List.filter_append]
      have e1 : (List.range i).filter (fun k => decide (k < i)) = (List.range i).filter fun _ => true := List.filter_congr fun k hk => by simpa using hk
      have e2 : ((List.range (ops.size - i)).map (i + ·)).filter (fun k => decide (k < i)) = [] := by
        rw [List.filter_eq_nil_iff]
        intro k hk
        obtain ⟨j, _, rfl⟩ := List.mem_map.mp hk
        simp
      rw [e1, e2, List.append_nil]
    rw [upi] at hrc
    have hslot : ∀ t, t ∈ looks ops.toList o → (apps (fxOf ops.toList R) (upto ops.size fun k => listed.getD k false) st0).slots t = (apps (fxOf ops.toList R) (upto ops.size fun k => decide (k < i)) st0).slots t := by
      intro t ht
      refine apps_slot _ _ _ _ _ _ fun k hk hd => ?_
      by_cases hki : k = i
      · subst hki; rw [hLi]; simp
      · rcases ho' : ordM (masks ops.toList) i k with _ | _
        · exfalso
          obtain ⟨o', hok⟩ := hop k hk
          rw [hfxk k o' hok] at hd
          have := (hmeet k hk hki ho' o' hok).2
          simp [apartS, hd, ht] at this
        · exact hsame k hk hki ho'
    have hval : ∀ x ∈ o.op.operands.toList, (apps (fxOf ops.toList R) (upto ops.size fun k => listed.getD k false) st0).ev x = (apps (fxOf ops.toList R) (upto ops.size fun k => decide (k < i)) st0).ev x := by
      intro x hx
      cases x with
      | tmp t => exact hslot t (by simp only [looks, List.mem_append, List.mem_filterMap]; exact .inl ⟨.tmp t, hx, rfl⟩)
      | _ => rfl
    have hyield : ∀ g want, o.guard = some (g, want) → yieldOf (apps (fxOf ops.toList R) (upto ops.size fun k => listed.getD k false) st0) (nth (ops.toList.map (·.dst)) g) = yieldOf (apps (fxOf ops.toList R) (upto ops.size fun k => decide (k < i)) st0) (nth (ops.toList.map (·.dst)) g) := by
      intro g want hg
      rw [nth_eq, List.getElem?_map]
      rcases hgo : ops.toList[g]? with _ | og
      · rfl
      · rcases hdg : og.dst with _ | t
        · simp [yieldOf, hdg]
        · simp only [Option.map_some, hdg, yieldOf]
          rw [hslot t (by simp only [looks, hg, nth_eq, hgo, Option.map_some, Option.getD_some, hdg, List.mem_append]; exact .inr (by simp))]
    have hskip : ∀ g want, o.guard = some (g, want) → skipOf (apps (fxOf ops.toList R) (upto ops.size fun k => listed.getD k false) st0) (nth (ops.toList.map (·.dst)) g) = skipOf (apps (fxOf ops.toList R) (upto ops.size fun k => decide (k < i)) st0) (nth (ops.toList.map (·.dst)) g) := by
      intro g want hg
      rw [nth_eq, List.getElem?_map]
      rcases hgo : ops.toList[g]? with _ | og
      · rfl
      · rcases hdg : og.dst with _ | t
        · simp [skipOf, hdg]
        · simp only [Option.map_some, hdg, skipOf]
          rw [hslot t (by simp only [looks, hg, nth_eq, hgo, Option.map_some, Option.getD_some, hdg, List.mem_append]; exact .inr (by simp))]
    -- afterwards
    have hset : ∀ k, (listed.setIfInBounds i true).getD k false = (decide (k = i) || listed.getD k false) := by
      intro k
      rw [Array.getD_eq_getD_getElem?, Array.getD_eq_getD_getElem?, Array.getElem?_setIfInBounds]
      by_cases e : i = k
      · subst e; simp [hsz, hin]
      · simp [e, show ¬ k = i from fun h => e h.symm]
    have hnext : apps (fxOf ops.toList R) (upto ops.size fun k => (listed.setIfInBounds i true).getD k false) st0 = (apps (fxOf ops.toList R) (upto ops.size fun k => listed.getD k false) st0).app o.dst r.e := by
      have := apps_move (fxOf ops.toList R) st0 (i := i) (L := fun k => listed.getD k false) (L' := fun k => (listed.setIfInBounds i true).getD k false) hset hLi ops.size ?_
      · rw [this, if_pos hin, hfx]
      · intro k hk hik hLk
        have hno : ordM (masks ops.toList) i k = false := by
          rcases ho' : ordM (masks ops.toList) i k with _ | _
          · rfl
          · have := hsame k hk (by omega) ho'
            rw [hLk] at this
            simp at this; omega
        obtain ⟨o', hok⟩ := hop k hk
        obtain ⟨a1, a2⟩ := hmeet k hk (by omega) hno o' hok
        rw [hfx, hfxk k o' hok]
        refine ⟨fun t ht hd => ?_, fun x hx hx' => ?_⟩
        · simp only at ht
          simp [apartS, ht, hd] at a1
        · have hRk : ∃ r', R[k]? = some r' := ⟨R[k]'(by rw [hlen]; simpa using hk), List.getElem?_eq_getElem _⟩
          obtain ⟨r', hr'⟩ := hRk
          have e' : (fxOf ops.toList R k).2 = r'.e := by simp [fxOf, nth_eq, hr']
          rw [e'] at hx'
          rcases hrn : r.ran with _ | _
          · rcases hrc with ⟨h1, _⟩ | ⟨_, h2, _⟩
            · rw [hrn] at h1; cases h1
            · simp only [h2] at hx; simp [wrOf] at hx
          · rcases hrn' : r'.ran with _ | _
            · rcases hrec k o' r' hok hr' with ⟨h1, _⟩ | ⟨_, h2, _⟩
              · rw [hrn'] at h1; cases h1
              · rw [h2] at hx'; simp [wrOf] at hx'
            · exact (trOk_at htr (hmem i r hr hrn) (hmem k r' hr' hrn') (by show i ≠ k; omega) hno).2 x hx hx'
    have hcont : ∀ {a' : Act} {W' : World} {sh' : Sh}, InvS cx ((apps (fxOf ops.toList R) (upto ops.size fun k => listed.getD k false) st0).app o.dst r.e) sh' a' W' (FrL base ops.size fun k => (listed.setIfInBounds i true).getD k false) → wpAny P .any ops Q fuel (listed.setIfInBounds i true) a' W' := by
      intro a' W' sh' h'
      rw [← hnext] at h'
      refine ih (listed.setIfInBounds i true) a' W' sh' (by simp [hsz]) ?_ (fun j o' hj hoj e he hb => ?_) h'
      · have : ((List.range ops.size).filter fun k => !(listed.setIfInBounds i true).getD k false).length < ((List.range ops.size).filter fun k => !listed.getD k false).length := by
          have hsub : (List.range ops.size).filter (fun k => !(listed.setIfInBounds i true).getD k false) = ((List.range ops.size).filter fun k => !listed.getD k false).filter fun k => !decide (k = i) := by
            rw [List.filter_filter]
            refine List.filter_congr fun k _ => ?_
            rw [hset]; cases decide (k = i) <;> simp
          rw [hsub]
          have hi' : i ∈ (List.range ops.size).filter fun k => !listed.getD k false := by
            rw [List.mem_filter]; exact ⟨by simpa using hin, by rw [hLi]; rfl⟩
          exact List.length_filter_lt_length_iff_exists.mpr ⟨i, hi', by simp⟩
        omega
      · rw [hset] at hj ⊢
        simp only [Bool.or_eq_true, decide_eq_true_eq] at hj ⊢
        rcases hj with rfl | hj
        · rw [hot] at hoj; cases hoj
          exact .inr (hpre e (by simpa using he) (by rw [hbinds]; exact hb))
        · exact .inr (hdown j o' hj hoj e he hb)
    have hFr : ∀ id, FrL base ops.size (fun k => (listed.setIfInBounds i true).getD k false) id → FrL base ops.size (fun k => listed.getD k false) id ∧ ¬ (base + 64 * i ≤ id ∧ id < base + 64 * i + 64) := by
      rintro id ⟨g1, g2⟩
      refine ⟨⟨g1, fun k hk hLk => g2 k hk ?_⟩, g2 i hin ?_⟩
      · show (listed.setIfInBounds i true).getD k false = true
        have hLk : listed.getD k false = true := hLk
        rw [hset, hLk]; simp
      · show (listed.setIfInBounds i true).getD i false = true
        rw [hset]; simp
    unfold wpOp
    simp only [ho]
    have hdst := hbound o (by rw [← Array.getElem?_toList] at ho; exact List.mem_of_getElem? ho)
    rcases hrc with ⟨hran, hfoot, hguard, heff⟩ | ⟨hran, he, g, want, hg, hoff⟩
    · have hag : AgO o (apps (fxOf ops.toList R) (upto ops.size fun k => decide (k < i)) st0) (apps (fxOf ops.toList R) (upto ops.size fun k => listed.getD k false) st0) := by
        refine ⟨hval, fun id hid => ?_⟩
        have hid' : id ∈ r.foot := by rw [hfoot]; exact hid
        have hcl : ∀ k < ops.size, id ∈ wrOf (fxOf ops.toList R k).2 → listed.getD k false = decide (k < i) := by
          intro k hk hw
          by_cases hki : k = i
          · subst hki; rw [hLi]; simp
          · rcases ho' : ordM (masks ops.toList) i k with _ | _
            · exfalso
              have hRk : ∃ r', R[k]? = some r' := ⟨R[k]'(by rw [hlen]; simpa using hk), List.getElem?_eq_getElem _⟩
              obtain ⟨r', hr'⟩ := hRk
              have e' : (fxOf ops.toList R k).2 = r'.e := by simp [fxOf, nth_eq, hr']
              rw [e'] at hw
              obtain ⟨o', hok⟩ := hop k hk
              rcases hrn' : r'.ran with _ | _
              · rcases hrec k o' r' hok hr' with ⟨h1, _⟩ | ⟨_, h2, _⟩
                · rw [hrn'] at h1; cases h1
                · rw [h2] at hw; simp [wrOf] at hw
              · exact (trOk_at htr (hmem k r' hr' hrn') (hmem i r hr hran) hki (by rw [ordM_comm]; exact ho')).1 id hw hid'
            · exact hsame k hk hki ho'
        exact ⟨apps_obj _ _ _ _ _ _ hcl, apps_var _ _ _ _ _ _ hcl⟩
      have hE := heff _ (fun e => e = r.e) hag rfl
      have hgood := eff_sound (Q := Q) h hdst (fun k hk => ⟨by omega, fun k' hk' hLk' hb => by
        have : k' = i := by omega
        subst this
        have hLk' : listed.getD k' false = true := hLk'
        rw [hLi] at hLk'; cases hLk'⟩) hpins hE
      have hw : Region.wanted o (yielded ops a.tmps) = true := by
        rcases hguard with hg | ⟨g, want, hg, hy⟩
        · simp [Region.wanted, hg]
        · have hyy := h.yielded (ops := ops) (g := g) (b := want) (by rw [hyield g want hg]; exact hy)
          simp [Region.wanted, hg, hyy]
      rw [if_pos hw]
      refine .inl (Oper.wp_mono (fun a' W' hx => ?_) hgood)
      obtain ⟨e, sh', rfl, hi'⟩ := hx
      exact hcont (hi'.less hFr)
    · have hw : Region.wanted o (yielded ops a.tmps) = false := by
        rcases hoff with ⟨b, hy, hne⟩ | hy
        · have hyy := h.yielded (ops := ops) (g := g) (b := b) (by rw [hyield g want hg]; exact hy)
          simp [Region.wanted, hg, hyy, hne]
        · have hyy := h.skipped (ops := ops) (g := g) (by rw [hskip g want hg]; exact hy)
          simp [Region.wanted, hg, hyy]
      rw [hw]
      simp only [Bool.false_eq_true, if_false]
      have h' := InvS.put h hdst (av := .tup []) (v := undef) ⟨#[], rfl, trivial⟩ (fun id _ hm => by simp [AV.ids, AV.svs, Pk.svs, SV.ids] at hm)
      refine hcont (sh' := sh) ?_
      rw [he]
      exact h'.less fun id hid => (hFr id hid).1
end draw

theorem draw_sound {P : Program} {cx : Cx} (hm : P.follows .mixedOrders = true) (hpins : ∀ q ∈ cx.pins, q.1 < 1000) {id : Nat} {ops : Array Oper} (hok : ops.toList.all (okOp cx.n) = true) (hst : stOk ops.toList = true) {st : St} {a : Act} {W : World} (h : Inv cx st a W) {K : St → Prop} (hK : Rg P ops true st K) {Q : Exit → Act → World → Prop}
    (hQ : ∀ st' a' W', K st' → Inv cx st' a' W' → Q .normal a' W') : (Code.region id ops true).wp P Q a W := by
  obtain ⟨sh, h⟩ := h
  refine wp_region_any hm ?_
  simp only [Rg] at hK
  obtain ⟨R, hlen, ⟨htr, hK⟩, hrec⟩ := runD_recs ops.toList 0 st [] hK
  have hfull := zip_apps (st0 := st) R ops.toList ops.size hlen (by simp)
  have htake : (R.zip ops.toList).take ops.size = R.zip ops.toList := List.take_of_length_le (by simp; omega)
  rw [htake] at hfull
  rw [hfull] at hK
  have h1 := h.sameHeap hpins (W' := { W with drawn := W.drawn + 1 }) rfl rfl rfl rfl
  have e0 : apps (fxOf ops.toList R) (upto ops.size fun k => (Array.replicate ops.size false).getD k false) st = st := by
    have : upto ops.size (fun k => (Array.replicate ops.size false).getD k false) = [] := by
      unfold upto
      rw [List.filter_eq_nil_iff]
      intro k hk
      rw [Array.getD_eq_getD_getElem?, Array.getElem?_replicate]
      split <;> simp
    rw [this]; rfl
  refine draw_any (base := st.next) (st0 := st) (R := R) (tr := (trsOf 0 R).reverse ++ []) hm hpins (okOps hok) hst hlen (fun k o r hk hr => ?_) htr (fun k r hk hr => ?_) (fun sh' a' W' h' => ?_) ops.size _ a _ sh (by simp) ?_ ?_ ?_
  · have := hrec k o r hk hr
    rw [zip_apps R ops.toList k hlen (by have := (List.getElem?_eq_some_iff.mp hk).1; omega), Nat.zero_add] at this
    exact this
  · have := trsOf_mem R 0 k r hk hr
    rw [Nat.zero_add] at this
    simpa using this
  · refine hQ _ a' W' hK ⟨sh', ?_⟩
    exact (h'.next hpins _).less fun id hid => hid
  · exact Nat.le_trans (List.length_filter_le _ _) (by simp)
  · intro j o hj
    rw [Array.getD_eq_getD_getElem?, Array.getElem?_replicate] at hj
    split at hj <;> simp at hj
  · rw [e0]
    exact h1.less fun id hid => hid.1
end Go.Proofs.YtedciihjgbkjgacGreatDoor.A

/-! THE ABSTRACT SEMANTICS IS SOUND: a function does what its code comes to. Conditions: none. -/
namespace Go.Proofs.YtedciihjgbkjgacGreatDoor.A
open Go
set_option linter.unusedSimpArgs false
set_option linter.unusedVariables false

theorem start_tmps {n : Nat} {vs : List Value} (h : vs.length ≤ n) (t : Nat) : ((vs.toArray ++ Array.replicate (n - vs.length) undef).getD t undef = undef ∧ vs[t]? = none) ∨ vs[t]? = some ((vs.toArray ++ Array.replicate (n - vs.length) undef).getD t undef) := by
  rcases Nat.lt_or_ge t vs.length with ht | ht
  · right
    rw [Array.getD_eq_getD_getElem?, Array.getElem?_append_left (by simpa using ht)]
    simp [ht]
  · left
    refine ⟨?_, by simp [ht]⟩
    rw [Array.getD_eq_getD_getElem?, Array.getElem?_append_right (by simpa using ht), Array.getElem?_replicate]
    split <;> rfl

theorem lvsRep_length {W : World} {lab : Nat → Lab} : ∀ {k : Nat} {ls : List LV} {vs : List Value}, LVsRep W lab k ls vs → ls.length = vs.length
  | _, [], [], _ => rfl
  | k, l :: ls, v :: vs, ⟨_, h⟩ => by simp [lvsRep_length h]
  | _, [], _ :: _, h => h.elim
  | _, _ :: _, [], h => h.elim

/-- A FUNCTION'S CONTRACT FROM ITS CODE. -/
theorem sat_of_body {P : Program} (hm : P.follows .mixedOrders = true) {f : FuncId} {fn : Func} {c : Code} {args res upd' : List LV} (hf : P.funcs[f]? = some fn) (hb : fn.body = some c)
    (hn : (fn.name == "runtime.NumGoroutine") = false) (hok : okCode fn.ntmps c = true) {rs : List ResultVar} (hr : fn.results.toList = rs) (hargs : (LVok args 60 && decide (args.length ≤ fn.ntmps)) = true) (hres : LVokR res = true)
    (h : Awp P c (endQ P rs args res upd') (startOf args)) : Sat P f args res upd' := by
  simp only [Bool.and_eq_true, decide_eq_true_eq] at hargs
  obtain ⟨hargs, hlen⟩ := hargs
  refine ⟨hargs, hres, fun W lab vs hdead hrep => ?_⟩
  have hvl := lvsRep_length hrep
  have hbody : fn.body.isNone = false := by rw [hb]; rfl
  have hcf : (callFunc f vs.toArray).run P W = .ok (.enter f vs.toArray) W := by
    have h1 : fn.name ≠ "runtime.NumGoroutine" := by simpa using hn
    simp [callFunc, hf, h1, hb, Sem.run, program]
  unfold CallF
  rw [hcf]
  simp only
  refine calls_of_wp hf hb ?_
  have hinv : InvS ⟨W, lab, fn.ntmps, pinsOf args vs⟩ (startOf args) (sh0 lab args vs) ⟨vs.toArray ++ Array.replicate (fn.ntmps - vs.toArray.size) undef, []⟩ W (fun id => 1000 ≤ id) :=
    start_inv hargs hrep hdead (by omega) (by simp; omega) rfl (by simpa using start_tmps (by omega))
  have hp960 : ∀ q ∈ pinsOf args vs, q.1 < 960 := by
    obtain ⟨h60, h16⟩ := lvok_all hargs
    obtain ⟨hk1, _⟩ := aAll_keys (k := 0) (ls := args) (vs := vs) h16
    intro q hq
    obtain ⟨r, hr, rfl⟩ := List.mem_map.mp hq
    have := hk1 r hr
    show r.k < 960
    omega
  refine awp_sound (cx := ⟨W, lab, fn.ntmps, pinsOf args vs⟩) hp960 (fun hok hst => draw_sound hm (fun q hq => by have := hp960 q hq; omega) hok hst) c hok ⟨_, hinv⟩ h ?_
  rintro e st' a' W' hE ⟨sh', hi⟩
  have fin : endsK P rs args res upd' st' → a'.defers = [] ∧ ∃ v, (results fn a'.tmps).run P W' = .ok v W' ∧ ∃ v_1, Ending.returned v = .returned v_1 ∧ ∃ lab', ResRep W' lab' res v_1 ∧ LVsRep W' lab' 0 upd' vs ∧ Ext W lab W' lab' := by
    intro hE
    obtain ⟨v, h1, h2⟩ := frame_end hi hr hargs hres hrep rfl hE
    exact ⟨hi.defers, v, h1, v, rfl, h2⟩
  cases e with
  | normal => exact fin hE
  | ret => exact fin hE
  | _ => exact hE.elim
end Go.Proofs.YtedciihjgbkjgacGreatDoor.A
