/- CLOSURES THAT CALL THEMSELVES: captured variables that hold a slice of one's own and the closure itself. Conditions: none. -/
import Derived.Test.YtedciihjgbkjgacGreatDoorA39
namespace Go.Proofs.YtedciihjgbkjgacGreatDoor.A
open Go
set_option linter.unusedSimpArgs false
set_option linter.unusedVariables false

/-! #### a long list of operations is written as two -/
theorem lapp_cons {α : Type} {a : α} {as bs : List α} : List.append (a :: as) bs = a :: List.append as bs := rfl
theorem lapp_nil {α : Type} {bs : List α} : List.append [] bs = bs := rfl
attribute [go_sem ↓] lapp_cons lapp_nil
/-! #### code that the abstract semantics runs but in part -/
/-- Run from a state, the code ends as 'R' says. -/
def Bwp (P : Program) (n : Nat) (c : Code) (R : Exit → St → Prop) (st : St) : Prop :=
  ∀ (cx : Cx) (a : Act) (W : World) (Q : Exit → Act → World → Prop), cx.n = n → (∀ q ∈ cx.pins, q.1 < 960) → Inv cx st a W →
    (∀ e st' a' W', R e st' → Inv cx st' a' W' → Q e a' W') → c.wp P Q a W
section bwp
variable {P : Program} {n : Nat} {R : Exit → St → Prop} {st : St}
theorem bwp_awp (hm : P.follows .mixedOrders = true) {c : Code} (hok : okCode n c = true) (h : Awp P c R st) : Bwp P n c R st := by
  intro cx a W Q hn hp hi hQ
  subst hn
  exact awp_sound hp (fun hok hst => draw_sound hm (fun q hq => by have := hp q hq; omega) hok hst) c hok hi h hQ
theorem bwp_seqB {x y : Code} (h : Bwp P n x (Exit.go (Bwp P n y R) R) st) : Bwp P n (.seq x y) R st := by
  intro cx a W Q hn hp hi hQ
  refine wp_seq (h cx a W _ hn hp hi fun e st' a' W' hR hi' => ?_)
  cases e with
  | normal => exact hR cx a' W' Q hn hp hi' hQ
  | _ => exact hQ _ _ _ _ hR hi'
theorem bwp_seq (hm : P.follows .mixedOrders = true) {x y : Code} (hok : okCode n x = true) (h : Awp P x (Exit.go (Bwp P n y R) R) st) : Bwp P n (.seq x y) R st :=
  bwp_seqB (bwp_awp hm hok h)
theorem bwp_condK {c : Operand} {x y : Code} (h : match st.ev c with | .pk (.one (.sc (.bool t))) => (if t then Bwp P n x R st else Bwp P n y R st) | _ => False) : Bwp P n (.cond c x y) R st := by
  intro cx a W Q hn hp hi hQ
  split at h
  · rename_i t hc
    obtain ⟨sh, hi⟩ := hi
    have ec := hi.ev c
    rw [hc] at ec
    have ec : a.eval c = .bool t := ec
    refine wp_cond ec ?_
    cases t with
    | true => exact h cx a W Q hn hp ⟨sh, hi⟩ hQ
    | false => exact h cx a W Q hn hp ⟨sh, hi⟩ hQ
  · exact h.elim
theorem bwp_cond {c : Operand} {t : Bool} {x y : Code} (hc : st.ev c = .sc (.bool t)) (h1 : t = true → Bwp P n x R st) (h2 : t = false → Bwp P n y R st) : Bwp P n (.cond c x y) R st := by
  refine bwp_condK ?_
  rw [hc]
  cases t
  · exact h2 rfl
  · exact h1 rfl
theorem bwp_block {id : Nat} {b : Code} (h : Bwp P n b (Exit.blk id R) st) : Bwp P n (.block id b) R st := by
  intro cx a W Q hn hp hi hQ
  refine wp_block (h cx a W _ hn hp hi fun e st' a' W' hR hi' => ?_)
  cases e with
  | exit id' =>
    simp only [Exit.blk] at hR
    unfold Exit.inBlock
    split at hR <;> rename_i e
    · subst e; simp; exact hQ _ _ _ _ hR hi'
    · simp [e]; exact hQ _ _ _ _ hR hi'
  | _ => exact hQ _ _ _ _ hR hi'
theorem bwp_loop {b : Code} (ι : Type) (S : ι → St) (good : ι → Prop) (μ : ι → Nat) (i0 : ι) (hg0 : good i0) (hl0 : Le st (S i0))
    (hround : ∀ i, good i → Bwp P n b (Exit.go (fun st' => ∃ i', good i' ∧ μ i' < μ i ∧ Le st' (S i')) R) (S i)) : Bwp P n (.loop b) R st := by
  intro cx a W Q hn hp hi hQ
  have key : ∀ (m : Nat) (i : ι) (a : Act) (W : World), μ i < m → good i → Inv cx (S i) a W → Code.rounds P b Q m a W := by
    intro m
    induction m with
    | zero => intro i a W hlt; omega
    | succ m ih =>
      intro i a W hlt hg hi
      refine hround i hg cx a W _ hn hp hi fun e st' a' W' hR hi' => ?_
      cases e with
      | normal =>
        obtain ⟨i', hg', hlt', hle⟩ := hR
        exact ih i' a' W' (by omega) hg' (hle cx a' W' hp hi')
      | _ => exact hQ _ _ _ _ hR hi'
  exact wp_loop_rounds (μ i0 + 1) (key _ i0 a W (by omega) hg0 (hl0 cx a W hp hi))
theorem bwp_le {c : Code} {st' : St} (hl : Le st st') (h : Bwp P n c R st') : Bwp P n c R st :=
  fun cx a W Q hn hp hi hQ => h cx a W Q hn hp (hl cx a W hp hi) hQ
theorem bwp_skip (h : R .normal st) : Bwp P n .skip R st := fun cx a W Q hn hp hi hQ => wp_skip (hQ _ _ _ _ h hi)
theorem bwp_ret (h : R .ret st) : Bwp P n .ret R st := fun cx a W Q hn hp hi hQ => wp_ret (hQ _ _ _ _ h hi)
theorem bwp_exit {id : Nat} (h : R (.exit id) st) : Bwp P n (.exit id) R st := fun cx a W Q hn hp hi hQ => wp_exit (hQ _ _ _ _ h hi)
end bwp

/-- The first operations of a region, one after another. -/
theorem run_then {P : Program} {cx : Cx} {Q : Exit → Act → World → Prop} (hpins : ∀ q ∈ cx.pins, q.1 < 1000) {ops : Array Oper} {base : Nat} (hbound : ∀ o ∈ ops.toList, ∀ d', o.dst = some d' → d' < cx.n) {K : St → Prop} {tail : List Oper} :
    ∀ (pre : List Oper) (i : Nat) {st : St} {sh : Sh} {a : Act} {W : World}, ops.toList.drop i = pre ++ tail → InvS cx st sh a W (fun id => base + 64 * i ≤ id) → runK P (ops.toList.map (·.dst)) base i pre st K →
      (∀ st' sh' a' W', K st' → InvS cx st' sh' a' W' (fun id => base + 64 * (i + pre.length) ≤ id) → wpOps P ops Q (List.range' (i + pre.length) tail.length) a' W') → wpOps P ops Q (List.range' i (pre.length + tail.length)) a W
  | [], i, st, sh, a, W, hd, h, hK, hQ => by
    have := hQ st sh a W hK (by simpa using h)
    simpa using this
  | o :: r, i, st, sh, a, W, hd, h, hK, hQ => by
    have hi : i < ops.toList.length := by
      rcases Nat.lt_or_ge i ops.toList.length with g | g
      · exact g
      · rw [List.drop_eq_nil_of_le g] at hd; cases hd
    rw [List.drop_eq_getElem_cons hi] at hd
    simp only [List.cons_append, List.cons.injEq] at hd
    obtain ⟨ho, hr⟩ := hd
    have hget : ops[i]? = some o := by
      rw [← Array.getElem?_toList, List.getElem?_eq_getElem hi, ho]
    have hmem : o ∈ ops.toList := by rw [← ho]; exact List.getElem_mem hi
    have hdst := hbound o hmem
    have hQ' : ∀ st' sh' a' W', K st' → InvS cx st' sh' a' W' (fun id => base + 64 * (i + 1 + r.length) ≤ id) → wpOps P ops Q (List.range' (i + 1 + r.length) tail.length) a' W' := by
      intro st' sh' a' W' k1 k2
      have := hQ st' sh' a' W' k1 (by simpa [Nat.add_assoc, Nat.add_comm 1] using k2)
      simpa [Nat.add_assoc, Nat.add_comm 1] using this
    have elen : (o :: r).length + tail.length = (r.length + tail.length) + 1 := by simp only [List.length_cons]; omega
    rw [elen]
    simp only [List.range'_succ, wpOps, hget]
    have step : effK P st (base + 64 * i) o (fun e => runK P (ops.toList.map (·.dst)) base (i + 1) r (st.app o.dst e) K) → o.wp P a W (wpOps P ops Q (List.range' (i + 1) (r.length + tail.length))) Q := by
      intro hE
      have hg := eff_sound (Q := Q) h hdst (fun k hk => by show base + 64 * i ≤ base + 64 * i + k; omega) hpins hE
      unfold Good at hg
      refine Oper.wp_mono (fun a' W' hx => ?_) hg
      obtain ⟨e, sh', hK', hi'⟩ := hx
      exact run_then hpins hbound r (i + 1) hr (hi'.less fun id hid => ⟨by omega, by omega⟩) hK' hQ'
    unfold runK at hK
    split at hK
    · rename_i hgd
      have hw : Region.wanted o (yielded ops a.tmps) = true := by simp [Region.wanted, hgd]
      rw [if_pos hw]
      exact .inl (step hK)
    · rename_i g want hgd
      split at hK
      · rename_i b hy
        have hyy := h.yielded hy
        split at hK
        · rename_i e
          have hw : Region.wanted o (yielded ops a.tmps) = true := by simp [Region.wanted, hgd, hyy, e]
          rw [if_pos hw]
          exact .inl (step hK)
        · rename_i e
          have hw : Region.wanted o (yielded ops a.tmps) = false := by simp [Region.wanted, hgd, hyy, e]
          rw [hw]
          simp only [Bool.false_eq_true, if_false]
          have h' := InvS.put h hdst (av := .tup []) (v := undef) ⟨#[], rfl, trivial⟩ (fun id _ hm => by simp [AV.ids, AV.svs, Pk.svs, SV.ids] at hm)
          exact run_then hpins hbound r (i + 1) hr (h'.less fun id hid => by omega) hK hQ'
      · obtain ⟨hs, hK⟩ := hK
        have hw : Region.wanted o (yielded ops a.tmps) = false := by simp [Region.wanted, hgd, h.skipped hs]
        rw [hw]
        simp only [Bool.false_eq_true, if_false]
        have h' := InvS.put h hdst (av := .tup []) (v := undef) ⟨#[], rfl, trivial⟩ (fun id _ hm => by simp [AV.ids, AV.svs, Pk.svs, SV.ids] at hm)
        exact run_then hpins hbound r (i + 1) hr (h'.less fun id hid => by omega) hK hQ'

/-! #### captured variables -/
/-- What a captured variable holds: fields; a slice of one's own; the closure itself. -/
inductive CV where
  | flds (fs : List Fld)
  | own (w : Nat) (rows : Rows)
  | self (f : FuncId)
def ptrOf (b : Nat) : Value := .pointer (some ⟨b, 0, none⟩)
def CVRep (W : World) (lab : Nat → Lab) (bs : List Nat) (oid : Nat) (hd : Value) : CV → List Value → Prop
  | .flds fs, c => All2 (fun f v => FldRep W lab f v) fs c
  | .own w rows, c => ∃ v, c = [v] ∧ ViewIs hd w 0 rows.length v ∧ OwnRep W lab oid w rows hd ∧ stm 999 rows = rows
  | .self f, c => ∃ cs : Array Value, c = [.func (.func f) #[] cs] ∧ cs.toList = bs.map ptrOf
def VarsRep (W : World) (lab : Nat → Lab) (bs0 : List Nat) (oid : Nat) (hd : Value) : List CV → List Nat → List Nat → Prop
  | [], [], [] => True
  | cv :: T, id :: ids, b :: bs => (lab b = .var id ∧ ∃ (c : Array Value) (t : TypeId), W.heap[b]? = some (.cells c t (0, 0)) ∧ CVRep W lab bs0 oid hd cv c.toList) ∧ VarsRep W lab bs0 oid hd T ids bs
  | _, _, _ => False
/-- What the state of a frame says of them. -/
def CV.svs (ids : List Nat) (oid : Nat) : CV → List SV
  | .flds fs => fs.map Fld.sv
  | .own w rows => [.ref oid w 0 rows.length]
  | .self f => [.fnv f ids]
def varsT (ids : List Nat) (oid : Nat) : List CV → List Nat → List (Nat × List SV)
  | cv :: T, id :: r => (id, cv.svs ids oid) :: varsT ids oid T r
  | _, _ => []
def objsT (oid : Nat) : List CV → List (Nat × Obj')
  | [] => []
  | .own w rows :: T => (oid, (w, rows)) :: objsT oid T
  | _ :: T => objsT oid T
def idsT : Nat → List CV → List Nat
  | _, [] => []
  | k, _ :: T => k :: idsT (k + 1) T
def enumT : Nat → List SV → List (Nat × AV)
  | _, [] => []
  | k, s :: r => (k, .one s) :: enumT (k + 1) r
def LV.plain : LV → Bool
  | .one (.sc _) => true
  | .one (.im _ _) => true
  | _ => false
def argOf : LV → SV
  | .one l => argSV 0 l
  | .agg _ => .un
/-- The state at the closure's entry. -/
def cvSt (args : List LV) (T : List CV) : St :=
  mkSt (enumT 0 (args.map argOf ++ (idsT 900 T).map fun id => .vad id 0)) (varsT (idsT 900 T) 960 T (idsT 900 T)) (objsT 960 T) 1000
/-- THE CONTRACT of a closure that changes what its captured variables hold. -/
def RSat (P : Program) (f : FuncId) (args : List LV) (T T' : List CV) : Prop :=
  ∀ (W : World) (lab : Nat → Lab) (bs : List Nat) (hd : Value) (vs : List Value), (∀ b, W.heap.size ≤ b → lab b = .dead) → VarsRep W lab bs 960 hd T (idsT 900 T) bs → LVsRep W lab 0 args vs →
    CallF P f (vs ++ bs.map ptrOf).toArray W fun _ W' => ∃ lab' hd', VarsRep W' lab' bs 960 hd' T' (idsT 900 T') bs ∧ Ext W lab W' lab'

section vars
variable {W : World} {lab lab2 : Nat → Lab} {bs0 : List Nat} {oid oid2 : Nat} {hd : Value}
theorem varsRep_length : ∀ {T : List CV} {ids bs : List Nat}, VarsRep W lab bs0 oid hd T ids bs → ids.length = T.length ∧ bs.length = T.length
  | [], [], [], _ => ⟨rfl, rfl⟩
  | _ :: T, _ :: ids, _ :: bs, ⟨_, h⟩ => by obtain ⟨h1, h2⟩ := varsRep_length h; simp [h1, h2]
  | [], [], _ :: _, h => h.elim
  | [], _ :: _, _, h => h.elim
  | _ :: _, [], _, h => h.elim
  | _ :: _, _ :: _, [], h => h.elim
theorem varsRep_get : ∀ {T : List CV} {ids bs : List Nat} {j : Nat} {cv : CV}, VarsRep W lab bs0 oid hd T ids bs → T[j]? = some cv →
    ∃ id b, ids[j]? = some id ∧ bs[j]? = some b ∧ lab b = .var id ∧ ∃ (c : Array Value) (t : TypeId), W.heap[b]? = some (.cells c t (0, 0)) ∧ CVRep W lab bs0 oid hd cv c.toList
  | cv :: T, id :: ids, b :: bs, 0, _, ⟨h, _⟩, e => by simp at e; subst e; exact ⟨id, b, by simp, by simp, h.1, h.2⟩
  | _ :: T, _ :: ids, _ :: bs, j + 1, _, ⟨_, h⟩, e => by simp at e; simpa using varsRep_get h e
  | [], _, _, _, _, _, e => by simp at e
  | _ :: _, [], _, _, _, h, _ => h.elim
  | _ :: _, _ :: _, [], _, _, h, _ => h.elim
theorem varsRep_of : ∀ {T : List CV} {ids bs : List Nat}, ids.length = T.length → bs.length = T.length → (∀ (j : Nat) (cv : CV) (id b : Nat), T[j]? = some cv → ids[j]? = some id → bs[j]? = some b →
      lab b = .var id ∧ ∃ (c : Array Value) (t : TypeId), W.heap[b]? = some (.cells c t (0, 0)) ∧ CVRep W lab bs0 oid hd cv c.toList) → VarsRep W lab bs0 oid hd T ids bs
  | [], [], [], _, _, _ => trivial
  | cv :: T, id :: ids, b :: bs, h1, h2, h => ⟨h 0 cv id b (by simp) (by simp) (by simp), varsRep_of (by simpa using h1) (by simpa using h2) fun j cv id b a1 a2 a3 => h (j + 1) cv id b (by simpa using a1) (by simpa using a2) (by simpa using a3)⟩
  | [], _ :: _, _, h, _, _ => by simp at h
  | [], [], _ :: _, _, h, _ => by simp at h
  | _ :: _, [], _, h, _, _ => by simp at h
  | _ :: _, _ :: _, [], _, h, _ => by simp at h
/-- The labels may be renamed. -/
theorem varsRep_ren {T : List CV} {ids ids2 bs : List Nat} (hl : ids2.length = T.length) (himm : ∀ b, lab b = .imm → lab2 b = .imm) (hown : ∀ b, lab b = .own oid → lab2 b = .own oid2) (hinn : ∀ b i j, lab b = .inn oid i j → lab2 b = .inn oid2 i j)
    (hvar : ∀ (j id id2 b : Nat), ids[j]? = some id → ids2[j]? = some id2 → lab b = .var id → lab2 b = .var id2) (h : VarsRep W lab bs0 oid hd T ids bs) : VarsRep W lab2 bs0 oid2 hd T ids2 bs := by
  obtain ⟨g1, g2⟩ := varsRep_length h
  have hag : Agree W lab W lab2 (· = .imm) := fun b hb => ⟨by rw [himm b hb, hb], rfl⟩
  refine varsRep_of hl g2 fun j cv id2 b a1 a2 a3 => ?_
  obtain ⟨id, b', e1, e2, e3, c, t, e4, e5⟩ := varsRep_get h a1
  rw [a3] at e2; cases e2
  refine ⟨hvar j id id2 b e1 a2 e3, c, t, e4, ?_⟩
  cases cv with
  | flds fs => exact all2_mono (fun f v _ g => fldRep_agree hag rfl g) e5
  | own w rows =>
    obtain ⟨v, k1, k2, k3, k4⟩ := e5
    exact ⟨v, k1, k2, ownRep_map (.inl himm) hown hinn k3, k4⟩
  | self f => exact e5
theorem idsT_length : ∀ (k : Nat) (T : List CV), (idsT k T).length = T.length
  | _, [] => rfl
  | k, _ :: T => by simp [idsT, idsT_length (k + 1) T]
theorem idsT_get : ∀ {k : Nat} {T : List CV} {j id : Nat}, (idsT k T)[j]? = some id → id = k + j ∧ j < T.length
  | _, [], _, _, h => by simp [idsT] at h
  | k, _ :: T, 0, id, h => by simp [idsT] at h; simp [h]
  | k, _ :: T, j + 1, id, h => by
    simp [idsT] at h
    obtain ⟨h1, h2⟩ := idsT_get h
    simp only [List.length_cons]
    omega
theorem varsT_mem {ids : List Nat} {oid : Nat} : ∀ {T : List CV} {r : List Nat} {p : Nat × List SV}, p ∈ varsT ids oid T r → ∃ (j : Nat) (cv : CV) (id : Nat), T[j]? = some cv ∧ r[j]? = some id ∧ p = (id, cv.svs ids oid)
  | [], _, _, h => by simp [varsT] at h
  | _ :: _, [], _, h => by simp [varsT] at h
  | cv :: T, id :: r, p, h => by
    simp only [varsT, List.mem_cons] at h
    rcases h with rfl | h
    · exact ⟨0, cv, id, by simp, by simp, rfl⟩
    · obtain ⟨j, cv', id', h1, h2, h3⟩ := varsT_mem h
      exact ⟨j + 1, cv', id', by simpa using h1, by simpa using h2, h3⟩
theorem objsT_mem {oid : Nat} : ∀ {T : List CV} {p : Nat × Obj'}, p ∈ objsT oid T → ∃ (j : Nat) (w : Nat) (rows : Rows), T[j]? = some (.own w rows) ∧ p = (oid, (w, rows))
  | [], _, h => by simp [objsT] at h
  | cv :: T, p, h => by
    cases cv with
    | own w rows =>
      simp only [objsT, List.mem_cons] at h
      rcases h with rfl | h
      · exact ⟨0, w, rows, by simp, rfl⟩
      · obtain ⟨j, w', rows', h1, h2⟩ := objsT_mem h
        exact ⟨j + 1, w', rows', by simpa using h1, h2⟩
    | _ =>
      simp only [objsT] at h
      obtain ⟨j, w', rows', h1, h2⟩ := objsT_mem h
      exact ⟨j + 1, w', rows', by simpa using h1, h2⟩
theorem objsT_has {oid : Nat} : ∀ {T : List CV} {j w : Nat} {rows : Rows}, T[j]? = some (.own w rows) → (oid, ((w, rows) : Obj')) ∈ objsT oid T
  | [], _, _, _, h => by simp at h
  | cv :: T, 0, w, rows, h => by simp at h; subst h; simp [objsT]
  | cv :: T, j + 1, w, rows, h => by
    simp at h
    have := objsT_has (oid := oid) h
    cases cv <;> simp [objsT, this]
theorem look_objs {slots : List (Nat × AV)} {vars : List (Nat × List SV)} {objs : List (Nat × Obj')} {next id : Nat} {x : Obj'} (h : (mkSt slots vars objs next).objs id = some x) : (id, x) ∈ objs := by
  simp only [mkSt] at h
  rcases look_mem (d := none) (l := objs.map fun p => (p.1, some p.2)) (k := id) with ⟨e, _⟩ | ⟨p, hp, e1, e2⟩
  · rw [e] at h; cases h
  · rw [e2] at h
    obtain ⟨q, hq, rfl⟩ := List.mem_map.mp hp
    simp only [Option.some.injEq] at h
    simp only at e1
    rw [← e1, ← h]; exact hq
theorem look_vars {slots : List (Nat × AV)} {vars : List (Nat × List SV)} {objs : List (Nat × Obj')} {next id : Nat} {x : List SV} (h : (mkSt slots vars objs next).vars id = some x) : (id, x) ∈ vars := by
  simp only [mkSt] at h
  rcases look_mem (d := none) (l := vars.map fun p => (p.1, some p.2)) (k := id) with ⟨e, _⟩ | ⟨p, hp, e1, e2⟩
  · rw [e] at h; cases h
  · rw [e2] at h
    obtain ⟨q, hq, rfl⟩ := List.mem_map.mp hp
    simp only [Option.some.injEq] at h
    simp only at e1
    rw [← e1, ← h]; exact hq
theorem one_mem {α : Type} {l : List α} (h : l.length ≤ 1) {x y : α} (hx : x ∈ l) (hy : y ∈ l) : x = y := by
  match l, h with
  | [], _ => cases hx
  | [a], _ => simp at hx hy; rw [hx, hy]
  | _ :: _ :: _, h => simp at h
/-- What a frame's invariant asks of the variables. -/
theorem cv_vars {sh : Sh} {T : List CV} {ids bs : List Nat} {slots : List (Nat × AV)} {next : Nat} (hone : (objsT oid T).length ≤ 1) (hV : VarsRep W sh.lab bs oid (sh.μ oid) T ids bs) (hb : ids.map sh.β = bs) {id : Nat} {fs : List SV}
    (hf : (mkSt slots (varsT ids oid T ids) (objsT oid T) next).vars id = some fs) :
    sh.lab (sh.β id) = .var id ∧ ∃ (c : Array Value) (t : TypeId), W.heap[sh.β id]? = some (.cells c t (0, 0)) ∧ All2 (SVRep (mkSt slots (varsT ids oid T ids) (objsT oid T) next) W sh) fs c.toList := by
  obtain ⟨j, cv, id', h1, h2, h3⟩ := varsT_mem (look_vars hf)
  cases h3
  obtain ⟨id', b, e1, e2, e3, c, t, e4, e5⟩ := varsRep_get hV h1
  rw [h2] at e1; cases e1
  have eb : b = sh.β id := by
    rw [← hb, List.getElem?_map, h2] at e2
    simpa using e2.symm
  subst eb
  refine ⟨e3, c, t, e4, ?_⟩
  cases cv with
  | flds gs =>
    simp only [CV.svs]
    refine all2_of_get (by rw [List.length_map]; exact all2_length e5) fun k s v hs hv => ?_
    simp only [List.getElem?_map, Option.map_eq_some_iff] at hs
    obtain ⟨f, hf', rfl⟩ := hs
    obtain ⟨v', g1, g2⟩ := all2_get e5 hf'
    rw [hv] at g1; cases g1
    cases f with
    | sc x => exact g2
    | im w rows => exact g2
  | own w rows =>
    obtain ⟨v, k1, k2, k3, k4⟩ := e5
    rw [k1]
    refine ⟨fun w' rows' ho => ?_, trivial⟩
    have := one_mem hone (look_objs ho) (objsT_has h1)
    simp only [Prod.mk.injEq, true_and] at this
    obtain ⟨rfl, rfl⟩ := this
    exact ⟨rfl, by omega, k2⟩
  | self f =>
    obtain ⟨cs, k1, k2⟩ := e5
    rw [k1]
    refine ⟨⟨cs, rfl, ?_⟩, trivial⟩
    rw [k2, ← hb]
    refine all2_of_get (by simp) fun k q u hq hu => ?_
    simp only [List.map_map, List.getElem?_map, Option.map_eq_some_iff] at hu
    obtain ⟨q', hq', rfl⟩ := hu
    rw [hq] at hq'; cases hq'
    exact fun _ _ => rfl
theorem cv_objs {sh : Sh} {T : List CV} {ids bs : List Nat} {slots : List (Nat × AV)} {vars : List (Nat × List SV)} {next : Nat} (hV : VarsRep W sh.lab bs oid (sh.μ oid) T ids bs) {id w : Nat} {rows : Rows}
    (ho : (mkSt slots vars (objsT oid T) next).objs id = some (w, rows)) : id = oid ∧ OwnRep W sh.lab id w rows (sh.μ id) ∧ stm 999 rows = rows := by
  obtain ⟨j, w', rows', h1, h2⟩ := objsT_mem (look_objs ho)
  simp only [Prod.mk.injEq] at h2
  obtain ⟨rfl, rfl, rfl⟩ := h2
  obtain ⟨_, _, _, _, _, _, _, _, v, k1, k2, k3, k4⟩ := varsRep_get hV h1
  exact ⟨rfl, k3, k4⟩
end vars

theorem enumT_look : ∀ (l : List SV) (k t : Nat), look AV.un (enumT k l) t = if k ≤ t then ((l[t - k]?).map AV.one).getD .un else .un
  | [], k, t => by simp [enumT, look]
  | s :: r, k, t => by
    simp only [enumT, look]
    rw [enumT_look r (k + 1) t]
    by_cases e : t = k
    · subst e; simp
    · rw [if_neg e]
      by_cases hk : k ≤ t
      · rw [if_pos hk, if_pos (by omega), show t - k = (t - (k + 1)) + 1 by omega, List.getElem?_cons_succ]
      · rw [if_neg hk, if_neg (by omega)]
end Go.Proofs.YtedciihjgbkjgacGreatDoor.A
