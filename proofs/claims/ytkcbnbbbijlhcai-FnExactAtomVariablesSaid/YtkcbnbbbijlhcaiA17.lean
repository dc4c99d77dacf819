/- THE ABSTRACT SEMANTICS IS SOUND, thirteenth part: append, and stores into slices of one's own. Conditions: none. -/
import Derived.Test.YtkcbnbbbijlhcaiA16
namespace Go.Proofs.Ytkcbnbbbijlhcai.A
open Go
set_option linter.unusedSimpArgs false
set_option linter.unusedVariables false

def renameL (id nid : Nat) : Lab → Lab
  | .own q => if q = id then .own nid else .own q
  | .inn q i j => if q = id then .inn nid i j else .inn q i j
  | l => l

section app
variable {P : Program} {cx : Cx} {st : St} {sh : Sh} {a : Act} {W : World} {Fr : Nat → Prop} {nid : Nat} {o : Oper} {K : Eff → Prop} {Q : Exit → Act → World → Prop}

/-- What is appended to. -/
structure Dst (W : World) (lab : Nat → Lab) (nid w : Nat) (old : Rows) (v : Value) (A : Option Addr) (cap : Nat) : Prop where
  val : v = .slice A old.length cap
  fit : old.length ≤ cap
  wide : ∀ r ∈ old, r.length = w
  lies : (cap = 0 ∧ old = []) ∨ ∃ (b : Nat) (c : Array Value) (t : TypeId), A = some ⟨b, 0, none⟩ ∧ lab b = .own nid ∧ W.heap[b]? = some (.cells c t (0, 0)) ∧ c.size = cap * w ∧ RowsRep W lab nid w old c.toList

theorem dst_ref (h : InvS cx st sh a W Fr) (hpins : ∀ q ∈ cx.pins, q.1 < 1000) (hnid : st.objs nid = none) {id w len : Nat} {v : Value} (hv : SVRep st W sh (.ref id w 0 len) v) {w2 : Nat} {rows : Rows} (hob : st.objs id = some (w2, rows)) (hlen : len = rows.length) :
    w2 = w ∧ ∃ π A cap, Grafted cx st sh a W Fr nid [(id, none)] π ∧ Dst W (fun b => π (sh.lab b)) nid w rows v A cap := by
  obtain ⟨rfl, _, hvi⟩ := hv w2 rows hob
  subst hlen
  refine ⟨rfl, ?_⟩
  have hne : id ≠ nid := by rintro rfl; rw [hnid] at hob; cases hob
  have hπ : goodπ (renameL id nid) := ⟨rfl, rfl, fun _ => rfl, rfl⟩
  have hobj : ∀ id' w rows', upd st.objs [(id, none)] id' = some (w, rows') → ∃ rows, st.objs id' = some (w, rows) ∧ Shrinks rows rows' ∧ renameL id nid (.own id') = .own id' ∧ ∀ i' j' s xs, Rows.cell rows' i' j' = .sl (s + 1) xs → renameL id nid (.inn id' i' j') = .inn id' i' j' := by
    intro id' w3 rows' ho'
    simp only [upd] at ho'
    split at ho'
    · cases ho'
    · rename_i hne'
      exact ⟨rows', ho', shrinks_refl _, by simp only [renameL, if_neg hne'], fun i' j' s xs _ => by simp only [renameL, if_neg hne']⟩
  have g : Grafted cx st sh a W Fr nid [(id, none)] (renameL id nid) := by
    refine ⟨hπ, h.relab hpins hπ hobj, relab_keeps st W sh hπ (fun id' w2 rows' ho' => ?_), ?_, fun id' hn => ?_⟩
    · obtain ⟨rows, k1, k2, _⟩ := hobj id' w2 rows' ho'
      exact ⟨rows, k1, k2⟩
    · rintro L' (rfl | ⟨i', j', rfl⟩) <;> simp only [renameL, if_neg hne.symm]
    · simp only [upd]; split
      · rfl
      · exact hn
  obtain ⟨hw0, hrl, hc⟩ := h.objs id w2 rows hob
  obtain ⟨A, cap, e, hcap, hA⟩ := own_shape h hob
  rcases view_all hvi e hA with hv' | ⟨hz, A', hv'⟩
  · refine ⟨_, A, cap, g, by rw [hv', e], hcap, hrl, ?_⟩
    rcases hc with ⟨A2, e2, hn⟩ | ⟨b, cap', c', t', e1, e2, e3, e4, e5, e6⟩
    · rw [e2] at e
      simp only [Value.slice.injEq] at e
      exact .inl ⟨e.2.2.symm, hn⟩
    · rw [e1] at e; cases e
      refine .inr ⟨b, c', t', rfl, by simp [e3, renameL], e4, e5, hrl, fun i j r x hi hj => ?_⟩
      obtain ⟨u, k1, k2⟩ := e6 i j r x hi hj
      exact ⟨u, by simpa using k1, ownCell_to hπ (fun s xs _ => by simp [renameL]) k2⟩
  · have : rows = [] := List.length_eq_zero_iff.mp hz
    subst this
    exact ⟨_, A', 0, g, by rw [hv']; rfl, by simp, by simp, .inl ⟨rfl, rfl⟩⟩

theorem dst_rin (h : InvS cx st sh a W Fr) (hpins : ∀ q ∈ cx.pins, q.1 < 1000) (hnid : st.objs nid = none) {id i0 j0 s len : Nat} {v : Value} (hv : SVRep st W sh (.rin id i0 j0 s 0 len) v) {wo : Nat} {rows : Rows} {xs : List Value} (hob : st.objs id = some (wo, rows)) (hc : Rows.cell rows i0 j0 = .sl s xs) (hlen : len = xs.length) :
    ∃ π A cap, Grafted cx st sh a W Fr nid [(id, some (wo, Rows.setCell rows i0 j0 .gone))] π ∧ Dst W (fun b => π (sh.lab b)) nid 1 (lift xs) v A cap := by
  subst hlen
  obtain ⟨g0, _, hd, g2, hvi⟩ := hv.2 wo rows xs hob hc
  obtain ⟨v', k1, k2⟩ := h.own_head hob hc g0
  rw [g2] at k1; cases k1
  obtain ⟨A, cap, e, hcap, hA⟩ := ownSl_shape k2
  have hne : id ≠ nid := by rintro rfl; rw [hnid] at hob; cases hob
  have hπ : goodπ (swapL (.inn id i0 j0) (.own nid)) := ⟨swapL_ne (by simp), swapL_ne (by simp), fun _ => swapL_ne (by simp), swapL_ne (by simp)⟩
  have hobj : ∀ id' w rows', upd st.objs [(id, some (wo, Rows.setCell rows i0 j0 .gone))] id' = some (w, rows') → ∃ rows, st.objs id' = some (w, rows) ∧ Shrinks rows rows' ∧ swapL (.inn id i0 j0) (.own nid) (.own id') = .own id' ∧
      ∀ i' j' s xs, Rows.cell rows' i' j' = .sl (s + 1) xs → swapL (.inn id i0 j0) (.own nid) (.inn id' i' j') = .inn id' i' j' := by
    intro id' w2 rows' ho'
    simp only [upd] at ho'
    split at ho'
    · rename_i e'
      subst e'
      simp only [Option.some.injEq, Prod.mk.injEq] at ho'
      obtain ⟨rfl, rfl⟩ := ho'
      refine ⟨rows, hob, shrinks_gone rows i0 j0, swapL_ne (by simp), fun i' j' s xs' hc' => swapL_ne ?_⟩
      intro e'
      simp only [Lab.inn.injEq, true_and] at e'
      obtain ⟨rfl, rfl⟩ := e'
      obtain ⟨r, m1, m2⟩ := cell_get hc' (by simp)
      obtain ⟨q1, q2⟩ := cell_ne hc
      simp only [Rows.setCell] at m1
      rw [List.getElem?_set_self (by omega)] at m1
      simp only [Option.some.injEq] at m1
      subst m1
      rw [List.getElem?_set_self (by omega)] at m2
      cases m2
    · rename_i hne'
      exact ⟨rows', ho', shrinks_refl _, swapL_ne (by simp), fun i' j' s xs _ => swapL_ne (by simp [hne'])⟩
  have g : Grafted cx st sh a W Fr nid [(id, some (wo, Rows.setCell rows i0 j0 .gone))] (swapL (.inn id i0 j0) (.own nid)) := by
    refine ⟨hπ, h.relab hpins hπ hobj, relab_keeps st W sh hπ (fun id' w2 rows' ho' => ?_), ?_, fun id' hn => ?_⟩
    · obtain ⟨rows, k1, k2, _⟩ := hobj id' w2 rows' ho'
      exact ⟨rows, k1, k2⟩
    · rintro L (rfl | ⟨i', j', rfl⟩)
      · exact swapL_ne (by simp)
      · exact swapL_ne (by simp [hne.symm])
    · simp only [upd]; split
      · rename_i e'; subst e'; rw [hob] at hn; cases hn
      · exact hn
  rcases view_all hvi e hA with hv' | ⟨hz, A', hv'⟩
  · refine ⟨_, A, cap, g, by rw [hv', e, lift_length], by rw [lift_length]; exact hcap, ?_, ?_⟩
    · intro r hr
      simp only [lift, List.mem_map] at hr
      obtain ⟨y, _, rfl⟩ := hr; rfl
    · rcases k2 with ⟨A2, e2, hn⟩ | ⟨b, cap', c', t', e1, e2, e3, e4, e5, e6⟩
      · rw [e2] at e
        simp only [Value.slice.injEq] at e
        exact .inl ⟨e.2.2.symm, by rw [hn]; rfl⟩
      · rw [e1] at e; cases e
        refine .inr ⟨b, c', t', rfl, by simp only [e3]; exact swapL_at _ _, e4, by rw [e5, Nat.mul_one], ?_, fun i j r x hi hj => ?_⟩
        · intro r hr
          simp only [lift, List.mem_map] at hr
          obtain ⟨y, _, rfl⟩ := hr; rfl
        · simp only [lift, List.getElem?_map, Option.map_eq_some_iff] at hi
          obtain ⟨y, hy, rfl⟩ := hi
          cases j with
          | zero =>
            simp at hj; subst hj
            obtain ⟨m1, m2⟩ := e6 i y hy
            exact ⟨y, by simpa using m2, rfl, m1⟩
          | succ j => simp at hj
  · have : xs = [] := List.length_eq_zero_iff.mp hz
    subst this
    exact ⟨_, A', 0, g, by rw [hv']; rfl, by simp [lift], by simp [lift], .inl ⟨rfl, rfl⟩⟩

/-- The frame ends with a slice of its own more. -/
theorem good_addObj (hd : ∀ d', o.dst = some d' → d' < cx.n) (hnid : ∀ k, k < 64 → Fr (nid + k)) (hpins : ∀ q ∈ cx.pins, q.1 < 1000) {ws : List (Nat × Option Obj')} {sh1 : Sh} {W1 : World} (h : InvS cx ⟨st.slots, st.vars, upd st.objs ws, st.next⟩ sh1 a W1 Fr)
    {w n cap : Nat} {A : Option Addr} {rows : Rows} (hr : (execOp a.eval o).run P W = .ok (.value (.slice A n cap)) W1)
    (hn : rows.length = n) (hA : n = 0 ∧ cap = 0 ∨ ∀ a, A = some a → a.spot = none) (hrep : OwnRep W1 sh1.lab nid w rows (.slice A n cap)) (hst : ∀ r ∈ rows, ∀ s xs, Cell.sl s xs ∈ r → ¬ (Fr s ∧ ¬ (nid ≤ s ∧ s < nid + 64)))
    (hK : K ⟨.one (.ref nid w 0 n), (nid, some (w, rows)) :: ws, []⟩) : Good P cx st Fr nid o a W K Q := by
  unfold Good Oper.wp
  rw [hr]
  have hF0 : Fr nid := by simpa using hnid 0 (by omega)
  have h4 := h.addObj hpins hF0 hrep (Fr' := fun id => Fr id ∧ ¬ (nid ≤ id ∧ id < nid + 64)) (fun id hf => ⟨hf.1, by rintro rfl; exact hf.2 ⟨by omega, by omega⟩⟩)
    (fun i j s xs hc => by
      obtain ⟨r, m1, m2⟩ := cell_get hc (by simp)
      exact hst r (List.mem_of_getElem? m1) s xs (List.mem_of_getElem? m2))
  refine ⟨⟨.one (.ref nid w 0 n), (nid, some (w, rows)) :: ws, []⟩, _, hK, InvS.put h4 hd (av := .one (.ref nid w 0 n)) (v := .slice A n cap) ?_ ?_⟩
  · intro w' rows' ho
    simp only [upd, if_true, Option.some.injEq, Prod.mk.injEq] at ho
    obtain ⟨rfl, rfl⟩ := ho
    refine ⟨rfl, by omega, ?_⟩
    simp only [if_true]
    rcases hA with ⟨rfl, rfl⟩ | hA
    · exact .inr ⟨rfl, A, rfl⟩
    · left
      rw [viewOf_full]
      exact hA
  · intro id hf hm
    rw [one_ids] at hm
    simp only [SV.ids, List.mem_singleton] at hm
    subst hm
    exact hf.2 ⟨by omega, by omega⟩

theorem rowsRep_join {lab : Nat → Lab} {w : Nat} {old more : Rows} {c1 cells call : List Value} (h1 : RowsRep W lab nid w old c1) (h2 : AtRep W lab nid w old.length more cells) (e1 : ∀ k, k < old.length * w → call[k]? = c1[k]?) (e2 : ∀ k, k < more.length * w → call[old.length * w + k]? = cells[k]?) :
    RowsRep W lab nid w (old ++ more) call := by
  refine ⟨fun r hr => ?_, fun i j r x hi hj => ?_⟩
  · rcases List.mem_append.mp hr with hr | hr
    · exact h1.1 r hr
    · exact h2.1 r hr
  · by_cases hlt : i < old.length
    · rw [List.getElem?_append_left hlt] at hi
      obtain ⟨v, g1, g2⟩ := h1.2 i j r x hi hj
      exact ⟨v, by rw [e1 _ (index_lt h1.1 hi hj)]; exact g1, g2⟩
    · rw [List.getElem?_append_right (by omega)] at hi
      obtain ⟨v, g1, g2⟩ := h2.2 _ j r x hi hj
      refine ⟨v, ?_, by rw [show i = old.length + (i - old.length) by omega]; exact g2⟩
      rw [show i * w + j = old.length * w + ((i - old.length) * w + j) by
        rw [← Nat.add_assoc, ← Nat.add_mul]; congr 2; omega]
      rw [e2 _ (index_lt h2.1 hi hj)]; exact g1
theorem rowsRep_agree {W W' : World} {lab lab' : Nat → Lab} {S : Lab → Prop} (h : Agree W lab W' lab' S) (hS : S .imm) (hm : ∀ i j, S (.inn nid i j)) {w : Nat} {rows : Rows} {cells : List Value} (hr : RowsRep W lab nid w rows cells) : RowsRep W' lab' nid w rows cells := by
  refine ⟨hr.1, fun i j r x hi hj => ?_⟩
  obtain ⟨v, h1, h2⟩ := hr.2 i j r x hi hj
  exact ⟨v, h1, ownCell_agree h hS (hm i j) h2⟩
theorem atRep_agree {W W' : World} {lab lab' : Nat → Lab} {S : Lab → Prop} (h : Agree W lab W' lab' S) (hS : S .imm) (hm : ∀ i j, S (.inn nid i j)) {w L : Nat} {rows : Rows} {cells : List Value} (hr : AtRep W lab nid w L rows cells) : AtRep W' lab' nid w L rows cells := by
  refine ⟨hr.1, fun i j r x hi hj => ?_⟩
  obtain ⟨v, h1, h2⟩ := hr.2 i j r x hi hj
  exact ⟨v, h1, ownCell_agree h hS (hm _ j) h2⟩
theorem atRep_one {lab : Nat → Lab} {w L : Nat} {rows : Rows} {cells : List Value} (hr : AtRep W lab nid w L rows cells) (hl : cells.length = rows.length * w) : ∀ v ∈ cells, v.oneCell' = true := by
  intro v hv
  obtain ⟨k, hk⟩ := List.getElem?_of_mem hv
  have hlt := (List.getElem?_eq_some_iff.mp hk).1
  obtain ⟨i, j, r, c, hi, hj, rfl⟩ := rows_index hr.1 (by rw [← hl]; exact hlt)
  obtain ⟨u, g1, g2⟩ := hr.2 i j r c hi hj
  rw [hk] at g1; cases g1
  exact ownCell_one g2

theorem appT_ne {t2 : TypeId} (h : appT P t2 = true) : ∃ d, P.underlying t2 = some d ∧ ∀ k, d ≠ .int k := by
  unfold appT at h
  split at h
  · cases h
  · rename_i d hd hn
    exact ⟨d, hn, fun k e => hd k e⟩
  · cases h

theorem notInt {d : TypeDesc} (h : ∀ k, d ≠ .int k) : (match d with | .int _ => true | _ => false) = false := by
  cases d <;> first | rfl | exact absurd rfl (h _)

/-- The built-in append, once what it appends to and what it appends are known. -/
theorem good_appJoin (h : InvS cx st sh a W Fr) (hd : ∀ d', o.dst = some d' → d' < cx.n) (hnid : ∀ k, k < 64 → Fr (nid + k)) (hpins : ∀ q ∈ cx.pins, q.1 < 1000) {s x : Operand} {t t2 : TypeId} (ho : o.op = .call ⟨.builtin .append, #[s, x], #[t, t2]⟩)
    {w bytes : Nat} {z : List Value} (ht : elemOf' P t = some (w, bytes, z)) (ht2 : appT P t2 = true) {ws : List (Nat × Option Obj')} {π : Lab → Lab} (g : Grafted cx st sh a W Fr nid ws π) {old more : Rows} {A : Option Addr} {cap : Nat} {cells : List Value}
    (hdst : Dst W (fun b => π (sh.lab b)) nid w old (a.eval s) A cap) (hl : cells.length = more.length * w) (hsrc : Src P W w more.length (a.eval x) cells) (hat : AtRep W (fun b => π (sh.lab b)) nid w old.length more cells)
    (hbig : (old.length + more.length + 1) * bytes ≤ 70368744177664) (hst : ∀ r ∈ old ++ more, ∀ s xs, Cell.sl s xs ∈ r → s = 0 ∨ ¬ Fr s) (hK : K ⟨.one (.ref nid w 0 (old.length + more.length)), (nid, some (w, old ++ more)) :: ws, []⟩) : Good P cx st Fr nid o a W K Q := by
  obtain ⟨el, info, hu, hin, hsz, hby, hz, hzl, hw0, hb0, hb1⟩ := elemOf_some ht
  unfold zeroOf at hz
  rw [hin] at hz
  simp only [Option.map_eq_some_iff] at hz
  obtain ⟨zv, hzv, rfl⟩ := hz
  have hzs : zv.cells.size = w := by simpa using hzl
  obtain ⟨d2, hu2, hd2⟩ := appT_ne ht2
  have hF0 : Fr nid := by simpa using hnid 0 (by omega)
  have hlo := h.low nid hF0
  obtain ⟨hval, hfit, hwide, hlies⟩ := hdst
  have hst' : ∀ r ∈ old ++ more, ∀ s xs, Cell.sl s xs ∈ r → ¬ (Fr s ∧ ¬ (nid ≤ s ∧ s < nid + 64)) := by
    intro r hr s xs hs
    rcases hst r hr s xs hs with rfl | hs'
    · rintro ⟨hq, _⟩
      have := h.low 0 hq; omega
    · exact fun hq => hs' hq.1
  have hlen : (old ++ more).length = old.length + more.length := by simp
  have hzer := notInt hd2
  have hrunv : ∀ (v : Value) (W1 : World), (Builtin.append_ #[t, t2] o.type #[.slice A old.length cap, a.eval x]).run P W = .ok v W1 → (execOp a.eval o).run P W = .ok (.value v) W1 := by
    intro v W1 hv
    simp only [execOp, ho, resolve, invoke, Sem.run_bind, builtin]
    simp [hval, hv, Sem.run_bind, Result.andThen, Sem.run_pure]
  subst hby
  have hmul : (old.length + more.length) * 1 ≤ (old.length + more.length) * info.bytes := Nat.mul_le_mul_left _ hb0
  have hmul2 : (old.length + more.length) * info.bytes ≤ (old.length + more.length + 1) * info.bytes := Nat.mul_le_mul_right _ (by omega)
  by_cases hneed : old.length + more.length ≤ cap
  · rcases hlies with ⟨hc0, hold⟩ | ⟨b, c, t', hA, hlab, hblk, hcs, hrows⟩
    · subst hold
      have hm0 : more = [] := List.length_eq_zero_iff.mp (by simp at hneed; omega)
      subst hm0
      subst hc0
      have hc : cells = [] := List.length_eq_zero_iff.mp (by rw [hl]; simp)
      subst hc
      refine good_addObj (W1 := W) hd hnid hpins g.inv (rows := [] ++ []) (n := 0) (cap := 0) (A := A) (hrunv _ _ ?_) rfl (.inl ⟨rfl, rfl⟩) ⟨hw0, by simp, .inl ⟨A, rfl, rfl⟩⟩ hst' hK
      have hg := hsrc.get W rfl
      have hln := hsrc.len W
      simp only [List.length_nil] at hg hln
      cases A with
      | none => simp [Builtin.append_, Sem.run_bind, run_under hu, run_under hu2, Result.andThen, run_size hin, hzer, hln, hg, hsz, Sem.run_pure]
      | some ad => simp [Builtin.append_, Sem.run_bind, run_under hu, run_under hu2, Result.andThen, run_size hin, hzer, hln, hg, hsz, storeCells, Sem.run_pure]
    · subst hA
      have hone := atRep_one hat hl
      have hfitc : old.length * w + cells.length ≤ c.size := by
        rw [hcs, hl, ← Nat.add_mul]; exact Nat.mul_le_mul_right w hneed
      have hstore := run_storeCells_at (P := P) b (old.length * w) t' cells 0 c W hblk (by omega) hone
      have hc2 : c.toList.take (old.length * w + 0) ++ cells ++ c.toList.drop (old.length * w + 0 + cells.length) = setRange c.toList (old.length * w) cells := by simp [setRange]
      have hfitl : old.length * w + cells.length ≤ c.toList.length := by simpa using hfitc
      have h2 := g.inv.write hpins (id := nid) (g.none nid ((h.fresh nid hF0).2.1)) hlab (setRange c.toList (old.length * w) cells).toArray
      have ag : Agree W (fun b => π (sh.lab b)) (W.setRow b (setRange c.toList (old.length * w) cells).toArray) (fun b => π (sh.lab b)) (· ≠ .own nid) := fun q hq => ⟨rfl, setRow_other _ _ _ _ (by rintro rfl; exact hq hlab)⟩
      refine good_addObj (W1 := W.setRow b (setRange c.toList (old.length * w) cells).toArray) hd hnid hpins h2 (rows := old ++ more) (n := old.length + more.length) (cap := cap) (A := some ⟨b, 0, none⟩) (hrunv _ _ ?_) hlen (.inr (by intro ad ha; cases ha; rfl)) ?_ hst' hK
      · have hg := hsrc.get W rfl
        have hln := hsrc.len W
        rw [hc2] at hstore
        subst hsz
        simp [Builtin.append_, run_underlying hu, run_underlying hu2, sizeOf, typeInfo, hin, hzer, hln, hneed, hg, add_mk]
        simp [hstore]
      · refine ⟨hw0, ?_, .inr ⟨b, cap, (setRange c.toList (old.length * w) cells).toArray, t', by rw [hlen], by rw [hlen]; exact hneed, hlab, setRow_heap _ _ _ _ _ _ hblk, ?_, ?_⟩⟩
        · intro r hr
          rcases List.mem_append.mp hr with hr | hr
          · exact hwide r hr
          · exact hat.1 r hr
        · rw [List.size_toArray, setRange_length hfitl, ← hcs]; simp
        · have hj := rowsRep_join hrows hat (call := setRange c.toList (old.length * w) cells) (fun k hk => by rw [setRange_get hfitl, if_pos hk]) (fun k hk => by
            rw [setRange_get hfitl, if_neg (by omega), if_pos (by omega)]; congr 1; omega)
          have hj2 := rowsRep_agree ag (by simp) (by simp) hj
          intro i j r y hi hj'
          obtain ⟨u, k1, k2⟩ := hj2.2 i j r y hi hj'
          exact ⟨u, by simpa using k1, k2⟩
  · have hcl : cap < old.length + more.length := by omega
    have holds : ∃ olds : List Value, olds.length = old.length * w ∧ (∀ W', W'.heap = W.heap → (Builtin.firstCells w old.length (.slice A old.length cap)).run P W' = .ok olds.toArray W') ∧ RowsRep W (fun b => π (sh.lab b)) nid w old olds := by
      rcases hlies with ⟨hc0, hold⟩ | ⟨b, c, t', hA, hlab, hblk, hcs, hrows⟩
      · subst hold
        obtain ⟨cl, h1, h2, _⟩ := src_slice (P := P) (W := W) (A := A) (n := 0) (cap := cap) (w := w) (fun hn => by simp at hn)
        exact ⟨cl, h1, h2.get, by simp, by simp⟩
      · have hin : ∀ k, k < old.length * w → ∃ u, c[k]? = some u := fun k hk => by
          have : k < c.size := by rw [hcs]; exact Nat.lt_of_lt_of_le hk (Nat.mul_le_mul_right w hfit)
          exact ⟨_, Array.getElem?_eq_getElem this⟩
        obtain ⟨cl, h1, h2, h3⟩ := src_slice (P := P) (W := W) (A := A) (n := old.length) (cap := cap) (w := w) (fun _ => ⟨b, 0, hA, fun k hk => by
              rw [cell_cells hblk, Nat.zero_add]; exact hin k hk⟩)
        refine ⟨cl, h1, h2.get, hrows.1, fun i j r x hi hj => ?_⟩
        obtain ⟨u, k1, k2⟩ := hrows.2 i j r x hi hj
        refine ⟨u, ?_, k2⟩
        rw [h3 b 0 hA _ (index_lt hrows.1 hi hj), cell_cells hblk, Nat.zero_add]; simpa using k1
    obtain ⟨olds, hol, hog, hrows⟩ := holds
    have hge := grownCap_ge W (old.length + more.length) cap el
    have hfits := growslice_fits hcl (bytes := info.bytes) (by omega)
    have h1 := g.inv.sameHeap hpins (W' := W.drew) rfl rfl rfl rfl
    have h2 := h1.alloc hpins (.cells (olds.toArray ++ cells.toArray ++ Builtin.zeroCells zv.cells (grownCap W (old.length + more.length) cap el - (old.length + more.length))) el) (.own nid)
    have ag := h1.agree_alloc (.cells (olds.toArray ++ cells.toArray ++ Builtin.zeroCells zv.cells (grownCap W (old.length + more.length) cap el - (old.length + more.length))) el) (.own nid)
    have ag0 : Agree W (fun b => π (sh.lab b)) W.drew (fun b => π (sh.lab b)) (fun _ => True) := fun b _ => ⟨rfl, rfl⟩
    refine good_addObj (W1 := W.drew.alloc (.cells (olds.toArray ++ cells.toArray ++ Builtin.zeroCells zv.cells (grownCap W (old.length + more.length) cap el - (old.length + more.length))) el)) hd hnid hpins h2 (rows := old ++ more) (n := old.length + more.length)
      (cap := grownCap W (old.length + more.length) cap el) (A := some ⟨W.heap.size, 0, none⟩) (hrunv _ _ ?_) hlen (.inr (by intro ad ha; cases ha; rfl)) ?_ hst' hK
    · have hg := hsrc.get W.drew rfl
      have hln := hsrc.len W
      have ho' := hog W.drew rfl
      have h63 : ¬ (9223372036854775807 < ((old.length : Int) + (more.length : Int))) := by omega
      have h48 : ¬ (281474976710656 < Builtin.nextslicecap (old.length + more.length) cap * info.bytes) := by omega
      subst hsz
      simp [Builtin.append_, run_underlying hu, run_underlying hu2, sizeOf, typeInfo, zeroValue, hin, hzv, hzer, hln, hneed, h63, h48, Question.forced, ho', hg, newRow, grownCap]
      congr 2
      apply Array.ext'
      simp [List.append_assoc]
    · refine ⟨hw0, ?_, .inr ⟨W.heap.size, grownCap W (old.length + more.length) cap el, _, el, by rw [hlen], by rw [hlen]; exact hge, if_pos rfl, by rw [alloc_get]; exact if_pos rfl, ?_, ?_⟩⟩
      · intro r hr
        rcases List.mem_append.mp hr with hr | hr
        · exact hwide r hr
        · exact hat.1 r hr
      · rw [Array.size_append, Array.size_append, size_zeroCells, hzs, List.size_toArray, List.size_toArray, hol, hl, ← Nat.add_mul, ← Nat.add_mul]
        congr 1; omega
      · have hj := rowsRep_join hrows hat (call := olds ++ (cells ++ (Builtin.zeroCells zv.cells (grownCap W (old.length + more.length) cap el - (old.length + more.length))).toList)) (fun k hk => by rw [List.getElem?_append_left (by omega)]) (fun k hk => by
          rw [List.getElem?_append_right (by omega), List.getElem?_append_left (by omega)]; congr 1; omega)
        have hj2 := rowsRep_agree ag (by simp) (by simp) (rowsRep_agree ag0 trivial (fun _ _ => trivial) hj)
        intro i j r y hi hj'
        obtain ⟨u, k1, k2⟩ := hj2.2 i j r y hi hj'
        refine ⟨u, ?_, k2⟩
        rw [← k1, ← Array.getElem?_toList]; simp
end app
end Go.Proofs.Ytkcbnbbbijlhcai.A
