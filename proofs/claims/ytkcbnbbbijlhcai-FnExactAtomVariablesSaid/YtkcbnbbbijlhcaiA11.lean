/- THE ABSTRACT SEMANTICS IS SOUND, seventh part: variables are made and written. Conditions: none. -/
import Derived.Test.YtkcbnbbbijlhcaiA10
namespace Go.Proofs.Ytkcbnbbbijlhcai.A
open Go
set_option linter.unusedSimpArgs false
set_option linter.unusedVariables false

section vars
variable {P : Program} {cx : Cx} {st : St} {sh : Sh} {a : Act} {W : World} {Fr : Nat → Prop} {nid : Nat} {o : Oper} {K : Eff → Prop} {Q : Exit → Act → World → Prop}

theorem one_cells {v : Value} (h : v.oneCell' = true) : v.cells = #[v] := by
  cases v <;> simp_all [Value.cells, Value.oneCell']
theorem slice_one (A : Option Addr) (n c : Nat) : (Value.slice A n c).oneCell' = true := rfl
theorem InvS.solid_one (h : InvS cx st sh a W Fr) {s : SV} {v : Value} (hv : SVRep st W sh s v) (hs : s.solid st) : v.oneCell' = true := by
  cases s with
  | sc x => have e : v = x := hv; rw [e]; exact hs
  | im w rows => obtain ⟨A, cap, e, _⟩ := hv; rw [e]; rfl
  | ref id w off len =>
    rcases hr : st.rows (.ref id w off len) with _ | ⟨w', rows⟩
    · exact absurd hr hs
    · obtain ⟨A, cap, e, _⟩ := h.rows_len hv hr; rw [e]; rfl
  | rin id i j s off len =>
    rcases hr : st.rows (.rin id i j s off len) with _ | ⟨w', rows⟩
    · exact absurd hr hs
    · obtain ⟨A, cap, e, _⟩ := h.rows_len hv hr; rw [e]; rfl
  | vad id j =>
    obtain ⟨fs, hf⟩ := Option.ne_none_iff_exists'.mp hs
    rw [hv fs hf]; rfl
  | iad row j => obtain ⟨b, off, e, _⟩ := hv; rw [e]; rfl
  | ipt fs j => obtain ⟨b, off, e, _⟩ := hv; rw [e]; rfl
  | fnv f ids => obtain ⟨cs, e, _⟩ := hv; rw [e]; rfl
  | fni f caps => obtain ⟨cs, e, _⟩ := hv; rw [e]; rfl
  | _ => exact hs.elim
theorem InvS.solids_all (h : InvS cx st sh a W Fr) : ∀ {xs : List SV} {vs : List Value}, All2 (SVRep st W sh) xs vs → solids st xs → ∀ v ∈ vs, v.oneCell' = true
  | [], [], _, _ => by simp
  | s :: r, v :: vs, ⟨h1, h2⟩, ⟨g1, g2⟩ => by
    intro u hu
    rcases List.mem_cons.mp hu with rfl | hu
    · exact h.solid_one h1 g1
    · exact h.solids_all h2 g2 u hu
  | [], _ :: _, h, _ => h.elim
  | _ :: _, [], h, _ => h.elim
/-- A value's cells. -/
theorem InvS.pk_cells (h : InvS cx st sh a W Fr) {p : Pk} {v : Value} (hv : PkRep st W sh p v) (hs : ∀ s, p = .one s → s.solid st) : All2 (SVRep st W sh) p.svs v.cells.toList := by
  cases p with
  | one s =>
    rw [one_cells (h.solid_one hv (hs s rfl))]
    exact ⟨hv, trivial⟩
  | agg xs =>
    obtain ⟨cs, e, h2⟩ := hv
    rw [e]; exact h2

theorem alloc_val (W : World) (c : Array Value) (t : TypeId) : (newRow t c).run P W = .ok ⟨W.heap.size, 0, none⟩ (W.alloc (.cells c t)) := by
  simp [newRow, Sem.run_bind, newObj, Sem.run, Result.andThen]

theorem good_newVar (h : InvS cx st sh a W Fr) (hd : ∀ d', o.dst = some d' → d' < cx.n) (hnid : ∀ k, k < 64 → Fr (nid + k)) (hpins : ∀ q ∈ cx.pins, q.1 < 1000) {fs : List SV} {c : Array Value} {t : TypeId}
    (hr : (execOp a.eval o).run P W = .ok (.value (.pointer (some ⟨W.heap.size, 0, none⟩))) (W.alloc (.cells c t))) (hfs : All2 (SVRep st W sh) fs c.toList) (hmen : ∀ id, Fr id → ∀ s ∈ fs, id ∉ s.ids)
    (hK : K ⟨.one (.vad nid 0), [], [(nid, some fs)]⟩) : Good P cx st Fr nid o a W K Q := by
  unfold Good Oper.wp
  rw [hr]
  have h1 := h.newVar (nid := nid) (by simpa using hnid 0 (by omega)) (t := t) hfs hmen (Fr' := fun id => Fr id ∧ ¬ (nid ≤ id ∧ id < nid + 64)) (fun id hf => ⟨hf.1, by rintro rfl; exact hf.2 ⟨by omega, by omega⟩⟩) hpins
  refine ⟨⟨.one (.vad nid 0), [], [(nid, some fs)]⟩, _, hK, InvS.put h1 hd (av := .one (.vad nid 0)) (v := .pointer (some ⟨W.heap.size, 0, none⟩)) ?_ ?_⟩
  · intro fs' hf'
    simp
  · intro id hf hm
    rw [one_ids] at hm
    simp only [SV.ids, List.mem_singleton] at hm
    subst hm
    exact hf.2 ⟨by omega, by omega⟩

theorem good_alloc (h : InvS cx st sh a W Fr) (hd : ∀ d', o.dst = some d' → d' < cx.n) (hnid : ∀ k, k < 64 → Fr (nid + k)) (hpins : ∀ q ∈ cx.pins, q.1 < 1000) {e : TypeId} (ho : o.op = .alloc e) {z : List Value} (hz : zeroOf P e = some z)
    (hK : K ⟨.one (.vad nid 0), [], [(nid, some (z.map .sc))]⟩) : Good P cx st Fr nid o a W K Q := by
  unfold zeroOf at hz
  split at hz
  · rename_i i hi
    simp only [Option.map_eq_some_iff] at hz
    obtain ⟨v, hv, rfl⟩ := hz
    refine good_newVar h hd hnid hpins (c := v.cells) (t := e) ?_ (fs := v.cells.toList.map .sc) ?_ ?_ hK
    · simp [execOp, ho, Instr.alloc, zeroValue, Sem.run_bind, run_info hi, hv, Result.andThen, newVar, alloc_val, Sem.run_pure]
    · refine all2_of_get (by simp) fun k s u hk hu => ?_
      simp only [List.getElem?_map, Option.map_eq_some_iff] at hk
      obtain ⟨x, hx, rfl⟩ := hk
      rw [hx] at hu; cases hu
      rfl
    · intro id _ s hs
      obtain ⟨x, _, rfl⟩ := List.mem_map.mp hs
      simp [SV.ids]
  · cases hz
theorem good_box (h : InvS cx st sh a W Fr) (hd : ∀ d', o.dst = some d' → d' < cx.n) (hnid : ∀ k, k < 64 → Fr (nid + k)) (hpins : ∀ q ∈ cx.pins, q.1 < 1000) {e : TypeId} {x : Operand} (ho : o.op = .box e x) {p : Pk} (hx : st.ev x = .pk p)
    (hs : ∀ s, p = .one s → s.solid st) (hK : K ⟨.one (.vad nid 0), [], [(nid, some p.svs)]⟩) : Good P cx st Fr nid o a W K Q := by
  have ex := h.ev x
  rw [hx] at ex
  have ex : PkRep st W sh p (a.eval x) := ex
  refine good_newVar h hd hnid hpins (c := (a.eval x).cells) (t := e) ?_ (h.pk_cells ex hs) ?_ hK
  · simp [execOp, ho, Instr.box, Sem.run_bind, Result.andThen, newVar, alloc_val, Sem.run_pure]
  · intro id hf s hs' hm
    have := h.ev_ids x hf
    rw [hx] at this
    exact this (by simp only [AV.ids, AV.svs, List.mem_flatMap]; exact ⟨s, hs', hm⟩)

theorem InvS.var_ne (h : InvS cx st sh a W Fr) {id : Nat} {fs : List SV} (hf : st.vars id = some fs) {b : Nat} (hb : sh.lab b ≠ .var id) : b ≠ sh.β id := by
  rintro rfl
  exact hb (h.vars id fs hf).1
/-- A variable is written. -/
theorem InvS.setVar (h : InvS cx st sh a W Fr) (hpins : ∀ q ∈ cx.pins, q.1 < 1000) {id : Nat} {fs fs' : List SV} (hf : st.vars id = some fs) {c' : Array Value} (hfs : All2 (SVRep st W sh) fs' c'.toList) (hmen : ∀ id, Fr id → ∀ s ∈ fs', id ∉ s.ids)
    {Fr' : Nat → Prop} (hF : ∀ id, Fr' id → Fr id) : InvS cx ⟨st.slots, upd st.vars [(id, some fs')], st.objs, st.next⟩ sh a (W.setRow (sh.β id) c') Fr' := by
  obtain ⟨hlab, c, t, hc, _⟩ := h.vars id fs hf
  have ag : Agree W sh.lab (W.setRow (sh.β id) c') sh.lab (· ≠ .var id) := fun b hb => ⟨rfl, setRow_other _ _ _ _ (h.var_ne hf hb)⟩
  have k : Keeps st W sh ⟨st.slots, upd st.vars [(id, some fs')], st.objs, st.next⟩ (W.setRow (sh.β id) c') sh (fun _ => False) := by
    refine ⟨agree_mono ag (by rintro _ rfl; simp), fun q _ hq => ⟨?_, rfl⟩, fun q w rows' _ ho => ⟨rfl, rows', ho, rfl, fun i j s xs' _ _ hcell => ⟨xs', hcell, rfl, ?_⟩⟩⟩
    · by_cases e : q = id
      · subst e; rw [hf]; simp
      · simpa only [upd, if_neg e] using hq
    · refine headAt_agree fun b l n e => ?_
      have hne : rows' ≠ [] := by
        intro e; rw [e] at hcell; have := (cell_ne hcell).1; simp at this
      exact (ag b (by rw [h.own_block ho e hne]; simp)).2
  refine h.move k (fun _ h => h.elim) hF ?_ (fun q gs hg => ?_) (fun q w rows ho => ownRep_agree ag (by simp) (by simp) (by simp) (h.objs q w rows ho)) (fun q hq => ?_) (fun q w rows i j s xs ho hcell hs => h.stamps q w rows i j s xs ho hcell (hF s hs)) (fun q _ ho => ⟨ho, rfl⟩) (fun q _ hv => ⟨?_, rfl⟩) hpins
  · obtain ⟨h1, h2, h3, h4, h5, h6⟩ := h.ext
    refine ⟨h1, h2, h3, by rw [setRow_size]; exact h4, fun b hb hl => ?_, fun b hb => h6 b (by rw [setRow_size] at hb; exact hb)⟩
    obtain ⟨g1, g2⟩ := h5 b hb hl
    exact ⟨g1, by rw [(ag b (by rcases hl with hl | hl <;> rw [g1, hl] <;> simp)).2, g2]⟩
  · by_cases e : q = id
    · subst e
      simp only [upd, if_true, Option.some.injEq] at hg
      subst hg
      exact ⟨⟨hlab, c', t, setRow_heap _ _ _ _ _ _ hc, all2_mono (fun s u m g => svRep_keeps k (fun _ _ h => h) g) hfs⟩, fun id' hf' s m => hmen id' (hF id' hf') s m⟩
    · simp only [upd, if_neg e] at hg
      obtain ⟨g1, c2, t2, g2, g3⟩ := h.vars q gs hg
      refine ⟨⟨g1, c2, t2, ?_, all2_mono (fun s u m g => svRep_keeps k (fun _ _ h => h) g) g3⟩, fun id' hf' s m => (h.fresh id' (hF id' hf')).2.2.2 q gs hg s m⟩
      rw [(ag _ (by rw [g1]; simpa using e)).2, g2]
  · obtain ⟨g1, g2, _⟩ := h.fresh q (hF q hq)
    refine ⟨?_, g2⟩
    have : q ≠ id := by rintro rfl; rw [hf] at g1; cases g1
    simp only [upd, if_neg this]; exact g1
  · by_cases e : q = id
    · subst e; rw [hf]; simp
    · simpa only [upd, if_neg e] using hv

theorem good_storeVar (h : InvS cx st sh a W Fr) (hd : ∀ d', o.dst = some d' → d' < cx.n) (hpins : ∀ q ∈ cx.pins, q.1 < 1000) {t : TypeId} {x y : Operand} (ho : o.op = .store t x y) {n : Option Nat} (ht : aggOf P t = some n) {id j : Nat} (hx : st.ev x = .one (.vad id j)) {p : Pk}
    (hy : st.ev y = .pk p) (hs : solids st p.svs) (hl : p.svs.length = n.getD 1) {fs : List SV} (hf : st.vars id = some fs) (hj : j + n.getD 1 ≤ fs.length) (hK : K ⟨.un, [], [(id, some (setRange fs j p.svs))]⟩) : Good P cx st Fr nid o a W K Q := by
  have ex := h.ev x
  rw [hx] at ex
  have ex : a.eval x = .pointer (some ⟨sh.β id, j, none⟩) := (ex : SVRep st W sh (.vad id j) (a.eval x)) fs hf
  have ey := h.ev y
  rw [hy] at ey
  have hone : ∀ s, p = .one s → s.solid st := by rintro s rfl; exact hs.1
  have ec := h.pk_cells ey hone
  have hv1 := h.solids_all ec hs
  obtain ⟨hlab, c, t', hc, hall⟩ := h.vars id fs hf
  have hcl := all2_length hall
  have hcl' := all2_length ec
  have hsz : (a.eval y).cells.size = n.getD 1 := by rw [← hl, hcl']; simp
  have hst : (storeVar t ⟨sh.β id, j, none⟩ (a.eval y)).run P W = .ok () (W.setRow (sh.β id) (c.toList.take j ++ (a.eval y).cells.toList ++ c.toList.drop (j + (a.eval y).cells.toList.length)).toArray) := by
    have := run_storeCells_at (P := P) (sh.β id) j t' (a.eval y).cells.toList 0 c W hc (by simp at hcl ⊢; omega) hv1
    simp only [storeVar, Sem.run_bind, (aggOf_some (W := W) ht).2, Result.andThen, hsz, ne_eq, not_true_eq_false, if_false]
    simpa using this
  unfold Good Oper.wp
  have hrun : (execOp a.eval o).run P W = .ok .skip (W.setRow (sh.β id) (c.toList.take j ++ (a.eval y).cells.toList ++ c.toList.drop (j + (a.eval y).cells.toList.length)).toArray) := by
    simp only [execOp, ho, Instr.storeAt, Sem.run_bind, ex, Instr.sureAddr, Sem.run_pure, Result.andThen, hst]
  rw [hrun]
  have h1 := h.setVar hpins hf (c' := (c.toList.take j ++ (a.eval y).cells.toList ++ c.toList.drop (j + (a.eval y).cells.toList.length)).toArray) (fs' := setRange fs j p.svs)
    (by
      simp only [setRange, hcl']
      exact all2_append (all2_append (all2_take j hall) ec) (all2_drop _ hall))
    (by
      intro id' hf' s hm hi
      simp only [setRange, List.mem_append] at hm
      rcases hm with (hm | hm) | hm
      · exact (h.fresh id' hf').2.2.2 id fs hf s (List.mem_of_mem_take hm) hi
      · have := h.ev_ids y hf'
        rw [hy] at this
        exact this (by simp only [AV.ids, AV.svs, List.mem_flatMap]; exact ⟨s, hm, hi⟩)
      · exact (h.fresh id' hf').2.2.2 id fs hf s (List.mem_of_mem_drop hm) hi)
    (Fr' := fun id => Fr id ∧ ¬ (nid ≤ id ∧ id < nid + 64)) (fun id hf => hf.1)
  exact ⟨⟨.un, [], [(id, some (setRange fs j p.svs))]⟩, _, hK, InvS.put h1 hd (av := .un) (v := undef) trivial (by intro id _ hm; simp [AV.ids, AV.svs, Pk.svs, SV.ids] at hm)⟩
end vars
end Go.Proofs.Ytkcbnbbbijlhcai.A
