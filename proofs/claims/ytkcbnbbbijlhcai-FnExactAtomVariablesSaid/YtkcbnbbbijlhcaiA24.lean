/- THE ABSTRACT SEMANTICS IS SOUND, twentieth part: what a call leaves of what it was handed. Conditions: none. -/
import Derived.Test.YtkcbnbbbijlhcaiA23
namespace Go.Proofs.Ytkcbnbbbijlhcai.A
open Go
set_option linter.unusedSimpArgs false
set_option linter.unusedVariables false

theorem upd_get {α : Type} (f : Nat → Option α) (id : Nat) : ∀ l : List (Nat × Option α), ((∀ x, (id, x) ∉ l) ∧ upd f l id = f id) ∨ ∃ x, (id, x) ∈ l ∧ upd f l id = x
  | [] => .inl ⟨by simp, rfl⟩
  | (i, y) :: r => by
    by_cases e : id = i
    · subst e; exact .inr ⟨y, by simp, by simp [upd]⟩
    · rcases upd_get f id r with ⟨h1, h2⟩ | ⟨x, h1, h2⟩
      · refine .inl ⟨fun x hm => ?_, by simp only [upd, if_neg e]; exact h2⟩
        rcases List.mem_cons.mp hm with hm | hm
        · simp only [Prod.mk.injEq] at hm; exact e hm.1
        · exact h1 x hm
      · exact .inr ⟨x, by simp [h1], by simp only [upd, if_neg e]; exact h2⟩

section post
variable {cx : Cx} {st : St} {sh : Sh} {a : Act} {W W' : World} {Fr : Nat → Prop} {R : List CRow} {lent : Bool} {nid : Nat} {lab' : Nat → Lab}

theorem lab_stay (h : InvS cx st sh a W Fr) (hext : Ext W (lcOf st W sh R lent) W' lab') {b : Nat} (hd : sh.lab b ≠ .dead) (hn : ∀ r ∈ R, ∀ L', ¬ Cov st W sh r (sh.lab b) L') : labOf st W sh R lent nid lab' b = sh.lab b ∧ W'.heap[b]? = W.heap[b]? := by
  have hb := h.below hd
  have hlc : lcOf st W sh R lent b = .imm ∨ lcOf st W sh R lent b = .far := by
    simp only [lcOf]
    rw [tr_base hn]
    rcases hL : sh.lab b with _ | _ | id | ⟨id, i, j⟩ | id | _
    · exact absurd hL hd
    · exact .inl rfl
    · cases lent <;> simp [baseL]
    · cases lent <;> simp [baseL]
    · cases lent <;> simp [baseL]
    · exact .inr rfl
  exact ⟨by unfold labOf; rw [if_pos ⟨hb, hlc⟩], (hext.same b hb hlc).2⟩
theorem lab_bk (h : InvS cx st sh a W Fr) (hext : Ext W (lcOf st W sh R lent) W' lab') {b : Nat} (hl : lab' b ≠ .imm ∧ lab' b ≠ .far) : labOf st W sh R lent nid lab' b = bkL st W sh R nid (lab' b) := by
  unfold labOf
  rw [if_neg]
  rintro ⟨h1, h2⟩
  have := (hext.same b h1 h2).1
  rw [this] at hl
  rcases h2 with h2 | h2
  · exact hl.1 h2
  · exact hl.2 h2
theorem Leafs.lab_cov (hR : Leafs st W sh R) (h : InvS cx st sh a W Fr) (hext : Ext W (lcOf st W sh R lent) W' lab') {r : CRow} (hr : r ∈ R) {b : Nat} {L : Lab} (hc : Cov st W sh r L (lab' b)) : labOf st W sh R lent nid lab' b = L := by
  obtain ⟨_, _, _, h2⟩ := cov_id hc
  obtain ⟨a1, _, a3⟩ := ofId_real h2
  rw [lab_bk h hext ⟨a1, a3⟩, hR.bk_cov hr hc]
theorem Leafs.lab_new (hR : Leafs st W sh R) (h : InvS cx st sh a W Fr) (hext : Ext W (lcOf st W sh R lent) W' lab') {b k : Nat} (hk : 960 ≤ k) (ho : ofId (lab' b) k) : labOf st W sh R lent nid lab' b = nextL nid (lab' b) := by
  obtain ⟨a1, _, a3⟩ := ofId_real ho
  rw [lab_bk h hext ⟨a1, a3⟩, bk_next (hR.no_cov_key ho hk)]
theorem no_bk {L' : Lab} (h : L' = .imm ∨ L' = .dead) : ∀ r ∈ R, ∀ L, ¬ Cov st W sh r L L' := by
  intro r _ L hc
  obtain ⟨_, _, _, h2⟩ := cov_id hc
  obtain ⟨a1, a2, _⟩ := ofId_real h2
  rcases h with h | h
  · exact a1 h
  · exact a2 h
theorem Leafs.lab_imm (hR : Leafs st W sh R) (hext : Ext W (lcOf st W sh R lent) W' lab') (hl : lent = false) : ∀ b, lab' b = .imm → labOf st W sh R lent nid lab' b = .imm := by
  intro b hb
  unfold labOf
  split
  · rename_i hc
    have := (hext.same b hc.1 hc.2).1
    rw [hb] at this
    exact hR.tr_imm_of hl this.symm
  · rw [hb, bk_next (no_bk (.inl rfl))]; rfl
theorem ext_call (h : InvS cx st sh a W Fr) (hext : Ext W (lcOf st W sh R lent) W' lab') : Ext cx.W0 cx.lab0 W' (labOf st W sh R lent nid lab') := by
  obtain ⟨h1, h2, h3, h4, h5, h6⟩ := h.ext
  obtain ⟨g1, g2, g3, g4, g5, g6⟩ := hext
  refine ⟨g1.trans h1, g2.trans h2, g3.trans h3, Nat.le_trans h4 g4, fun b hb hl => ?_, fun b hb => ?_⟩
  · obtain ⟨k1, k2⟩ := h5 b hb hl
    have hl' : sh.lab b = .imm ∨ sh.lab b = .far := by rw [k1]; exact hl
    obtain ⟨m1, m2⟩ := lab_stay (nid := nid) h ⟨g1, g2, g3, g4, g5, g6⟩ (R := R) (lent := lent) (b := b) (by rcases hl' with e | e <;> rw [e] <;> simp) (no_cov_of (by rcases hl' with e | e <;> simp [e]))
    exact ⟨m1.trans k1, m2.trans k2⟩
  · unfold labOf
    rw [if_neg (by rintro ⟨q, _⟩; omega), g6 b hb, bk_next (no_bk (.inr rfl))]; rfl

theorem mem_hand {r : CRow} (hr : r ∈ R) {id : Nat} (h : id ∈ handLeaf r.s r.l) : id ∈ R.flatMap fun r => handLeaf r.s r.l := List.mem_flatMap.mpr ⟨r, hr, h⟩
/-- What covers a label is the leaf with its id. -/
theorem Leafs.cov_row (hR : Leafs st W sh R) {r r' : CRow} (hr : r ∈ R) (hr' : r' ∈ R) {id : Nat} (hid : id ∈ handLeaf r.s r.l) {L L' : Lab} (ho : ofId L id) (hc : Cov st W sh r' L L') : r' = r := by
  obtain ⟨id', h1, h2, _⟩ := cov_id hc
  have := ofId_inj ho h2
  subst this
  exact nodup_flatMap hR.hand r' hr' r hr id h1 hid
theorem own_len {lab : Nat → Lab} {k w : Nat} {rows : Rows} {A : Option Addr} {n cap : Nat} (h : OwnRep W lab k w rows (.slice A n cap)) : rows.length = n := by
  obtain ⟨_, _, ⟨A', e, hn⟩ | ⟨b, cap', c, t, e, _⟩⟩ := h
  · simp only [Value.slice.injEq] at e; subst hn; rw [e.2.1]; rfl
  · simp only [Value.slice.injEq] at e; exact e.2.1.symm
theorem stm_length (n : Nat) (rows : Rows) : (stm n rows).length = rows.length := by simp [stm]
theorem stm_cell {n : Nat} (hn : 0 < n) {rows : Rows} {i j s : Nat} {xs : List Value} (h : Rows.cell (stm n rows) i j = .sl s xs) : s = 0 ∨ s = n := by
  obtain ⟨r, hi, hj⟩ := cell_get h (by simp)
  simp only [stm, List.getElem?_map, Option.map_eq_some_iff] at hi
  obtain ⟨r0, _, rfl⟩ := hi
  simp only [List.getElem?_map, Option.map_eq_some_iff] at hj
  obtain ⟨c0, _, e⟩ := hj
  cases c0 with
  | sl s0 ys => cases s0 with
    | zero => simp only [Cell.stm, Cell.sl.injEq] at e; exact .inl e.1.symm
    | succ s0 => simp only [Cell.stm, Cell.sl.injEq] at e; exact .inr e.1.symm
  | _ => simp [Cell.stm] at e

/-- What is known behind the call of a slice of one's own. -/
theorem call_obj (h : InvS cx st sh a W Fr) (hR : Leafs st W sh R) {n : Nat} (hn0 : 0 < n) (hext : Ext W (lcOf st W sh R lent) W' lab') (hback : ∀ r ∈ R, LeafRep W' lab' r.k r.u r.v) (hstill : lent = false ∨ ∀ r ∈ R, r.u.still = true) {id w : Nat} {rows' : Rows}
    (ho : upd st.objs (R.flatMap fun r => updLeafO n st r.s r.l r.u) id = some (w, rows')) :
    OwnRep W' (labOf st W sh R lent nid lab') id w rows' (sh.μ id) ∧ ∃ rows, st.objs id = some (w, rows) ∧ rows.length = rows'.length ∧
      ∀ i j s xs', s ≠ n → 0 < s → Rows.cell rows' i j = .sl s xs' → ∃ xs, Rows.cell rows i j = .sl s xs ∧ xs.length = xs'.length ∧ headAt W' (sh.μ id) w i j = headAt W (sh.μ id) w i j := by
  have himm : ∀ r ∈ R, ∀ (w : Nat) (rows : Rows), r.u = .ow w rows → (∀ b, lab' b = .imm → labOf st W sh R lent nid lab' b = .imm) ∨ stillRows rows = true := by
    intro r hr w rows e
    rcases hstill with hl | hs
    · exact .inl (hR.lab_imm hext hl)
    · have := hs r hr; rw [e] at this; exact .inr this
  rcases upd_get st.objs id (R.flatMap fun r => updLeafO n st r.s r.l r.u) with ⟨hno, he⟩ | ⟨x, hmem, he⟩
  · rw [he] at ho
    have hnc : ∀ b, (sh.lab b = .own id ∨ ∃ i j, sh.lab b = .inn id i j) → ∀ r ∈ R, ∀ L', ¬ Cov st W sh r (sh.lab b) L' := by
      intro b hb r hr L' hc
      have hof : ofId (sh.lab b) id := by rcases hb with e | e <;> first | exact .inl e | exact .inr (.inl e)
      obtain ⟨id', h1, h2, _⟩ := cov_id hc
      have := ofId_inj hof h2
      subst this
      unfold Cov at hc
      split at hc
      · rename_i q _ _ _ _ _ e1 e2
        rw [e1, e2] at h1
        simp only [handLeaf, List.mem_singleton] at h1
        subst h1
        have : ∃ x, (id, x) ∈ updLeafO n st r.s r.l r.u := by
          rw [e1, e2]
          cases r.u <;> exact ⟨_, by simp [updLeafO]; rfl⟩
        obtain ⟨x, hx⟩ := this
        exact hno x (List.mem_flatMap.mpr ⟨r, hr, hx⟩)
      · rename_i q _ _ _ _ _ _ _ e1 e2
        rw [e1, e2] at h1
        simp only [handLeaf, List.mem_singleton] at h1
        subst h1
        have : ∃ x, (id, x) ∈ updLeafO n st r.s r.l r.u := by
          rw [e1, e2]
          cases r.u <;> exact ⟨_, by simp [updLeafO, ho]; rfl⟩
        obtain ⟨x, hx⟩ := this
        exact hno x (List.mem_flatMap.mpr ⟨r, hr, hx⟩)
      · rcases hb with e | ⟨i, j, e⟩ <;> rw [e] at hc <;> cases hc.1
      · exact hc
    have hag : Agree W sh.lab W' (labOf st W sh R lent nid lab') (fun L => L = .imm ∨ L = .own id ∨ ∃ i j, L = .inn id i j) := by
      intro b hb
      rcases hb with e | e
      · exact lab_stay h hext (by rw [e]; simp) (no_cov_of (.inl e))
      · exact lab_stay h hext (by rcases e with e | ⟨i, j, e⟩ <;> rw [e] <;> simp) (hnc b e)
    refine ⟨ownRep_agree hag (.inl rfl) (.inr (.inl rfl)) (fun i j => .inr (.inr ⟨i, j, rfl⟩)) (h.objs id w rows' ho), rows', ho, rfl, fun i j s xs' _ _ hc => ⟨xs', hc, rfl, headAt_agree fun b L n e => ?_⟩⟩
    have hne : rows' ≠ [] := by
      intro e; rw [e] at hc; have := (cell_ne hc).1; simp at this
    exact (hag b (.inr (.inl (h.own_block ho e hne)))).2
  · rw [he] at ho
    obtain ⟨r, hr, hx⟩ := List.mem_flatMap.mp hmem
    obtain ⟨hrep, hpass, hfit⟩ := hR.rep r hr
    have hb := hback r hr
    have him := himm r hr
    have hcov : ∀ b L, Cov st W sh r L (lab' b) → labOf st W sh R lent nid lab' b = L := fun b L hc => hR.lab_cov h hext hr hc
    have hrow : ∀ r' ∈ R, ∀ L L', ofId L id → id ∈ handLeaf r.s r.l → Cov st W sh r' L L' → r' = r := fun r' hr' L L' ho hid hc => hR.cov_row hr hr' hid ho hc
    obtain ⟨k, s, l, u, v⟩ := r
    simp only at hrep hpass hfit hb him hx hrow
    cases s with
    | ref q w0 off len => cases l with
      | ow wl rowsl =>
        simp only [pass] at hpass
        rcases hob : st.objs q with _ | ⟨w2, rows0⟩
        · simp only [hob] at hpass
        · simp only [hob] at hpass
          obtain ⟨rfl, rfl, rfl, hlen, _⟩ := hpass
          cases u with
          | ow wu rowsu =>
            simp only [updLeafO, List.mem_singleton, Prod.mk.injEq] at hx
            obtain ⟨rfl, rfl⟩ := hx
            simp only [Option.some.injEq, Prod.mk.injEq] at ho
            obtain ⟨rfl, rfl⟩ := ho
            have hw : w2 = wu := hfit
            subst hw
            obtain ⟨_, _, hvi⟩ := hrep _ rows0 hob
            obtain ⟨A, cap, e, hcap, hA⟩ := own_shape h hob
            subst hlen
            have hrows : rowsu.length = rows0.length := by
              rcases view_all hvi e hA with hv' | ⟨hz, A', hv'⟩
              · have h1 := hb.1
                rw [hv', e] at h1
                exact own_len h1
              · have h1 := hb.1
                rw [hv'] at h1
                rw [hz]; exact own_len h1
            refine ⟨ownRep_stm hn0 ?_, rows0, hob, by rw [stm_length, hrows], fun i j s xs' hs hs0 hc => ?_⟩
            · by_cases hv' : v = sh.μ id
              · rw [← hv']
                exact ownRep_map (lab := lab') (him _ _ rfl) (fun b hb' => hcov b _ ⟨hv', .inl ⟨rfl, hb'⟩⟩) (fun b i j hb' => hcov b _ ⟨hv', .inr ⟨i, j, rfl, hb'⟩⟩) hb.1
              · rcases view_all hvi e hA with hv2 | ⟨hz, A', _⟩
                · exact absurd hv2 hv'
                · have hr0 : rows0 = [] := List.length_eq_zero_iff.mp hz
                  subst hr0
                  have hru : rowsu = [] := List.length_eq_zero_iff.mp hrows
                  subst hru
                  have hag : Agree W sh.lab W' (labOf st W sh R lent nid lab') (fun L => L = .imm ∨ L = .own id ∨ ∃ i j, L = .inn id i j) := by
                    intro b hb'
                    rcases hb' with e | e
                    · exact lab_stay h hext (by rw [e]; simp) (no_cov_of (.inl e))
                    · refine lab_stay h hext (by rcases e with e | ⟨i, j, e⟩ <;> rw [e] <;> simp) fun r' hr' L' hc => ?_
                      have hof : ofId (sh.lab b) id := by rcases e with e | e <;> first | exact .inl e | exact .inr (.inl e)
                      have := hrow r' hr' _ L' hof (by simp [handLeaf]) hc
                      subst this
                      exact hv' hc.1
                  exact ownRep_agree hag (.inl rfl) (.inr (.inl rfl)) (fun i j => .inr (.inr ⟨i, j, rfl⟩)) (h.objs id _ [] hob)
            · rcases stm_cell hn0 hc with rfl | rfl
              · omega
              · exact absurd rfl hs
          | _ =>
            simp only [updLeafO, List.mem_singleton, Prod.mk.injEq] at hx
            rw [hx.2] at ho; cases ho
      | _ => simp [updLeafO] at hx
    | rin q i0 j0 s0 off len => cases l with
      | ow wl rowsl =>
        simp only [pass] at hpass
        rcases hob : st.objs q with _ | ⟨w2, rows0⟩
        · simp only [hob] at hpass
        · simp only [hob] at hpass
          rcases hc : Rows.cell rows0 i0 j0 with _ | ⟨s1, xs⟩ | _
          · simp only [hc] at hpass
          · simp only [hc] at hpass
            obtain ⟨rfl, h0, rfl, rfl, hlen, _⟩ := hpass
            obtain ⟨_, _, hd, g2, hvi⟩ := hrep.2 _ rows0 xs hob hc
            obtain ⟨v', k1, k2⟩ := h.own_head hob hc h0
            rw [g2] at k1; cases k1
            obtain ⟨A, cap, e, hcap, hA⟩ := ownSl_shape k2
            obtain ⟨sq, rfl⟩ : ∃ sq, s1 = sq + 1 := ⟨s1 - 1, by omega⟩
            subst hlen
            have hq : q = id := by
              cases u <;> simp only [updLeafO, hob, List.mem_singleton, Prod.mk.injEq] at hx <;> exact hx.1.symm
            subst hq
            obtain ⟨hw0, hrl, hcs⟩ := h.objs q w2 rows0 hob
            have hne0 : rows0 ≠ [] := by rintro rfl; have := (cell_ne hc).1; simp at this
            rcases hcs with ⟨A2, _, hn⟩ | ⟨b, cap2, c, t, q1, q2, q3, q4, q5, q6⟩
            · exact absurd hn hne0
            · have hagI : ∀ b', sh.lab b' = .imm → labOf st W sh R lent nid lab' b' = sh.lab b' ∧ W'.heap[b']? = W.heap[b']? := fun b' e => lab_stay h hext (by rw [e]; simp) (no_cov_of (.inl e))
              have hstayO : labOf st W sh R lent nid lab' b = sh.lab b ∧ W'.heap[b]? = W.heap[b]? := by
                refine lab_stay h hext (by rw [q3]; simp) fun r' hr' L' hcc => ?_
                have := hrow r' hr' _ L' (.inl q3) (by simp [handLeaf]) hcc
                subst this
                obtain ⟨_, e, _⟩ := hcc
                rw [q3] at e; cases e
              have hstayI : ∀ b' i j, sh.lab b' = .inn q i j → (¬ (i = i0 ∧ j = j0) ∨ v ≠ hd) → labOf st W sh R lent nid lab' b' = sh.lab b' ∧ W'.heap[b']? = W.heap[b']? := by
                intro b' i j e hor
                refine lab_stay h hext (by rw [e]; simp) fun r' hr' L' hcc => ?_
                have := hrow r' hr' _ L' (.inr (.inl ⟨i, j, e⟩)) (by simp [handLeaf]) hcc
                subst this
                obtain ⟨⟨w9, rows9, e9, hh⟩, e2, _⟩ := hcc
                rw [e] at e2
                cases e2
                rcases hor with hor | hor
                · exact hor ⟨rfl, rfl⟩
                · rw [hob] at e9; cases e9
                  rw [g2] at hh; cases hh
                  exact hor rfl
              have hhead : headAt W' (sh.μ q) w2 = headAt W (sh.μ q) w2 := by
                funext p p'
                refine headAt_agree fun b2 L n e2 => ?_
                rw [q1] at e2; cases e2
                exact hstayO.2
              -- the outer slice with another cell at (i0, j0)
              have build : ∀ cnew : Cell, (∀ u0, headAt W (sh.μ q) w2 i0 j0 = some u0 → OwnCell W' (labOf st W sh R lent nid lab') (.inn q i0 j0) cnew u0) → OwnRep W' (labOf st W sh R lent nid lab') q w2 (Rows.setCell rows0 i0 j0 cnew) (sh.μ q) := by
                intro cnew hcnew
                obtain ⟨hl1, hl2⟩ := setCell_len (i := i0) (j := j0) (c := cnew) hrl
                refine ⟨hw0, hl2, .inr ⟨b, cap2, c, t, by rw [hl1]; exact q1, by rw [hl1]; exact q2, by rw [hstayO.1, q3], by rw [hstayO.2, q4], q5, fun p p' r x hp hp' => ?_⟩⟩
                rcases setCell_get hp hp' with ⟨rfl, rfl, rfl⟩ | ⟨hnot, r0, z1, z2⟩
                · obtain ⟨r1, y1, y2⟩ := cell_get hc (by simp)
                  obtain ⟨u0, u1, u2⟩ := q6 p p' r1 _ y1 y2
                  refine ⟨u0, u1, hcnew u0 ?_⟩
                  rw [q1]; simp only [headAt]; rw [cell_cells q4]; exact u1
                · obtain ⟨u0, u1, u2⟩ := q6 p p' r0 x z1 z2
                  refine ⟨u0, u1, ?_⟩
                  refine ownCell_agree (S := fun L => L = .imm ∨ L = .inn q p p') ?_ (.inl rfl) (.inr rfl) u2
                  rintro b' (e | e)
                  · exact hagI b' e
                  · exact hstayI b' p p' e (.inl hnot)
              have keepc : ∀ cnew : Cell, (∀ s xs', cnew = .sl s xs' → 0 < s → s = sq + 1 ∧ xs.length = xs'.length) → ∀ i j s xs', s ≠ n → 0 < s → Rows.cell (Rows.setCell rows0 i0 j0 cnew) i j = .sl s xs' → ∃ xs, Rows.cell rows0 i j = .sl s xs ∧ xs.length = xs'.length ∧ headAt W' (sh.μ q) w2 i j = headAt W (sh.μ q) w2 i j := by
                intro cnew hcnew i j s xs' _ hs0 hcc
                obtain ⟨r1, hp, hp'⟩ := cell_get hcc (by simp)
                rw [hhead]
                rcases setCell_get hp hp' with ⟨rfl, rfl, e2⟩ | ⟨hnot, r0, z1, z2⟩
                · obtain ⟨rfl, hxl⟩ := hcnew s xs' e2.symm hs0
                  exact ⟨xs, hc, hxl, rfl⟩
                · exact ⟨xs', by simp [Rows.cell, List.getD_eq_getElem?_getD, z1, z2], rfl, rfl⟩
              have hheadone : ∀ u0, headAt W (sh.μ q) w2 i0 j0 = some u0 → u0.oneCell' = true := by
                intro u0 hu0
                rw [g2] at hu0; cases hu0
                rw [e]; rfl
              cases u with
              | ow wu rowsu =>
                simp only [updLeafO, hob, List.mem_singleton, Prod.mk.injEq, true_and] at hx
                rw [hx] at ho
                simp only [Option.some.injEq, Prod.mk.injEq] at ho
                obtain ⟨rfl, rfl⟩ := ho
                obtain ⟨hw1, hul⟩ := hfit
                subst hw1
                have hb1 := hb.1
                rw [← hul] at hb1
                have hxl : (unlift rowsu).length = xs.length := by
                  rcases view_all hvi e hA with hv' | ⟨hz, A', hv'⟩
                  · rw [hv', e] at hb1
                    have := own_len hb1
                    rwa [lift_length] at this
                  · rw [hv'] at hb1
                    have := own_len hb1
                    rw [lift_length] at this
                    omega
                refine ⟨build _ fun u0 hu0 => ?_, rows0, hob, by simp [Rows.setCell], keepc _ fun s xs' e2 _ => by cases e2; exact ⟨rfl, hxl.symm⟩⟩
                rw [g2] at hu0; cases hu0
                by_cases hv' : v = hd
                · subst hv'
                  have h1 := ownSl_of_rep (lab := lab') (π := fun L => L) rfl hb1
                  rcases h1 with ⟨A3, m1, m2⟩ | ⟨b3, cap3, c3, t3, m1, m2, m3, m4⟩
                  · exact .inl ⟨A3, m1, m2⟩
                  · exact .inr ⟨b3, cap3, c3, t3, m1, m2, hcov b3 _ ⟨⟨w2, rows0, hob, g2⟩, rfl, m3⟩, m4⟩
                · rcases view_all hvi e hA with hv2 | ⟨hz, A', _⟩
                  · exact absurd hv2 hv'
                  · have hx0 : xs = [] := List.length_eq_zero_iff.mp hz
                    subst hx0
                    have hu0' : unlift rowsu = [] := List.length_eq_zero_iff.mp (by rw [hxl]; rfl)
                    rw [hu0']
                    refine ownSl_agree (S := fun L => L = .inn q i0 j0) (fun b' e' => hstayI b' i0 j0 e' (.inr hv')) rfl k2
              | _ =>
                simp only [updLeafO, hob, List.mem_singleton, Prod.mk.injEq, true_and] at hx
                rw [hx] at ho
                simp only [Option.some.injEq, Prod.mk.injEq] at ho
                obtain ⟨rfl, rfl⟩ := ho
                exact ⟨build _ fun u0 hu0 => hheadone u0 hu0, rows0, hob, by simp [Rows.setCell], keepc _ fun s xs' e2 _ => by cases e2⟩
          · simp only [hc] at hpass
      | _ => simp [updLeafO] at hx
    | _ => simp [updLeafO] at hx
end post
end Go.Proofs.Ytkcbnbbbijlhcai.A
