/- THE ABSTRACT SEMANTICS IS SOUND, nineteenth part: what a call is handed reads as it is told. Conditions: none. -/
import Derived.Test.YtkcbnbbbijlhcaiA22
namespace Go.Proofs.Ytkcbnbbbijlhcai.A
open Go
set_option linter.unusedSimpArgs false
set_option linter.unusedVariables false

section maps
variable {W : World} {lab lab2 : Nat → Lab}
theorem ownCell_map {L L2 : Lab} {c : Cell} {v : Value} (himm : (∀ b, lab b = .imm → lab2 b = .imm) ∨ c.still = true) (h1 : ∀ s xs, c = .sl (s + 1) xs → ∀ b, lab b = L → lab2 b = L2) (h : OwnCell W lab L c v) : OwnCell W lab2 L2 c v := by
  cases c with
  | sc x => exact h
  | gone => exact h
  | sl s xs => cases s with
    | zero =>
      rcases himm with himm | hs
      · exact imSl_agree (S := (· = .imm)) (fun b hb => ⟨by rw [himm b hb, hb], rfl⟩) rfl h
      · obtain ⟨A, cap, e, hl, _⟩ := h
        have : xs = [] := by simpa [Cell.still] using hs
        exact ⟨A, cap, e, hl, fun hne => absurd this hne⟩
    | succ s =>
      rcases h with ⟨A, e, hn⟩ | ⟨b, cap, c, t, e1, e2, e3, e4⟩
      · exact .inl ⟨A, e, hn⟩
      · exact .inr ⟨b, cap, c, t, e1, e2, h1 s xs rfl b e3, e4⟩
theorem ownRep_map {id id2 w : Nat} {rows : Rows} {v : Value} (himm : (∀ b, lab b = .imm → lab2 b = .imm) ∨ stillRows rows = true) (h1 : ∀ b, lab b = .own id → lab2 b = .own id2) (h2 : ∀ b i j, lab b = .inn id i j → lab2 b = .inn id2 i j)
    (h : OwnRep W lab id w rows v) : OwnRep W lab2 id2 w rows v := by
  obtain ⟨hw, hr, hc⟩ := h
  refine ⟨hw, hr, ?_⟩
  rcases hc with ⟨A, e, hn⟩ | ⟨b, cap, c, t, e1, e2, e3, e4, e5, e6⟩
  · exact .inl ⟨A, e, hn⟩
  · refine .inr ⟨b, cap, c, t, e1, e2, h1 b e3, e4, e5, fun i j r x hi hj => ?_⟩
    obtain ⟨u, k1, k2⟩ := e6 i j r x hi hj
    refine ⟨u, k1, ownCell_map ?_ (fun _ _ _ b' hb' => h2 b' i j hb') k2⟩
    rcases himm with himm | hs
    · exact .inl himm
    · exact .inr (List.all_eq_true.mp (List.all_eq_true.mp hs r (List.mem_of_getElem? hi)) x (List.mem_of_getElem? hj))
theorem ownRep_cells {id w : Nat} {rows : Rows} {v : Value} {f : Cell → Cell} (hf : ∀ (L : Lab) (c : Cell) (u : Value), OwnCell W lab L c u → OwnCell W lab L (f c) u) (h : OwnRep W lab id w rows v) : OwnRep W lab id w (rows.map fun r => r.map f) v := by
  obtain ⟨hw, hr, hc⟩ := h
  refine ⟨hw, fun r hm => ?_, ?_⟩
  · obtain ⟨r0, h0, rfl⟩ := List.mem_map.mp hm
    rw [List.length_map]; exact hr r0 h0
  rcases hc with ⟨A, e, hn⟩ | ⟨b, cap, c, t, e1, e2, e3, e4, e5, e6⟩
  · subst hn; exact .inl ⟨A, e, rfl⟩
  · refine .inr ⟨b, cap, c, t, by rw [List.length_map]; exact e1, by rw [List.length_map]; exact e2, e3, e4, e5, fun i j r x hi hj => ?_⟩
    simp only [List.getElem?_map, Option.map_eq_some_iff] at hi
    obtain ⟨r0, h0, rfl⟩ := hi
    simp only [List.getElem?_map, Option.map_eq_some_iff] at hj
    obtain ⟨c0, h1, rfl⟩ := hj
    obtain ⟨u, k1, k2⟩ := e6 i j r0 c0 h0 h1
    exact ⟨u, k1, hf _ _ _ k2⟩
theorem ownCell_rst (L : Lab) (c : Cell) (u : Value) (h : OwnCell W lab L c u) : OwnCell W lab L c.rst u := by
  cases c with
  | sc x => exact h
  | gone => exact h
  | sl s xs => cases s <;> exact h
theorem ownCell_stm {n : Nat} (hn : 0 < n) (L : Lab) (c : Cell) (u : Value) (h : OwnCell W lab L c u) : OwnCell W lab L (c.stm n) u := by
  obtain ⟨n, rfl⟩ : ∃ m, n = m + 1 := ⟨n - 1, by omega⟩
  cases c with
  | sc x => exact h
  | gone => exact h
  | sl s xs => cases s <;> exact h
theorem ownRep_rst {id w : Nat} {rows : Rows} {v : Value} (h : OwnRep W lab id w rows v) : OwnRep W lab id w (rst rows) v := ownRep_cells ownCell_rst h
theorem ownRep_stm {id w n : Nat} (hn : 0 < n) {rows : Rows} {v : Value} (h : OwnRep W lab id w rows v) : OwnRep W lab id w (stm n rows) v := ownRep_cells (ownCell_stm hn) h
theorem rst_rst (rows : Rows) : rst (rst rows) = rst rows := by
  unfold rst
  rw [List.map_map]
  congr 1
  funext r
  simp only [Function.comp]
  rw [List.map_map]
  congr 1
  funext c
  cases c with
  | sl s xs => cases s <;> rfl
  | _ => rfl
theorem rst_lift (xs : List Value) : rst (lift xs) = lift xs := by
  unfold rst lift
  rw [List.map_map]
  rfl
theorem stm_lift (n : Nat) (xs : List Value) : stm n (lift xs) = lift xs := by
  unfold stm lift
  rw [List.map_map]
  rfl
theorem ownRep_nil {id w : Nat} {A : Option Addr} (hw : 0 < w) : OwnRep W lab id w [] (.slice A 0 0) := ⟨hw, by simp, .inl ⟨A, rfl, rfl⟩⟩
/-- An inner slice as a slice of its own. -/
theorem ownRep_of_sl {L : Lab} {k : Nat} {xs : List Value} {v : Value} (h1 : ∀ b, lab b = L → lab2 b = .own k) (h : OwnSl W lab L xs v) : OwnRep W lab2 k 1 (lift xs) v := by
  refine ⟨by omega, fun r hr => ?_, ?_⟩
  · simp only [lift, List.mem_map] at hr
    obtain ⟨x, _, rfl⟩ := hr; rfl
  rcases h with ⟨A, e, hn⟩ | ⟨b, cap, c, t, e1, e2, e3, e4, e5, e6⟩
  · subst hn; exact .inl ⟨A, e, rfl⟩
  · refine .inr ⟨b, cap, c, t, by rw [lift_length]; exact e1, by rw [lift_length]; exact e2, h1 b e3, e4, by rw [e5, Nat.mul_one], fun i j r x hi hj => ?_⟩
    simp only [lift, List.getElem?_map, Option.map_eq_some_iff] at hi
    obtain ⟨y, hy, rfl⟩ := hi
    cases j with
    | zero =>
      simp at hj; subst hj
      obtain ⟨z1, z2⟩ := e6 i y hy
      exact ⟨y, by simpa using z2, rfl, z1⟩
    | succ j => simp at hj
end maps

section pre
variable {cx : Cx} {st : St} {sh : Sh} {a : Act} {W : World} {Fr : Nat → Prop} {R : List CRow} {lent : Bool}

/-- A variable's fields, lent. -/
theorem InvS.lendFields (h : InvS cx st sh a W Fr) {lc : Nat → Lab} (himm : ∀ b, sh.lab b = .imm → lc b = .imm) {id : Nat} {fs : List Fld} (hf : fldsOf st id fs) (hids : ∀ q ∈ id :: varSVs st id, ∀ b, ofId (sh.lab b) q → lc b = .imm) {v : Value} (hv : SVRep st W sh (.vad id 0) v) : IpRep W lc fs 0 v := by
  unfold fldsOf at hf
  rcases hvar : st.vars id with _ | xs
  · rw [hvar] at hf; exact hf.elim
  · rw [hvar] at hf
    obtain ⟨h1, c, t, h2, h3⟩ := h.vars id xs hvar
    refine ⟨sh.β id, 0, hv xs hvar, hids id (by simp) _ (.inr (.inr h1)), fun k f hk => ?_⟩
    have hkl : k < xs.length := by rw [all2_length hf]; exact (List.getElem?_eq_some_iff.mp hk).1
    obtain ⟨f', g1, g2⟩ := all2_get hf (List.getElem?_eq_getElem hkl)
    rw [hk] at g1; cases g1
    obtain ⟨u, u1, u2⟩ := all2_get h3 (List.getElem?_eq_getElem hkl)
    refine ⟨u, by rw [cell_cells h2, Nat.zero_add]; simpa using u1, ?_⟩
    have hmem : ∀ q ∈ xs[k].ids', ∀ b, ofId (sh.lab b) q → lc b = .imm := by
      intro q hq
      refine hids q ?_
      simp only [varSVs, hvar, List.mem_cons, List.mem_flatMap]
      exact .inr ⟨_, List.getElem_mem hkl, hq⟩
    have key : ∀ s : SV, SVRep st W sh s u → (∀ q ∈ s.ids', ∀ b, ofId (sh.lab b) q → lc b = .imm) → ∀ f, SV.flds st s f → FldRep W lc f u := by
      intro s hs hq f hf
      cases s with
      | sc x =>
        have e : u = x := hs
        subst e
        simp only [SV.flds] at hf
        rcases hf with rfl | ⟨hn, w, rfl⟩
        · rfl
        · rw [isNil_eq hn]; exact imRep_nil
      | _ =>
        cases f with
        | sc y => exact hf.elim
        | im w rows =>
          obtain ⟨rows', e1, e2⟩ := hf
          subst e2
          exact h.lendRows hs e1 himm hq
    exact key _ u2 hmem f g2

theorem InvS.leaf (h : InvS cx st sh a W Fr) (hR : Leaf0 st W sh R) (hl : ∀ r ∈ R, ∀ id ∈ lends st r.s r.l, lent = true ∧ id ∉ R.flatMap fun r => handLeaf r.s r.l) : ∀ r ∈ R, LeafRep W (lcOf st W sh R lent) r.k r.l r.v := by
  intro r hr
  obtain ⟨hrep, hpass, _⟩ := hR.rep r hr
  have himm : ∀ b, sh.lab b = .imm → lcOf st W sh R lent b = .imm := fun b hb => by simp only [lcOf, hb]; exact tr_imm
  have hlend : ∀ id ∈ lends st r.s r.l, ∀ b, ofId (sh.lab b) id → lcOf st W sh R lent b = .imm := by
    intro id hid b hb
    obtain ⟨h1, h2⟩ := hl r hr id hid
    simp only [lcOf]
    rw [tr_rest hb (no_cov_id hb h2), h1]; rfl
  have hcov : ∀ b L', Cov st W sh r (sh.lab b) L' → lcOf st W sh R lent b = L' := fun b L' hc => hR.tr_cov hr hc
  have hag : Agree W sh.lab W (lcOf st W sh R lent) (· = .imm) := fun b hb => ⟨by rw [himm b hb, hb], rfl⟩
  obtain ⟨k, s, l, u, v⟩ := r
  simp only at hrep hpass hlend hcov ⊢
  cases l with
  | sc x => cases s with
    | sc y => have e : x = y := hpass
              have e2 : v = y := hrep
              show v = x
              rw [e, e2]
    | _ => exact hpass.elim
  | im w rows => cases s with
    | sc y =>
      obtain ⟨hn, rfl⟩ := hpass
      have e2 : v = y := hrep
      rw [isNil_eq hn] at e2
      rw [e2]; exact imRep_nil
    | ref id _ _ _ =>
      obtain ⟨rows', e1, rfl⟩ := hpass
      exact h.lendRows hrep e1 himm (fun q hq b hb => hlend q (by simpa [lends, SV.ids'] using hq) b hb)
    | rin id _ _ _ _ _ =>
      obtain ⟨rows', e1, rfl⟩ := hpass
      exact h.lendRows hrep e1 himm (fun q hq b hb => hlend q (by simpa [lends, SV.ids'] using hq) b hb)
    | im w' rows2 =>
      obtain ⟨rows', e1, rfl⟩ := hpass
      exact h.lendRows hrep e1 himm (fun q hq => by simp [SV.ids'] at hq)
    | _ =>
      obtain ⟨rows', e1, _⟩ := hpass
      simp [St.rows] at e1
  | ow w rows => cases s with
    | sc y =>
      obtain ⟨hn, hw, rfl⟩ := hpass
      have e2 : v = y := hrep
      rw [isNil_eq hn] at e2
      rw [e2]; exact ⟨ownRep_nil hw, rfl⟩
    | ref id w' off len =>
      simp only [pass] at hpass
      rcases hob : st.objs id with _ | ⟨w2, rows'⟩
      · simp only [hob] at hpass
      · simp only [hob] at hpass
        obtain ⟨rfl, rfl, rfl, hlen, rfl⟩ := hpass
        refine ⟨?_, rst_rst _⟩
        obtain ⟨_, _, hvi⟩ := hrep _ rows' hob
        obtain ⟨A, cap, e, hcap, hA⟩ := own_shape h hob
        subst hlen
        have hrepO := h.objs id _ _ hob
        rcases view_all hvi e hA with hv' | ⟨hz, A', hv'⟩
        · refine ownRep_rst ?_
          rw [hv']
          refine ownRep_map (.inl himm) (fun b hb => hcov b _ ?_) (fun b i j hb => hcov b _ ?_) hrepO
          · exact ⟨hv', .inl ⟨hb, rfl⟩⟩
          · exact ⟨hv', .inr ⟨i, j, hb, rfl⟩⟩
        · have : rows' = [] := List.length_eq_zero_iff.mp hz
          subst this
          rw [hv']; exact ownRep_nil hrepO.1
    | rin id i j s0 off len =>
      simp only [pass] at hpass
      rcases hob : st.objs id with _ | ⟨w2, rows'⟩
      · simp only [hob] at hpass
      · simp only [hob] at hpass
        rcases hc : Rows.cell rows' i j with _ | ⟨s1, xs⟩ | _
        · simp only [hc] at hpass
        · simp only [hc] at hpass
          obtain ⟨rfl, h0, rfl, rfl, hlen, rfl⟩ := hpass
          refine ⟨?_, rst_lift _⟩
          obtain ⟨_, _, hd, g2, hvi⟩ := hrep.2 _ rows' xs hob hc
          obtain ⟨v', k1, k2⟩ := h.own_head hob hc h0
          rw [g2] at k1; cases k1
          obtain ⟨A, cap, e, hcap, hA⟩ := ownSl_shape k2
          subst hlen
          rcases view_all hvi e hA with hv' | ⟨hz, A', hv'⟩
          · rw [hv']
            refine ownRep_of_sl (lab := sh.lab) (fun b hb => hcov b _ ?_) k2
            exact ⟨⟨_, rows', hob, by rw [hv']; exact g2⟩, hb, rfl⟩
          · have : xs = [] := List.length_eq_zero_iff.mp hz
            subst this
            rw [hv']; exact ownRep_nil (by omega)
        · simp only [hc] at hpass
    | _ => exact hpass.elim
  | gone => trivial
  | ip fs => cases s with
    | vad id j =>
      cases j with
      | zero => exact h.lendFields himm hpass (fun q hq b hb => hlend q (by simpa [lends] using hq) b hb) hrep
      | succ j => exact hpass.elim
    | ipt fs' j =>
      cases j with
      | zero =>
        have e : fs = fs' := hpass
        subst e
        exact ipRep_agree hag rfl hrep
      | succ j => exact hpass.elim
    | _ => exact hpass.elim
  | op fs => cases s with
    | vad id j =>
      cases j with
      | zero =>
        have hvar : st.vars id = some (fs.map Fld.sv) := hpass
        obtain ⟨h1, c, t, h2, h3⟩ := h.vars id _ hvar
        refine ⟨sh.β id, c, t, hrep _ hvar, hcov _ _ ⟨h1, rfl⟩, h2, ?_, fun j f hj => ?_⟩
        · have := all2_length h3; simp at this; omega
        · obtain ⟨u, u1, u2⟩ := all2_get h3 (k := j) (a := f.sv) (by simp [hj])
          refine ⟨u, by simpa using u1, ?_⟩
          cases f with
          | sc x => exact u2
          | im w rows => exact imRep_agree hag rfl u2
      | succ j => exact hpass.elim
    | _ => exact hpass.elim
  | fn f caps => cases s with
    | fnv f' ids =>
      obtain ⟨rfl, hp⟩ := hpass
      obtain ⟨cs, e, hc⟩ := hrep
      refine ⟨cs, e, all2_of_get ?_ fun q fs w hq hw => ?_⟩
      · rw [← all2_length hp, all2_length hc]
      · have hql : q < ids.length := by rw [all2_length hp]; exact (List.getElem?_eq_some_iff.mp hq).1
        obtain ⟨fs', g1, g2⟩ := all2_get hp (List.getElem?_eq_getElem hql)
        rw [hq] at g1; cases g1
        obtain ⟨w', g3, g4⟩ := all2_get hc (List.getElem?_eq_getElem hql)
        rw [hw] at g3; cases g3
        refine h.lendFields himm g2 (fun q' hq' b hb => hlend q' ?_ b hb) (fun fs hfs => g4 fs hfs)
        simp only [lends, List.mem_append, List.mem_flatMap]
        rcases List.mem_cons.mp hq' with rfl | hq'
        · exact .inl (List.getElem_mem hql)
        · exact .inr ⟨_, List.getElem_mem hql, hq'⟩
    | fni f' caps' =>
      obtain ⟨rfl, rfl⟩ := hpass
      obtain ⟨cs, e, hc⟩ := hrep
      exact ⟨cs, e, all2_mono (fun _ _ _ g => ipRep_agree hag rfl g) hc⟩
    | _ => exact hpass.elim
end pre
end Go.Proofs.Ytkcbnbbbijlhcai.A
