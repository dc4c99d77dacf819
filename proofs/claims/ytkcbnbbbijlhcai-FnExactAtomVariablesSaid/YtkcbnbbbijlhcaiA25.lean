/- THE ABSTRACT SEMANTICS IS SOUND, twenty-first part: the frame behind a call. Conditions: none. -/
import Derived.Test.YtkcbnbbbijlhcaiA24
namespace Go.Proofs.Ytkcbnbbbijlhcai.A
open Go
set_option linter.unusedSimpArgs false
set_option linter.unusedVariables false

section post
variable {cx : Cx} {st : St} {sh : Sh} {a : Act} {W W' : World} {Fr : Nat → Prop} {R : List CRow} {lent : Bool} {n : Nat} {lab' : Nat → Lab}

/-- What is known behind the call of a variable. -/
theorem call_var (h : InvS cx st sh a W Fr) (hR : Leafs st W sh R) (hext : Ext W (lcOf st W sh R lent) W' lab') (hback : ∀ r ∈ R, LeafRep W' lab' r.k r.u r.v) (hstill : lent = false ∨ ∀ r ∈ R, r.u.still = true) {id : Nat} {fs : List SV} {nid : Nat}
    (ho : upd st.vars (R.flatMap fun r => updLeafV r.s r.l r.u) id = some fs) :
    st.vars id ≠ none ∧ labOf st W sh R lent nid lab' (sh.β id) = .var id ∧ ((st.vars id = some fs ∧ W'.heap[sh.β id]? = W.heap[sh.β id]?) ∨
      ∃ (c : Array Value) (t : TypeId) (gs : List Fld), fs = gs.map Fld.sv ∧ W'.heap[sh.β id]? = some (.cells c t (0, 0)) ∧ All2 (FldRep W' (labOf st W sh R lent nid lab')) gs c.toList) := by
  rcases upd_get st.vars id (R.flatMap fun r => updLeafV r.s r.l r.u) with ⟨hno, he⟩ | ⟨x, hmem, he⟩
  · rw [he] at ho
    obtain ⟨h1, _⟩ := h.vars id fs ho
    obtain ⟨m1, m2⟩ := lab_stay (nid := nid) h hext (b := sh.β id) (by rw [h1]; simp) (fun r hr L' hc => by
      rw [h1] at hc
      unfold Cov at hc
      split at hc
      · rcases hc with ⟨_, ⟨e, _⟩ | ⟨i, j, e, _⟩⟩ <;> cases e
      · cases hc.2.1
      · rename_i q j fs' e1 e2
        obtain ⟨e, _⟩ := hc
        cases e
        have : ∃ x, (id, x) ∈ updLeafV r.s r.l r.u := by
          rw [e1, e2]
          cases r.u <;> exact ⟨_, by simp [updLeafV]; rfl⟩
        obtain ⟨x, hx⟩ := this
        exact hno x (List.mem_flatMap.mpr ⟨r, hr, hx⟩)
      · exact hc)
    exact ⟨by rw [ho]; simp, m1.trans h1, .inl ⟨ho, m2⟩⟩
  · rw [he] at ho
    obtain ⟨r, hr, hx⟩ := List.mem_flatMap.mp hmem
    obtain ⟨hrep, hpass, hfit⟩ := hR.rep r hr
    have hb := hback r hr
    have hcov : ∀ b L, Cov st W sh r L (lab' b) → labOf st W sh R lent nid lab' b = L := fun b L hc => hR.lab_cov h hext hr hc
    have hst : lent = false ∨ r.u.still = true := by rcases hstill with e | e; exact .inl e; exact .inr (e r hr)
    obtain ⟨k, s, l, u, v⟩ := r
    simp only at hrep hpass hfit hb hx hst
    cases s with
    | vad q j => cases l with
      | op fs0 => cases u with
        | op gs =>
          simp only [updLeafV, List.mem_singleton, Prod.mk.injEq] at hx
          obtain ⟨rfl, rfl⟩ := hx
          simp only [Option.some.injEq] at ho
          subst ho
          cases j with
          | succ j => exact hpass.elim
          | zero =>
            have hvar : st.vars id = some (fs0.map Fld.sv) := hpass
            have e := hrep _ hvar
            obtain ⟨b, c, t, e2, e3, e4, e5, e6⟩ := hb
            rw [e] at e2; cases e2
            refine ⟨by rw [hvar]; simp, hcov _ _ ⟨rfl, e3⟩, .inr ⟨c, t, gs, rfl, e4, all2_of_get (by simp [e5]) fun j f u hj hu => ?_⟩⟩
            obtain ⟨u', u1, u2⟩ := e6 j f hj
            have : u' = u := by
              have hu' : c[j]? = some u := by simpa using hu
              rw [hu'] at u1; cases u1; rfl
            subst this
            cases f with
            | sc x => exact u2
            | im w rows =>
              rcases hst with hl | hs
              · exact imRep_agree (S := (· = .imm)) (fun b hb => ⟨by rw [hR.lab_imm hext hl b hb, hb], rfl⟩) rfl u2
              · have hf := List.all_eq_true.mp hs _ (List.mem_of_getElem? hj)
                have hr0 : rows = [] := by simpa [Fld.still] using hf
                subst hr0
                obtain ⟨A, cap, q1, q2, q3, q4⟩ := u2
                exact ⟨A, cap, q1, q2, q3, fun hne => absurd rfl hne⟩
        | _ =>
          simp only [updLeafV, List.mem_singleton, Prod.mk.injEq] at hx
          rw [hx.2] at ho; cases ho
      | _ => simp [updLeafV] at hx
    | _ => simp [updLeafV] at hx

theorem hand_fresh (h : InvS cx st sh a W Fr) {id : Nat} (hf : Fr id) {r : CRow} (hids : ∀ q ∈ r.s.ids', ¬ Fr q) : id ∉ handLeaf r.s r.l := by
  intro hm
  obtain ⟨k, s, l, u, v⟩ := r
  cases s <;> cases l <;> simp [handLeaf] at hm <;> exact hids _ (by simp [SV.ids', hm]) hf
theorem updO_ids {st : St} {n : Nat} {s : SV} {l u : Leaf} {id : Nat} {x : Option Obj'} (h : (id, x) ∈ updLeafO n st s l u) : id ∈ handLeaf s l := by
  cases s with
  | ref q _ _ _ => cases l with
    | ow _ _ => cases u <;> simp [updLeafO] at h <;> simp [handLeaf, h.1]
    | _ => simp [updLeafO] at h
  | rin q _ _ _ _ _ => cases l with
    | ow _ _ =>
      rcases hq : st.objs q with _ | ⟨w, old⟩ <;> cases u <;> simp [updLeafO, hq] at h <;> simp [handLeaf, h.1]
    | _ => simp [updLeafO] at h
  | _ => simp [updLeafO] at h
theorem updV_ids {s : SV} {l u : Leaf} {id : Nat} {x : Option (List SV)} (h : (id, x) ∈ updLeafV s l u) : id ∈ handLeaf s l := by
  cases s with
  | vad q _ => cases l with
    | op _ => cases u <;> simp [updLeafV] at h <;> simp [handLeaf, h.1]
    | _ => simp [updLeafV] at h
  | _ => simp [updLeafV] at h

/-- The frame behind a call, without what comes back. -/
theorem InvS.after (h : InvS cx st sh a W Fr) (hpins : ∀ q ∈ cx.pins, q.1 < 1000) (hR : Leafs st W sh R) (hn : Fr n) (hids : ∀ r ∈ R, ∀ q ∈ r.s.ids', ¬ Fr q) (hext : Ext W (lcOf st W sh R lent) W' lab') (hback : ∀ r ∈ R, LeafRep W' lab' r.k r.u r.v)
    (hstill : lent = false ∨ ∀ r ∈ R, r.u.still = true) (nid : Nat) {Fr' : Nat → Prop} (hF : ∀ q, Fr' q → Fr q ∧ q ≠ n) :
    InvS cx ⟨st.slots, upd st.vars (R.flatMap fun r => updLeafV r.s r.l r.u), upd st.objs (R.flatMap fun r => updLeafO n st r.s r.l r.u), st.next⟩ ⟨labOf st W sh R lent nid lab', sh.μ, sh.β⟩ a W' Fr' := by
  have hlo := h.low n hn
  have hn0 : 0 < n := by omega
  -- labels with another base number read the same for what is kept
  have hobj : ∀ id w rows', upd st.objs (R.flatMap fun r => updLeafO n st r.s r.l r.u) id = some (w, rows') → OwnRep W' (labOf st W sh R lent nid lab') id w rows' (sh.μ id) ∧ ∃ rows, st.objs id = some (w, rows) ∧ rows.length = rows'.length ∧
      ∀ i j s xs', s ≠ n → 0 < s → Rows.cell rows' i j = .sl s xs' → ∃ xs, Rows.cell rows i j = .sl s xs ∧ xs.length = xs'.length ∧ headAt W' (sh.μ id) w i j = headAt W (sh.μ id) w i j :=
    fun id w rows' ho => call_obj h hR hn0 hext hback hstill ho
  have k : Keeps st W sh ⟨st.slots, upd st.vars (R.flatMap fun r => updLeafV r.s r.l r.u), upd st.objs (R.flatMap fun r => updLeafO n st r.s r.l r.u), st.next⟩ W' ⟨labOf st W sh R lent nid lab', sh.μ, sh.β⟩ (· = n) := by
    refine ⟨fun b hb => ?_, fun id _ hv => ?_, fun id w rows' _ hs => ?_⟩
    · exact lab_stay h hext (by rw [hb]; simp) (no_cov_of (.inl hb))
    · obtain ⟨fs, hfs⟩ := Option.ne_none_iff_exists'.mp hv
      exact ⟨(call_var (nid := nid) h hR hext hback hstill hfs).1, rfl⟩
    · obtain ⟨_, rows, h1, h2, h3⟩ := hobj id w rows' hs
      exact ⟨rfl, rows, h1, h2, fun i j s xs' hns h0 hc => h3 i j s xs' hns h0 hc⟩
  have hfr : ∀ id, Fr' id → ∀ r ∈ R, id ∉ handLeaf r.s r.l := fun id hf r hr => hand_fresh h (hF id hf).1 (hids r hr)
  refine h.move k (by rintro _ rfl; exact hn) (fun q hq => (hF q hq).1) (ext_call h hext) (fun id fs hf => ?_) (fun id w rows hs => (hobj id w rows hs).1) (fun id hf => ?_) (fun id w rows' i j s xs hs hc hq => ?_) (fun id _ hs => ⟨?_, rfl⟩) (fun id _ hv => ⟨?_, rfl⟩) hpins
  · obtain ⟨h1, h2, h3⟩ := call_var (nid := nid) h hR hext hback hstill hf
    rcases h3 with ⟨h3, h4⟩ | ⟨c, t, gs, rfl, h4, h5⟩
    · obtain ⟨_, c, t, g2, g3⟩ := h.vars id fs h3
      refine ⟨⟨h2, c, t, by rw [← g2]; exact h4, all2_mono (fun s u m g => svRep_keeps k (fun id' hi e' => ?_) g) g3⟩, fun id' hf' s m => (h.fresh id' (hF id' hf').1).2.2.2 id fs h3 s m⟩
      subst e'
      exact (h.fresh id' hn).2.2.2 id fs h3 s m hi
    · refine ⟨⟨h2, c, t, h4, all2_of_get (by rw [List.length_map]; exact all2_length h5) fun q s u hq hu => ?_⟩, fun id' _ s m hi => ?_⟩
      · simp only [List.getElem?_map, Option.map_eq_some_iff] at hq
        obtain ⟨f, hf', rfl⟩ := hq
        obtain ⟨u', u1, u2⟩ := all2_get h5 hf'
        rw [hu] at u1; cases u1
        cases f with
        | sc x => exact u2
        | im w rows => exact u2
      · obtain ⟨f, _, rfl⟩ := List.mem_map.mp m
        exact fsv_ids f id' hi
  · obtain ⟨g1, g2, _⟩ := h.fresh id (hF id hf).1
    constructor
    · show upd st.vars _ id = none
      rcases upd_get st.vars id (R.flatMap fun r => updLeafV r.s r.l r.u) with ⟨_, he⟩ | ⟨x, hmem, _⟩
      · rw [he]; exact g1
      · obtain ⟨r, hr, hx⟩ := List.mem_flatMap.mp hmem
        exact absurd (updV_ids hx) (hfr id hf r hr)
    · show upd st.objs _ id = none
      rcases upd_get st.objs id (R.flatMap fun r => updLeafO n st r.s r.l r.u) with ⟨_, he⟩ | ⟨x, hmem, _⟩
      · rw [he]; exact g2
      · obtain ⟨r, hr, hx⟩ := List.mem_flatMap.mp hmem
        exact absurd (updO_ids hx) (hfr id hf r hr)
  · obtain ⟨_, rows, h1, h2, h3⟩ := hobj id w rows' hs
    by_cases e : s = n
    · exact (hF s hq).2 e
    · rcases Nat.eq_zero_or_pos s with e0 | e0
      · subst e0
        have := h.low 0 (hF 0 hq).1
        omega
      · obtain ⟨xs0, c1, _⟩ := h3 i j s xs e e0 hc
        exact h.stamps id w rows i j s xs0 h1 c1 (hF s hq).1
  · rcases hs' : upd st.objs (R.flatMap fun r => updLeafO n st r.s r.l r.u) id with _ | ⟨w, rows'⟩
    · exact absurd hs' hs
    · obtain ⟨_, rows, h1, _⟩ := hobj id w rows' hs'
      rw [h1]; simp
  · obtain ⟨fs, hfs⟩ := Option.ne_none_iff_exists'.mp hv
    exact (call_var (nid := nid) h hR hext hback hstill hfs).1
end post
end Go.Proofs.Ytkcbnbbbijlhcai.A
