/- THE ABSTRACT SEMANTICS IS SOUND, twenty-second part: what a call brings back. Conditions: none. -/
import Derived.Test.YtkcbnbbbijlhcaiA25
namespace Go.Proofs.Ytkcbnbbbijlhcai.A
open Go
set_option linter.unusedSimpArgs false
set_option linter.unusedVariables false

section res
variable {cx : Cx} {st : St} {sh : Sh} {a : Act} {W : World} {Fr : Nat → Prop} {lab' : Nat → Lab} {nid : Nat}

theorem keeps_trans {st1 st2 : St} {W1 W2 : World} {sh1 sh2 : Sh} {new1 new2 new : Nat → Prop} (k1 : Keeps st W sh st1 W1 sh1 new1) (k2 : Keeps st1 W1 sh1 st2 W2 sh2 new2) (h1 : ∀ q, new1 q → new q) (h2 : ∀ q, new2 q → new q) : Keeps st W sh st2 W2 sh2 new := by
  refine ⟨fun b hb => ?_, fun id hn hv => ?_, fun id w rows' hn hs => ?_⟩
  · obtain ⟨a1, a2⟩ := k1.imm b hb
    obtain ⟨b1, b2⟩ := k2.imm b (a1.trans hb)
    exact ⟨b1.trans a1, b2.trans a2⟩
  · obtain ⟨a1, a2⟩ := k2.vars id (fun h => hn (h2 id h)) hv
    obtain ⟨b1, b2⟩ := k1.vars id (fun h => hn (h1 id h)) a1
    exact ⟨b1, a2.trans b2⟩
  · obtain ⟨a1, rows1, a2, a3, a4⟩ := k2.objs id w rows' (fun h => hn (h2 id h)) hs
    obtain ⟨b1, rows0, b2, b3, b4⟩ := k1.objs id w rows1 (fun h => hn (h1 id h)) a2
    refine ⟨a1.trans b1, rows0, b2, b3.trans a3, fun i j s xs' hns h0 hc => ?_⟩
    obtain ⟨xs1, c1, c2, c3⟩ := a4 i j s xs' (fun h => hns (h2 s h)) h0 hc
    obtain ⟨xs0, d1, d2, d3⟩ := b4 i j s xs1 (fun h => hns (h1 s h)) h0 c1
    exact ⟨xs0, d1, d2.trans c2, c3.trans d3⟩
theorem keeps_addObj (st : St) (W : World) (sh : Sh) (nid w : Nat) (rows : Rows) (hd : Value) :
    Keeps st W sh ⟨st.slots, st.vars, upd st.objs [(nid, some (w, rows))], st.next⟩ W ⟨sh.lab, fun id => if id = nid then hd else sh.μ id, sh.β⟩ (· = nid) := by
  refine ⟨fun b _ => ⟨rfl, rfl⟩, fun id _ hv => ⟨hv, rfl⟩, fun id w' rows' hn hs => ?_⟩
  simp only [upd, if_neg hn] at hs ⊢
  exact ⟨trivial, rows', hs, rfl, fun i j s xs' _ _ hc => ⟨xs', hc, rfl, trivial⟩⟩
theorem keeps_addVar (st : St) (W : World) (sh : Sh) (nid : Nat) (fs : List SV) (b : Nat) :
    Keeps st W sh ⟨st.slots, upd st.vars [(nid, some fs)], st.objs, st.next⟩ W ⟨sh.lab, sh.μ, fun id => if id = nid then b else sh.β id⟩ (· = nid) := by
  refine ⟨fun b _ => ⟨rfl, rfl⟩, fun id hn hv => ?_, fun id w' rows' hn hs => ⟨rfl, rows', hs, rfl, fun i j s xs' _ _ hc => ⟨xs', hc, rfl, rfl⟩⟩⟩
  simp only [upd, if_neg hn] at hv ⊢
  exact ⟨hv, trivial⟩
/-- A variable that lies in memory already. -/
theorem InvS.addVar (h : InvS cx st sh a W Fr) (hpins : ∀ q ∈ cx.pins, q.1 < 1000) {nid b : Nat} (hid : Fr nid) {fs : List SV} {c : Array Value} {t : TypeId} (hlab : sh.lab b = .var nid) (hblk : W.heap[b]? = some (.cells c t (0, 0))) (hfs : All2 (SVRep st W sh) fs c.toList)
    (hmen : ∀ id, Fr id → ∀ s ∈ fs, id ∉ s.ids) {Fr' : Nat → Prop} (hF : ∀ id, Fr' id → Fr id ∧ id ≠ nid) :
    InvS cx ⟨st.slots, upd st.vars [(nid, some fs)], st.objs, st.next⟩ ⟨sh.lab, sh.μ, fun id => if id = nid then b else sh.β id⟩ a W Fr' := by
  have hlo := h.low nid hid
  have k := keeps_addVar st W sh nid fs b
  refine h.move k (by rintro _ rfl; exact hid) (fun id hf => (hF id hf).1) h.ext (fun id gs hg => ?_) (fun id w rows ho => h.objs id w rows ho) (fun id hf => ?_) (fun id w rows i j s xs ho hc hf => h.stamps id w rows i j s xs ho hc (hF s hf).1) (fun id _ ho => ⟨ho, rfl⟩) (fun id hl hv => ?_) hpins
  · by_cases e : id = nid
    · subst e
      simp only [upd, if_true, Option.some.injEq] at hg
      subst hg
      exact ⟨⟨by simpa using hlab, c, t, by simpa using hblk, all2_mono (fun s u m g => svRep_keeps k (fun id' hi e => hmen id hid s m (by rw [← e]; exact hi)) g) hfs⟩, fun id' hf s m => hmen id' (hF id' hf).1 s m⟩
    · simp only [upd, if_neg e] at hg
      obtain ⟨h1, c', t', h2, h3⟩ := h.vars id gs hg
      refine ⟨⟨by simpa only [if_neg e] using h1, c', t', by simpa only [if_neg e] using h2, all2_mono (fun s u m g => svRep_keeps k (fun id' hi e' => ?_) g) h3⟩, fun id' hf s m => (h.fresh id' (hF id' hf).1).2.2.2 id gs hg s m⟩
      subst e'
      exact (h.fresh id' hid).2.2.2 id gs hg s m hi
  · obtain ⟨h1, h2, _⟩ := h.fresh id (hF id hf).1
    exact ⟨by simp only [upd, if_neg (hF id hf).2]; exact h1, h2⟩
  · simp only [upd] at hv ⊢
    rw [if_neg (by omega)] at hv
    exact ⟨hv, by rw [if_neg (by omega)]⟩

/-- The labels behind a call, as they stand to those of the call's own. -/
structure Back (sh : Sh) (lab' : Nat → Lab) (nid : Nat) (still : Bool) : Prop where
  new : ∀ b m, 4096 ≤ m → ofId (lab' b) m → sh.lab b = nextL nid (lab' b)
  imm : still = false → ∀ b, lab' b = .imm → sh.lab b = .imm

theorem InvS.addLeaf (h : InvS cx st sh a W Fr) (hpins : ∀ q ∈ cx.pins, q.1 < 1000) {still : Bool} (hb : Back sh lab' nid still) {k id : Nat} (hk : 4096 ≤ k) (hid : id = nid + (k - 4096)) (hF : Fr id) {l : Leaf} {v : Value} (hl : LeafRep W lab' k l v) (hs : still = true → l.still = true) :
    ∃ sh', sh'.lab = sh.lab ∧ InvS cx ⟨st.slots, upd st.vars (resLeafV id l), upd st.objs (resLeafO id l), st.next⟩ sh' a W (fun q => Fr q ∧ q ≠ id) ∧ SVRep ⟨st.slots, upd st.vars (resLeafV id l), upd st.objs (resLeafO id l), st.next⟩ W sh' (resLeaf id l) v ∧
      Keeps st W sh ⟨st.slots, upd st.vars (resLeafV id l), upd st.objs (resLeafO id l), st.next⟩ W sh' (· = id) ∧ (∀ q ∈ (resLeaf id l).ids, q = id) := by
  have hlo := h.low id hF
  have hless : ∀ st' : St, st' = st → InvS cx st' sh a W (fun q => Fr q ∧ q ≠ id) := fun st' e => by rw [e]; exact h.less fun q hq => hq.1
  have hsame : Keeps st W sh ⟨st.slots, st.vars, st.objs, st.next⟩ W sh (· = id) := ⟨fun b _ => ⟨rfl, rfl⟩, fun _ _ hv => ⟨hv, rfl⟩, fun _ _ rows' _ hs => ⟨rfl, rows', hs, rfl, fun _ _ _ xs' _ _ hc => ⟨xs', hc, rfl, rfl⟩⟩⟩
  have hag : still = false → Agree W lab' W sh.lab (· = .imm) := fun e b hb' => ⟨by rw [hb.imm e b hb', hb'], rfl⟩
  cases l with
  | sc x => exact ⟨sh, rfl, hless _ rfl, hl, hsame, by simp [resLeaf, SV.ids]⟩
  | gone => exact ⟨sh, rfl, hless _ rfl, trivial, hsame, by simp [resLeaf, SV.ids]⟩
  | im w rows =>
    refine ⟨sh, rfl, hless _ rfl, ?_, hsame, by simp [resLeaf, SV.ids]⟩
    cases still with
    | false => exact imRep_agree (hag rfl) rfl hl
    | true =>
      have hr : rows = [] := by simpa [Leaf.still] using hs rfl
      subst hr
      obtain ⟨A, cap, q1, q2, q3, q4⟩ := hl
      exact ⟨A, cap, q1, q2, q3, fun hne => absurd rfl hne⟩
  | ip fs =>
    refine ⟨sh, rfl, hless _ rfl, ?_, hsame, by simp [resLeaf, SV.ids]⟩
    cases still with
    | false => exact ipRep_agree (hag rfl) rfl hl
    | true => have := hs rfl; simp [Leaf.still] at this
  | fn f caps =>
    refine ⟨sh, rfl, hless _ rfl, ?_, hsame, by simp [resLeaf, SV.ids]⟩
    obtain ⟨cs, e, hc⟩ := hl
    cases still with
    | false => exact ⟨cs, e, all2_mono (fun _ _ _ g => ipRep_agree (hag rfl) rfl g) hc⟩
    | true =>
      have hr : caps = [] := by simpa [Leaf.still] using hs rfl
      subst hr
      refine ⟨cs, e, ?_⟩
      rcases hcs : cs.toList with _ | ⟨y, ys⟩
      · trivial
      · rw [hcs] at hc; exact hc.elim
  | ow w rows =>
    obtain ⟨hrep, hrst⟩ := hl
    have hrep' : OwnRep W sh.lab id w rows v := by
      refine ownRep_map (lab := lab') ?_ (fun b hb' => ?_) (fun b i j hb' => ?_) hrep
      · cases still with
        | false => exact .inl (hb.imm rfl)
        | true => exact .inr (hs rfl)
      · rw [hb.new b k hk (.inl hb'), hb', hid]; rfl
      · rw [hb.new b k hk (.inr (.inl ⟨i, j, hb'⟩)), hb', hid]; rfl
    refine ⟨⟨sh.lab, fun q => if q = id then v else sh.μ q, sh.β⟩, rfl, h.addObj hpins hF hrep' (fun q hq => hq) (fun i j s xs hc => ?_), ?_, keeps_addObj st W sh id w rows v, by simp [resLeaf, SV.ids]⟩
    · rintro ⟨hf, _⟩
      have hlow := h.low s hf
      obtain ⟨r, hi, hj⟩ := cell_get hc (by simp)
      rw [← hrst] at hi
      simp only [rst, List.getElem?_map, Option.map_eq_some_iff] at hi
      obtain ⟨r0, _, rfl⟩ := hi
      simp only [List.getElem?_map, Option.map_eq_some_iff] at hj
      obtain ⟨c0, _, e⟩ := hj
      cases c0 with
      | sl s0 ys => cases s0 <;> simp only [Cell.rst, Cell.sl.injEq] at e <;> omega
      | _ => simp [Cell.rst] at e
    · intro w' rows' ho
      simp only [resLeafO, upd, if_true, Option.some.injEq, Prod.mk.injEq] at ho
      obtain ⟨rfl, rfl⟩ := ho
      refine ⟨rfl, by omega, ?_⟩
      simp only [if_true]
      obtain ⟨_, _, ⟨A, e, hn⟩ | ⟨b, cap, c, t, e, _⟩⟩ := hrep'
      · subst hn; exact .inr ⟨rfl, A, e⟩
      · left
        rw [e, viewOf_full]
        intro ad ha; cases ha; rfl
  | op fs =>
    obtain ⟨b, c, t, e, hlab, hblk, hsz, hf⟩ := hl
    have hlab' : sh.lab b = .var id := by
      rw [hb.new b k hk (.inr (.inr hlab)), hlab, hid]; rfl
    have hfs : All2 (SVRep st W sh) (fs.map Fld.sv) c.toList := by
      refine all2_of_get (by simp [hsz]) fun j s u hj hu => ?_
      simp only [List.getElem?_map, Option.map_eq_some_iff] at hj
      obtain ⟨f, hj, rfl⟩ := hj
      obtain ⟨u', u1, u2⟩ := hf j f hj
      have hu' : c[j]? = some u := by simpa using hu
      rw [hu'] at u1; cases u1
      cases f with
      | sc x => exact u2
      | im w rows =>
        cases still with
        | false => exact imRep_agree (hag rfl) rfl u2
        | true =>
          have := List.all_eq_true.mp (hs rfl) _ (List.mem_of_getElem? hj)
          have hr : rows = [] := by simpa [Fld.still] using this
          subst hr
          obtain ⟨A, cap, q1, q2, q3, q4⟩ := u2
          exact ⟨A, cap, q1, q2, q3, fun hne => absurd rfl hne⟩
    refine ⟨⟨sh.lab, sh.μ, fun q => if q = id then b else sh.β q⟩, rfl, h.addVar hpins hF hlab' hblk hfs (fun q _ s m hi => ?_) (fun q hq => hq), ?_, keeps_addVar st W sh id _ b, by simp [resLeaf, SV.ids]⟩
    · obtain ⟨f, _, rfl⟩ := List.mem_map.mp m
      exact fsv_ids f q hi
    · intro fs' hf'
      simpa using e

theorem InvS.addLeaves (hpins : ∀ q ∈ cx.pins, q.1 < 1000) {still : Bool} : ∀ {ls : List Leaf} {vs : List Value} {st : St} {sh : Sh} {Fr : Nat → Prop} {k id : Nat}, InvS cx st sh a W Fr → Back sh lab' nid still → 4096 ≤ k → id = nid + (k - 4096) → (∀ j, j < ls.length → Fr (id + j)) → LeavesRep W lab' k ls vs → (still = true → ls.all Leaf.still = true) →
    ∃ sh', sh'.lab = sh.lab ∧ InvS cx ⟨st.slots, upd st.vars (leavesEff resLeafV id ls), upd st.objs (leavesEff resLeafO id ls), st.next⟩ sh' a W (fun q => Fr q ∧ ¬ (id ≤ q ∧ q < id + ls.length)) ∧
      All2 (SVRep ⟨st.slots, upd st.vars (leavesEff resLeafV id ls), upd st.objs (leavesEff resLeafO id ls), st.next⟩ W sh') (resLeaves id ls) vs ∧
      Keeps st W sh ⟨st.slots, upd st.vars (leavesEff resLeafV id ls), upd st.objs (leavesEff resLeafO id ls), st.next⟩ W sh' (fun q => id ≤ q ∧ q < id + ls.length) ∧ (∀ s ∈ resLeaves id ls, ∀ q ∈ s.ids, id ≤ q ∧ q < id + ls.length)
  | [], [], st, sh, Fr, k, id, h, _, _, _, _, _, _ => ⟨sh, rfl, h.less fun q hq => hq.1, trivial, ⟨fun b _ => ⟨rfl, rfl⟩, fun _ _ hv => ⟨hv, rfl⟩, fun _ _ rows' _ hs => ⟨rfl, rows', hs, rfl, fun _ _ _ xs' _ _ hc => ⟨xs', hc, rfl, rfl⟩⟩⟩, by simp [resLeaves]⟩
  | l :: ls, v :: vs, st, sh, Fr, k, id, h, hb, hk, hid, hF, ⟨h1, h2⟩, hs => by
    obtain ⟨sh1, e1, i1, r1, k1, d1⟩ := InvS.addLeaves (k := k + 1) (id := id + 1) hpins h hb (by omega) (by omega) (fun j hj => by rw [show id + 1 + j = id + (j + 1) by omega]; exact hF (j + 1) (by simpa using hj)) h2 (fun e => by have := hs e; simp at this; simpa using this.2)
    have hF0 := hF 0 (by simp)
    obtain ⟨sh2, e2, i2, r2, k2, d2⟩ := i1.addLeaf (lab' := lab') (nid := nid) (still := still) hpins ⟨fun b m hm ho => by rw [e1]; exact hb.new b m hm ho, fun e b hb' => by rw [e1]; exact hb.imm e b hb'⟩ hk hid ⟨by simpa using hF0, by omega⟩ h1 (fun e => by have := hs e; simp at this; exact this.1)
    have ev : upd (upd st.vars (leavesEff resLeafV (id + 1) ls)) (resLeafV id l) = upd st.vars (leavesEff resLeafV id (l :: ls)) := (upd_append _ _ _).symm
    have eo : upd (upd st.objs (leavesEff resLeafO (id + 1) ls)) (resLeafO id l) = upd st.objs (leavesEff resLeafO id (l :: ls)) := (upd_append _ _ _).symm
    simp only [ev, eo] at i2 r2 k2
    refine ⟨sh2, e2.trans e1, i2.less fun q hq => ⟨⟨hq.1, fun h' => hq.2 ⟨by omega, by simp only [List.length_cons]; omega⟩⟩, fun h' => hq.2 ⟨by omega, by simp only [List.length_cons]; omega⟩⟩, ⟨r2, ?_⟩, keeps_trans k1 k2 (fun q hq => ⟨by omega, by simp only [List.length_cons]; omega⟩) (fun q hq => ⟨by omega, by simp only [List.length_cons]; omega⟩), ?_⟩
    · exact all2_mono (fun s u m g => svRep_keeps k2 (fun q hi e => by have := d1 s m q hi; omega) g) r1
    · intro s m q hi
      simp only [List.length_cons]
      rcases List.mem_cons.mp m with rfl | m
      · have := d2 q hi; omega
      · have := d1 s m q hi; omega
  | [], _ :: _, _, _, _, _, _, _, _, _, _, _, h, _ => h.elim
  | _ :: _, [], _, _, _, _, _, _, _, _, _, _, h, _ => h.elim

theorem InvS.addPk (hpins : ∀ q ∈ cx.pins, q.1 < 1000) {still : Bool} (h : InvS cx st sh a W Fr) (hb : Back sh lab' nid still) {k id : Nat} (hk : 4096 ≤ k) (hid : id = nid + (k - 4096)) {l : LV} {v : Value} (hF : ∀ j, j < 16 → Fr (id + j)) (hl16 : l.leaves.length ≤ 16) (hl : LVRep W lab' k l v) (hs : still = true → l.still = true) :
    ∃ sh', sh'.lab = sh.lab ∧ InvS cx ⟨st.slots, upd st.vars (leavesEff resLeafV id l.leaves), upd st.objs (leavesEff resLeafO id l.leaves), st.next⟩ sh' a W (fun q => Fr q ∧ ¬ (id ≤ q ∧ q < id + 16)) ∧
      PkRep ⟨st.slots, upd st.vars (leavesEff resLeafV id l.leaves), upd st.objs (leavesEff resLeafO id l.leaves), st.next⟩ W sh' (resPk id l) v ∧
      Keeps st W sh ⟨st.slots, upd st.vars (leavesEff resLeafV id l.leaves), upd st.objs (leavesEff resLeafO id l.leaves), st.next⟩ W sh' (fun q => id ≤ q ∧ q < id + 16) ∧ (∀ s ∈ (resPk id l).svs, ∀ q ∈ s.ids, id ≤ q ∧ q < id + 16) := by
  cases l with
  | one l =>
    obtain ⟨sh', e, i, r, kk, d⟩ := InvS.addLeaves (ls := [l]) (vs := [v]) (k := k) (id := id) hpins h hb hk hid (fun j hj => hF j (by simp at hj; omega)) ⟨hl, trivial⟩ hs
    refine ⟨sh', e, i.less fun q hq => ⟨hq.1, fun h' => hq.2 ⟨h'.1, by simp at h'; omega⟩⟩, r.1, keeps_trans kk (Keeps.same rfl rfl) (fun q hq => ⟨hq.1, by have := hq.2; simp at this; omega⟩) (fun _ h => h.elim), fun s m q hi => ?_⟩
    have := d s (by simpa [resPk, Pk.svs, resLeaves] using m) q hi
    simp at this; omega
  | agg ls =>
    obtain ⟨cs, rfl, hls⟩ := hl
    have hl16' : ls.length ≤ 16 := hl16
    obtain ⟨sh', e, i, r, kk, d⟩ := InvS.addLeaves (k := k) (id := id) hpins h hb hk hid (fun j hj => hF j (by omega)) hls hs
    refine ⟨sh', e, i.less fun q hq => ⟨hq.1, fun h' => hq.2 ⟨h'.1, by omega⟩⟩, ⟨cs, rfl, r⟩, keeps_trans kk (Keeps.same rfl rfl) (fun q hq => ⟨hq.1, by omega⟩) (fun _ h => h.elim), fun s m q hi => ?_⟩
    have := d s m q hi
    omega

theorem InvS.addPks (hpins : ∀ q ∈ cx.pins, q.1 < 1000) {still : Bool} : ∀ {ls : List LV} {vs : List Value} {st : St} {sh : Sh} {Fr : Nat → Prop} {k id : Nat}, InvS cx st sh a W Fr → Back sh lab' nid still → 4096 ≤ k → id = nid + (k - 4096) → (∀ j, j < 16 * ls.length → Fr (id + j)) → (∀ l ∈ ls, l.leaves.length ≤ 16) → LVsRep W lab' k ls vs → (still = true → ls.all LV.still = true) →
    ∃ sh', sh'.lab = sh.lab ∧ InvS cx ⟨st.slots, upd st.vars (resEff resLeafV id ls), upd st.objs (resEff resLeafO id ls), st.next⟩ sh' a W (fun q => Fr q ∧ ¬ (id ≤ q ∧ q < id + 16 * ls.length)) ∧
      All2 (PkRep ⟨st.slots, upd st.vars (resEff resLeafV id ls), upd st.objs (resEff resLeafO id ls), st.next⟩ W sh') (resPks id ls) vs ∧
      Keeps st W sh ⟨st.slots, upd st.vars (resEff resLeafV id ls), upd st.objs (resEff resLeafO id ls), st.next⟩ W sh' (fun q => id ≤ q ∧ q < id + 16 * ls.length) ∧ (∀ p ∈ resPks id ls, ∀ s ∈ p.svs, ∀ q ∈ s.ids, id ≤ q ∧ q < id + 16 * ls.length)
  | [], [], st, sh, Fr, k, id, h, _, _, _, _, _, _, _ => ⟨sh, rfl, h.less fun q hq => hq.1, trivial, ⟨fun b _ => ⟨rfl, rfl⟩, fun _ _ hv => ⟨hv, rfl⟩, fun _ _ rows' _ hs => ⟨rfl, rows', hs, rfl, fun _ _ _ xs' _ _ hc => ⟨xs', hc, rfl, rfl⟩⟩⟩, by simp [resPks]⟩
  | l :: ls, v :: vs, st, sh, Fr, k, id, h, hb, hk, hid, hF, h16, ⟨h1, h2⟩, hs => by
    obtain ⟨sh1, e1, i1, r1, k1, d1⟩ := InvS.addPks (k := k + 16) (id := id + 16) hpins h hb (by omega) (by omega) (fun j hj => by rw [show id + 16 + j = id + (j + 16) by omega]; exact hF (j + 16) (by simp only [List.length_cons]; omega)) (fun l m => h16 l (by simp [m])) h2 (fun e => by have := hs e; simp at this; simpa using this.2)
    obtain ⟨sh2, e2, i2, r2, k2, d2⟩ := i1.addPk (lab' := lab') (nid := nid) (still := still) hpins ⟨fun b m hm ho => by rw [e1]; exact hb.new b m hm ho, fun e b hb' => by rw [e1]; exact hb.imm e b hb'⟩ hk hid (fun j hj => ⟨hF j (by simp only [List.length_cons]; omega), by omega⟩) (h16 l (by simp)) h1 (fun e => by have := hs e; simp at this; exact this.1)
    have ev : upd (upd st.vars (resEff resLeafV (id + 16) ls)) (leavesEff resLeafV id l.leaves) = upd st.vars (resEff resLeafV id (l :: ls)) := (upd_append _ _ _).symm
    have eo : upd (upd st.objs (resEff resLeafO (id + 16) ls)) (leavesEff resLeafO id l.leaves) = upd st.objs (resEff resLeafO id (l :: ls)) := (upd_append _ _ _).symm
    simp only [ev, eo] at i2 r2 k2
    refine ⟨sh2, e2.trans e1, i2.less fun q hq => ⟨⟨hq.1, fun h' => hq.2 ⟨by omega, by simp only [List.length_cons]; omega⟩⟩, fun h' => hq.2 ⟨by omega, by simp only [List.length_cons]; omega⟩⟩, ⟨r2, ?_⟩, keeps_trans k1 k2 (fun q hq => ⟨by omega, by simp only [List.length_cons]; omega⟩) (fun q hq => ⟨by omega, by simp only [List.length_cons]; omega⟩), ?_⟩
    · exact all2_mono (fun p u m g => pkRep_keeps k2 (fun q hi e => by
        obtain ⟨s, m1, m2⟩ := List.mem_flatMap.mp hi
        have := d1 p m s m1 q m2; omega) g) r1
    · intro p m s ms q hi
      simp only [List.length_cons]
      rcases List.mem_cons.mp m with rfl | m
      · have := d2 s ms q hi; omega
      · have := d1 p m s ms q hi; omega
  | [], _ :: _, _, _, _, _, _, _, _, _, _, _, _, h, _ => h.elim
  | _ :: _, [], _, _, _, _, _, _, _, _, _, _, _, h, _ => h.elim
end res
end Go.Proofs.Ytkcbnbbbijlhcai.A
