/- CLOSURES THAT CALL THEMSELVES, third part: regions whose order is drawn and whose last operation waits for all others. Conditions: none. -/
import Derived.Test.YtedciihjgbkjgacGreatDoorA43
namespace Go.Proofs.YtedciihjgbkjgacGreatDoor.A
open Go
set_option linter.unusedSimpArgs false
set_option linter.unusedVariables false

section draw
variable {P : Program} {cx : Cx} {ops : Array Oper} {base : Nat} {st0 : St} {R : List Rec} {Q : Exit → Act → World → Prop} {tr : List Tr}
theorem draw_last (hpins : ∀ q ∈ cx.pins, q.1 < 1000) (hbound : ∀ o ∈ ops.toList, ∀ d', o.dst = some d' → d' < cx.n) (hst : stOk ops.toList = true) {m : Nat} (hsize : ops.size = m + 1)
    (hlen : R.length = m) (hrec : ∀ k o r, k < m → ops.toList[k]? = some o → R[k]? = some r → RecOk P ops.toList base (apps (fxOf ops.toList R) (upto k fun _ => true) st0) k o r)
    (hlast : ∀ k, k < m → ((masks ops.toList).getD m 0).testBit k = true)
    (htr : trOk ops.toList tr = true) (hmem : ∀ k r, R[k]? = some r → r.ran = true → (⟨k, r.foot, wrOf r.e⟩ : Tr) ∈ tr) {ol : Oper} (hol : ops[m]? = some ol) (hgl : ol.guard = none)
    (hQ : ∀ sh' a' W', InvS cx (apps (fxOf ops.toList R) (upto m fun _ => true) st0) sh' a' W' (fun id => base + 64 * m ≤ id) → ol.wp P a' W' (Q .normal) Q) :
    ∀ (fuel : Nat) (listed : Array Bool) (a : Act) (W : World) (sh : Sh), listed.size = ops.size → ((List.range ops.size).filter fun k => !listed.getD k false).length ≤ fuel →
      (∀ j o, listed.getD j false = true → ops.toList[j]? = some o → ∀ e ∈ o.after.toList, bindsE e = true → listed.getD e.on false = true) → listed.getD m false = false →
      InvS cx (apps (fxOf ops.toList R) (upto ops.size fun k => listed.getD k false) st0) sh a W (FrL base ops.size fun k => listed.getD k false) → wpAny P .any ops Q fuel listed a W := by
  have hbinds : ∀ e : Edge, Region.binds .any e = bindsE e := fun e => by unfold Region.binds bindsE; split <;> simp_all
  have hnone : ∀ (listed : Array Bool), listed.size = ops.size → Region.ready .any ops listed = [] → ∀ k < ops.size, listed.getD k false = true := by
    intro listed hsz hr k
    induction k using Nat.strongRecOn with
    | _ k ih =>
      intro hk
      rcases hl : listed.getD k false with _ | _
      · exfalso
        have ho : ops[k]? = some ops[k] := by simp [hk]
        have hmemr : k ∈ Region.ready .any ops listed := by
          rw [mem_ready]
          refine ⟨?_, ops[k], ho, fun e he hb => ?_⟩
          · rw [Array.getD_eq_getD_getElem?] at hl ⊢
            rw [Array.getElem?_eq_getElem (by omega)] at hl ⊢
            exact hl
          · rw [hbinds] at hb
            have hlt := (stOk_at hst (i := k) (o := ops[k]) (by rw [Array.getElem?_toList]; exact ho)).1 e (by simpa using he) hb
            exact ih e.on hlt (by omega)
        rw [hr] at hmemr
        cases hmemr
      · rfl
  have hall1 : ∀ (fuel : Nat) (listed : Array Bool) (a : Act) (W : World), listed.size = ops.size → (∀ k < ops.size, listed.getD k false = true) → Q .normal a W → wpAny P .any ops Q fuel listed a W := by
    intro fuel listed a W hsz hall hq
    have hr : Region.ready .any ops listed = [] := by
      rw [List.eq_nil_iff_forall_not_mem]
      intro j hj
      obtain ⟨h0, o, ho, _⟩ := mem_ready.1 hj
      have hj' : j < ops.size := (Array.getElem?_eq_some_iff.1 ho).1
      have := hall j hj'
      rw [Array.getD_eq_getD_getElem?, Array.getElem?_eq_getElem (by omega)] at h0 this
      simp at h0 this
      rw [h0] at this; cases this
    cases fuel with
    | zero => exact ⟨hr, hq⟩
    | succ fuel => exact ⟨fun _ => hq, fun i hi => by rw [hr] at hi; cases hi⟩
  intro fuel
  induction fuel with
  | zero =>
    intro listed a W sh hsz hfu hdown hm0 h
    exfalso
    have : m ∈ (List.range ops.size).filter fun k => !listed.getD k false := by
      rw [List.mem_filter]; exact ⟨by simp; omega, by rw [hm0]; rfl⟩
    have hz : ((List.range ops.size).filter fun k => !listed.getD k false).length = 0 := by omega
    rw [List.length_eq_zero_iff.mp hz] at this
    cases this
  | succ fuel ih =>
    intro listed a W sh hsz hfu hdown hm0 h
    refine ⟨fun hr => (by have := hnone listed hsz hr m (by omega); rw [hm0] at this; cases this), fun i hi => ?_⟩
    obtain ⟨h0, o, ho, hpre⟩ := mem_ready.1 hi
    have hin : i < ops.size := (Array.getElem?_eq_some_iff.1 ho).1
    have hot : ops.toList[i]? = some o := by rw [Array.getElem?_toList]; exact ho
    have hLi : listed.getD i false = false := by
      rw [Array.getD_eq_getD_getElem?, Array.getElem?_eq_getElem (by omega)] at h0 ⊢
      exact h0
    have hpreM : ∀ k, ((masks ops.toList).getD i 0).testBit k = true → listed.getD k false = true := by
      intro k hk
      have hlt := mask_lt hst i k hk
      have := mask_closed hst (L := fun k => decide (k = i) || listed.getD k false) (fun j o' hj hoj e he hb => by
        simp only [Bool.or_eq_true, decide_eq_true_eq] at hj ⊢
        rcases hj with rfl | hj
        · rw [hot] at hoj; cases hoj
          exact .inr (hpre e (by simpa using he) (by rw [hbinds]; exact hb))
        · exact .inr (hdown j o' hj hoj e he hb)) i k (by simp) hk
      simp only [Bool.or_eq_true, decide_eq_true_eq] at this
      exact this.resolve_left (by omega)
    by_cases him : i = m
    · subst him
      rw [hol] at ho; cases ho
      have hL : ∀ k, k < i → listed.getD k false = true := fun k hk => hpreM k (hlast k hk)
      have e : upto ops.size (fun k => listed.getD k false) = upto i fun _ => true := by
        rw [hsize, upto_succ, hm0]
        unfold upto
        simp only [Bool.false_eq_true, if_false]
        exact List.filter_congr fun k hk => hL k (by simpa using hk)
      rw [e] at h
      have hw : Region.wanted ol (yielded ops a.tmps) = true := by simp [Region.wanted, hgl]
      unfold wpOp
      simp only [hol]
      rw [if_pos hw]
      refine .inl (Oper.wp_mono (fun a' W' hx => ?_) (hQ sh a W (h.less fun id hid => ⟨by omega, fun k hk hLk hb => ?_⟩)))
      · refine hall1 fuel _ a' W' (by simp [hsz]) (fun k hk => ?_) hx
        rw [Array.getD_eq_getD_getElem?, Array.getElem?_setIfInBounds]
        by_cases e : i = k
        · subst e; simp [hsz, hin]
        · have := hL k (by omega)
          rw [Array.getD_eq_getD_getElem?] at this
          simp [e, this]
      · have hk' : k < i := by
          rcases Nat.lt_or_ge k i with g | g
          · exact g
          · have : k = i := by omega
            subst this
            have hLk : listed.getD k false = true := hLk
            rw [hm0] at hLk; cases hLk
        have : 64 * k + 64 ≤ 64 * i := by omega
        omega
    have hilt : i < m := by omega
    have hR : ∃ r, R[i]? = some r := ⟨R[i]'(by rw [hlen]; exact hilt), List.getElem?_eq_getElem _⟩
    obtain ⟨r, hr⟩ := hR
    have hrc := hrec i o r hilt hot hr
    have hnm : ∀ k, k < ops.size → ordM (masks ops.toList) i k = false → k < m := by
      intro k hk hno
      rcases Nat.lt_or_ge k m with g | g
      · exact g
      · have : k = m := by omega
        subst this
        simp only [ordM, hlast i hilt, Bool.true_or] at hno
        cases hno
    have hfx : fxOf ops.toList R i = (o.dst, r.e) := by simp [fxOf, nth_eq, hot, hr]
    have hfxk : ∀ k o', ops.toList[k]? = some o' → (fxOf ops.toList R k).1 = o'.dst := fun k o' hk => by simp [fxOf, nth_eq, hk]
    have hop : ∀ k, k < ops.size → ∃ o', ops.toList[k]? = some o' := fun k hk => ⟨ops[k], by rw [Array.getElem?_toList]; simp [hk]⟩
    -- the operations before and behind, listed and not
    have hpre' : ∀ k, ((masks ops.toList).getD i 0).testBit k = true → listed.getD k false = true := by
      intro k hk
      have hlt := mask_lt hst i k hk
      have := mask_closed hst (L := fun k => decide (k = i) || listed.getD k false) (fun j o' hj hoj e he hb => by
        simp only [Bool.or_eq_true, decide_eq_true_eq] at hj ⊢
        rcases hj with rfl | hj
        · rw [hot] at hoj; cases hoj
          exact .inr (hpre e (by simpa using he) (by rw [hbinds]; exact hb))
        · exact .inr (hdown j o' hj hoj e he hb)) i k (by simp) hk
      simp only [Bool.or_eq_true, decide_eq_true_eq] at this
      exact this.resolve_left (by omega)
    have hpost : ∀ k, ((masks ops.toList).getD k 0).testBit i = true → listed.getD k false = false := by
      intro k hk
      rcases hl : listed.getD k false with _ | _
      · rfl
      · have := mask_closed hst (L := fun k => listed.getD k false) hdown k i hl hk
        rw [hLi] at this; cases this
    have hsame : ∀ k, k < ops.size → k ≠ i → ordM (masks ops.toList) i k = true → listed.getD k false = decide (k < i) := by
      intro k hk hne ho'
      simp only [ordM, Bool.or_eq_true] at ho'
      rcases ho' with ho' | ho'
      · have := mask_lt hst k i ho'
        rw [hpost k ho']; symm; simp; omega
      · have := mask_lt hst i k ho'
        rw [hpre' k ho']; symm; simp; omega
    have hmeet : ∀ k, k < ops.size → k ≠ i → ordM (masks ops.toList) i k = false → (∀ o', ops.toList[k]? = some o' → apartS ops.toList o o' = true ∧ apartS ops.toList o' o = true) := by
      intro k hk hne hno o' hok
      exact ⟨(stOk_at hst hot).2 k o' hok (fun e => hne e.symm) hno, (stOk_at hst hok).2 i o hot hne (by rw [ordM_comm]; exact hno)⟩
    -- slots that the operation looks at are as they were in the text's order
    have upi : upto i (fun _ => true) = upto ops.size fun k => decide (k < i) := by
      unfold upto
      have e : List.range ops.size = List.range i ++ (List.range (ops.size - i)).map (i + ·) := by
        rw [← List.range_add]; congr 1; omega
      rw [e, List.filter_append]
      have e1 : (List.range i).filter (fun k => decide (k < i)) = (List.range i).filter fun _ => true := List.filter_congr fun k hk => by simpa using hk
      have e2 : ((List.range (ops.size - i)).map (i + ·)).filter (fun k => decide (k < i)) = [] := by
        rw [List.filter_eq_nil_iff]
        intro k hk
        obtain ⟨j, _, rfl⟩ := List.mem_map.mp hk
        simp
      rw [e1, e2, List.append_nil]
    rw [upi] at hrc
    have hslot : ∀ t, t ∈ looks ops.toList o → (apps (fxOf ops.toList R) (upto ops.size fun k => listed.getD k false) st0).slots t = (apps (fxOf ops.toList R) (upto ops.size fun k => decide (k < i)) st0).slots t := by
      intro t ht
      refine apps_slot _ _ _ _ _ _ fun k hk hd => ?_
      by_cases hki : k = i
      · subst hki; rw [hLi]; simp
      · rcases ho' : ordM (masks ops.toList) i k with _ | _
        · exfalso
          obtain ⟨o', hok⟩ := hop k hk
          rw [hfxk k o' hok] at hd
          have := (hmeet k hk hki ho' o' hok).2
          simp [apartS, hd, ht] at this
        · exact hsame k hk hki ho'
    have hval : ∀ x ∈ o.op.operands.toList, (apps (fxOf ops.toList R) (upto ops.size fun k => listed.getD k false) st0).ev x = (apps (fxOf ops.toList R) (upto ops.size fun k => decide (k < i)) st0).ev x := by
      intro x hx
      cases x with
      | tmp t => exact hslot t (by simp only [looks, List.mem_append, List.mem_filterMap]; exact .inl ⟨.tmp t, hx, rfl⟩)
      | _ => rfl
    have hyield : ∀ g want, o.guard = some (g, want) → yieldOf (apps (fxOf ops.toList R) (upto ops.size fun k => listed.getD k false) st0) (nth (ops.toList.map (·.dst)) g) = yieldOf (apps (fxOf ops.toList R) (upto ops.size fun k => decide (k < i)) st0) (nth (ops.toList.map (·.dst)) g) := by
      intro g want hg
      rw [nth_eq, List.getElem?_map]
      rcases hgo : ops.toList[g]? with _ | og
      · rfl
      · rcases hdg : og.dst with _ | t
        · simp [yieldOf, hdg]
        · simp only [Option.map_some, hdg, yieldOf]
          rw [hslot t (by simp only [looks, hg, nth_eq, hgo, Option.map_some, Option.getD_some, hdg, List.mem_append]; exact .inr (by simp))]
    have hskip : ∀ g want, o.guard = some (g, want) → skipOf (apps (fxOf ops.toList R) (upto ops.size fun k => listed.getD k false) st0) (nth (ops.toList.map (·.dst)) g) = skipOf (apps (fxOf ops.toList R) (upto ops.size fun k => decide (k < i)) st0) (nth (ops.toList.map (·.dst)) g) := by
      intro g want hg
      rw [nth_eq, List.getElem?_map]
      rcases hgo : ops.toList[g]? with _ | og
      · rfl
      · rcases hdg : og.dst with _ | t
        · simp [skipOf, hdg]
        · simp only [Option.map_some, hdg, skipOf]
          rw [hslot t (by simp only [looks, hg, nth_eq, hgo, Option.map_some, Option.getD_some, hdg, List.mem_append]; exact .inr (by simp))]
    -- afterwards
    have hset : ∀ k, (listed.setIfInBounds i true).getD k false = (decide (k = i) || listed.getD k false) := by
      intro k
      rw [Array.getD_eq_getD_getElem?, Array.getD_eq_getD_getElem?, Array.getElem?_setIfInBounds]
      by_cases e : i = k
      · subst e; simp [hsz, hin]
      · simp [e, show ¬ k = i from fun h => e h.symm]
    have hnext : apps (fxOf ops.toList R) (upto ops.size fun k => (listed.setIfInBounds i true).getD k false) st0 = (apps (fxOf ops.toList R) (upto ops.size fun k => listed.getD k false) st0).app o.dst r.e := by
      have := apps_move (fxOf ops.toList R) st0 (i := i) (L := fun k => listed.getD k false) (L' := fun k => (listed.setIfInBounds i true).getD k false) hset hLi ops.size ?_
      · rw [this, if_pos hin, hfx]
      · intro k hk hik hLk
        have hno : ordM (masks ops.toList) i k = false := by
          rcases ho' : ordM (masks ops.toList) i k with _ | _
          · rfl
          · have := hsame k hk (by omega) ho'
            rw [hLk] at this
            simp at this; omega
        obtain ⟨o', hok⟩ := hop k hk
        obtain ⟨a1, a2⟩ := hmeet k hk (by omega) hno o' hok
        rw [hfx, hfxk k o' hok]
        refine ⟨fun t ht hd => ?_, fun x hx hx' => ?_⟩
        · simp only at ht
          simp [apartS, ht, hd] at a1
        · have hkm := hnm k hk hno
          have hRk : ∃ r', R[k]? = some r' := ⟨R[k]'(by rw [hlen]; exact hkm), List.getElem?_eq_getElem _⟩
          obtain ⟨r', hr'⟩ := hRk
          have e' : (fxOf ops.toList R k).2 = r'.e := by simp [fxOf, nth_eq, hr']
          rw [e'] at hx'
          rcases hrn : r.ran with _ | _
          · rcases hrc with ⟨h1, _⟩ | ⟨_, h2, _⟩
            · rw [hrn] at h1; cases h1
            · simp only [h2] at hx; simp [wrOf] at hx
          · rcases hrn' : r'.ran with _ | _
            · rcases hrec k o' r' hkm hok hr' with ⟨h1, _⟩ | ⟨_, h2, _⟩
              · rw [hrn'] at h1; cases h1
              · rw [h2] at hx'; simp [wrOf] at hx'
            · exact (trOk_at htr (hmem i r hr hrn) (hmem k r' hr' hrn') (by show i ≠ k; omega) hno).2 x hx hx'
    have hcont : ∀ {a' : Act} {W' : World} {sh' : Sh}, InvS cx ((apps (fxOf ops.toList R) (upto ops.size fun k => listed.getD k false) st0).app o.dst r.e) sh' a' W' (FrL base ops.size fun k => (listed.setIfInBounds i true).getD k false) → wpAny P .any ops Q fuel (listed.setIfInBounds i true) a' W' := by
      intro a' W' sh' h'
      rw [← hnext] at h'
      refine ih (listed.setIfInBounds i true) a' W' sh' (by simp [hsz]) ?_ (fun j o' hj hoj e he hb => ?_) (by rw [hset, hm0]; simp; omega) h'
      · have : ((List.range ops.size).filter fun k => !(listed.setIfInBounds i true).getD k false).length < ((List.range ops.size).filter fun k => !listed.getD k false).length := by
          have hsub : (List.range ops.size).filter (fun k => !(listed.setIfInBounds i true).getD k false) = ((List.range ops.size).filter fun k => !listed.getD k false).filter fun k => !decide (k = i) := by
            rw [List.filter_filter]
            refine List.filter_congr fun k _ => ?_
            rw [hset]; cases decide (k = i) <;> simp
          rw [hsub]
          have hi' : i ∈ (List.range ops.size).filter fun k => !listed.getD k false := by
            rw [List.mem_filter]; exact ⟨by simpa using hin, by rw [hLi]; rfl⟩
          exact List.length_filter_lt_length_iff_exists.mpr ⟨i, hi', by simp⟩
        omega
      · rw [hset] at hj ⊢
        simp only [Bool.or_eq_true, decide_eq_true_eq] at hj ⊢
        rcases hj with rfl | hj
        · rw [hot] at hoj; cases hoj
          exact .inr (hpre e (by simpa using he) (by rw [hbinds]; exact hb))
        · exact .inr (hdown j o' hj hoj e he hb)
    have hFr : ∀ id, FrL base ops.size (fun k => (listed.setIfInBounds i true).getD k false) id → FrL base ops.size (fun k => listed.getD k false) id ∧ ¬ (base + 64 * i ≤ id ∧ id < base + 64 * i + 64) := by
      rintro id ⟨g1, g2⟩
      refine ⟨⟨g1, fun k hk hLk => g2 k hk ?_⟩, g2 i hin ?_⟩
      · show (listed.setIfInBounds i true).getD k false = true
        have hLk : listed.getD k false = true := hLk
        rw [hset, hLk]; simp
      · show (listed.setIfInBounds i true).getD i false = true
        rw [hset]; simp
    unfold wpOp
    simp only [ho]
    have hdst := hbound o (by rw [← Array.getElem?_toList] at ho; exact List.mem_of_getElem? ho)
    rcases hrc with ⟨hran, hfoot, hguard, heff⟩ | ⟨hran, he, g, want, hg, hoff⟩
    · have hag : AgO o (apps (fxOf ops.toList R) (upto ops.size fun k => decide (k < i)) st0) (apps (fxOf ops.toList R) (upto ops.size fun k => listed.getD k false) st0) := by
        refine ⟨hval, fun id hid => ?_⟩
        have hid' : id ∈ r.foot := by rw [hfoot]; exact hid
        have hcl : ∀ k < ops.size, id ∈ wrOf (fxOf ops.toList R k).2 → listed.getD k false = decide (k < i) := by
          intro k hk hw
          by_cases hki : k = i
          · subst hki; rw [hLi]; simp
          · rcases ho' : ordM (masks ops.toList) i k with _ | _
            · exfalso
              have hkm := hnm k hk ho'
              have hRk : ∃ r', R[k]? = some r' := ⟨R[k]'(by rw [hlen]; exact hkm), List.getElem?_eq_getElem _⟩
              obtain ⟨r', hr'⟩ := hRk
              have e' : (fxOf ops.toList R k).2 = r'.e := by simp [fxOf, nth_eq, hr']
              rw [e'] at hw
              obtain ⟨o', hok⟩ := hop k hk
              rcases hrn' : r'.ran with _ | _
              · rcases hrec k o' r' hkm hok hr' with ⟨h1, _⟩ | ⟨_, h2, _⟩
                · rw [hrn'] at h1; cases h1
                · rw [h2] at hw; simp [wrOf] at hw
              · exact (trOk_at htr (hmem k r' hr' hrn') (hmem i r hr hran) hki (by rw [ordM_comm]; exact ho')).1 id hw hid'
            · exact hsame k hk hki ho'
        exact ⟨apps_obj _ _ _ _ _ _ hcl, apps_var _ _ _ _ _ _ hcl⟩
      have hE := heff _ (fun e => e = r.e) hag rfl
      have hgood := eff_sound (Q := Q) h hdst (fun k hk => ⟨by omega, fun k' hk' hLk' hb => by
        have : k' = i := by omega
        subst this
        have hLk' : listed.getD k' false = true := hLk'
        rw [hLi] at hLk'; cases hLk'⟩) hpins hE
      have hw : Region.wanted o (yielded ops a.tmps) = true := by
        rcases hguard with hg | ⟨g, want, hg, hy⟩
        · simp [Region.wanted, hg]
        · have hyy := h.yielded (ops := ops) (g := g) (b := want) (by rw [hyield g want hg]; exact hy)
          simp [Region.wanted, hg, hyy]
      rw [if_pos hw]
      refine .inl (Oper.wp_mono (fun a' W' hx => ?_) hgood)
      obtain ⟨e, sh', rfl, hi'⟩ := hx
      exact hcont (hi'.less hFr)
    · have hw : Region.wanted o (yielded ops a.tmps) = false := by
        rcases hoff with ⟨b, hy, hne⟩ | hy
        · have hyy := h.yielded (ops := ops) (g := g) (b := b) (by rw [hyield g want hg]; exact hy)
          simp [Region.wanted, hg, hyy, hne]
        · have hyy := h.skipped (ops := ops) (g := g) (by rw [hskip g want hg]; exact hy)
          simp [Region.wanted, hg, hyy]
      rw [hw]
      simp only [Bool.false_eq_true, if_false]
      have h' := InvS.put h hdst (av := .tup []) (v := undef) ⟨#[], rfl, trivial⟩ (fun id _ hm => by simp [AV.ids, AV.svs, Pk.svs, SV.ids] at hm)
      refine hcont (sh' := sh) ?_
      rw [he]
      exact h'.less fun id hid => (hFr id hid).1
end draw

def afterAll (ops : List Oper) (m : Nat) : Bool := (List.range m).all fun k => ((masks ops).getD m 0).testBit k
theorem apps_congr {f g : Fx} : ∀ {l : List Nat} {st : St}, (∀ k ∈ l, f k = g k) → apps f l st = apps g l st
  | [], _, _ => rfl
  | k :: l, st, h => by
    unfold apps
    rw [List.foldl_cons, List.foldl_cons, h k (by simp)]
    exact apps_congr fun j hj => h j (by simp [hj])
/-- A REGION IN A DRAWN ORDER WHOSE LAST OPERATION CALLS A CLOSURE. -/
theorem bwp_callD {P : Program} (hm : P.follows .mixedOrders = true) {n : Nat} {R : Exit → St → Prop} {st : St} {id : Nat} {ops : Array Oper} {pre : List Oper} {o : Oper} {f : Operand} {xs : Array Operand} {tys : Array TypeId} {g : FuncId} {args : List LV} {T T' : List CV} (hR : RSat P g args T T')
    (ids : List Nat) (oid oid2 next2 : Nat) (slots2 : List (Nat × AV)) (hsp : lastSplit ops.toList = some (pre, o)) (ho : o.op = .call ⟨.value f, xs, tys⟩) (hg : o.guard = none) (hok : (ops.toList.all (okOp n) && (stOk ops.toList && afterAll ops.toList pre.length)) = true) (hside : sideC ids oid2 next2 o.dst slots2 args T T' = true)
    (h : runD P (ops.toList.map (·.dst)) st.next 0 pre st [] fun st1 tr => trOk ops.toList tr = true ∧ askC st1 f xs g args T ids oid slots2)
    (hpost : R .normal (mkSt slots2 (varsT ids oid2 T' ids) (objsT oid2 T') next2)) : Bwp P n (.region id ops true) R st := by
  have hops := lastSplit_eq hsp
  intro cx a W Q hn hp hi hQ
  obtain ⟨sh, hi⟩ := hi
  subst hn
  simp only [Bool.and_eq_true] at hok
  obtain ⟨hok, hst, haft⟩ := hok
  have hp1000 : ∀ q ∈ cx.pins, q.1 < 1000 := fun q hq => by have := hp q hq; omega
  refine wp_region_any hm ?_
  have hsize : ops.size = pre.length + 1 := by rw [← Array.length_toList, hops]; simp
  obtain ⟨Rs, hlen, ⟨htr, hask⟩, hrec⟩ := runD_recs pre 0 st [] h
  have hget : ops[pre.length]? = some o := by
    rw [← Array.getElem?_toList, hops]; simp
  have hmem : o ∈ ops.toList := by rw [hops]; simp
  have hfx : ∀ k, k < pre.length → fxOf pre Rs k = fxOf ops.toList Rs k := fun k hk => by
    unfold fxOf
    rw [nth_eq, nth_eq, nth_eq, hops, List.getElem?_append_left hk]
  have hap : ∀ k, k ≤ pre.length → ((Rs.zip pre).take k).foldl (fun s p => s.app p.2.dst p.1.e) st = apps (fxOf ops.toList Rs) (upto k fun _ => true) st := fun k hk => by
    rw [zip_apps Rs pre k hlen hk]
    refine apps_congr fun j hj => hfx j ?_
    unfold upto at hj
    have := (List.mem_filter.mp hj).1
    simp at this
    omega
  have htake : (Rs.zip pre).take pre.length = Rs.zip pre := List.take_of_length_le (by simp; omega)
  have hfull := hap pre.length (Nat.le_refl _)
  rw [htake] at hfull
  rw [hfull] at hask
  have h1 := hi.sameHeap hp1000 (W' := { W with drawn := W.drawn + 1 }) rfl rfl rfl rfl
  have hL0 : ∀ k, (Array.replicate ops.size false).getD k false = false := fun k => by
    rw [Array.getD_eq_getD_getElem?, Array.getElem?_replicate]
    split <;> rfl
  have e0 : apps (fxOf ops.toList Rs) (upto ops.size fun k => (Array.replicate ops.size false).getD k false) st = st := by
    have : upto ops.size (fun k => (Array.replicate ops.size false).getD k false) = [] := by
      unfold upto
      rw [List.filter_eq_nil_iff]
      intro k hk
      rw [hL0 k]; simp
    rw [this]; rfl
  refine draw_last (base := st.next) (st0 := st) (R := Rs) (tr := (trsOf 0 Rs).reverse ++ []) (m := pre.length) (ol := o) hp1000 (okOps hok) hst hsize hlen (fun k o' r hk ho' hr => ?_) (fun k hk => ?_) htr (fun k r hk hr => ?_) hget hg (fun sh' a' W' h' => ?_) ops.size _ a _ sh (by simp) ?_ ?_ (hL0 _) ?_
  · have hpk : pre[k]? = some o' := by
      rw [hops, List.getElem?_append_left hk] at ho'; exact ho'
    have := hrec k o' r hpk hr
    rw [hap k (by omega), Nat.zero_add] at this
    exact this
  · have := List.all_eq_true.mp haft k (by simpa using hk)
    exact this
  · have := trsOf_mem Rs 0 k r hk hr
    rw [Nat.zero_add] at this
    simpa using this
  · exact call_last (R := R) hR ho (okOps hok o hmem) hp hside hask h' fun a' W' hx => hQ _ _ _ _ hpost hx
  · exact Nat.le_trans (List.length_filter_le _ _) (by simp)
  · intro j o' hj
    rw [hL0 j] at hj; cases hj
  · rw [e0]
    exact h1.less fun id hid => hid.1
end Go.Proofs.YtedciihjgbkjgacGreatDoor.A
