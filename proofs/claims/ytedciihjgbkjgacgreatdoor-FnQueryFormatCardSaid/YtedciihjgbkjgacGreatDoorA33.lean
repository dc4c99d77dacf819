/- THE ABSTRACT SEMANTICS IS SOUND, twenty-third part: calls. Conditions: none. -/
import Derived.Test.YtedciihjgbkjgacGreatDoorA26
import Derived.Orders
import Derived.LoopN
namespace Go.Proofs.YtedciihjgbkjgacGreatDoor.A
open Go
set_option linter.unusedSimpArgs false
set_option linter.unusedVariables false

section call
variable {P : Program} {cx : Cx} {st : St} {sh : Sh} {a : Act} {W : World} {Fr : Nat → Prop} {nid : Nat} {o : Oper} {K : Eff → Prop} {Q : Exit → Act → World → Prop}

theorem lvok_all {l : List LV} {n : Nat} (h : LVok l n = true) : l.length ≤ n ∧ ∀ v ∈ l, v.leaves.length ≤ 16 := by
  simp only [LVok, Bool.and_eq_true, decide_eq_true_eq, List.all_eq_true] at h
  exact h
theorem lvokR_all {l : List LV} (h : LVokR l = true) : l.length ≤ 4 ∧ ∀ v ∈ l, v.leaves.length ≤ 15 := by
  simp only [LVokR, Bool.and_eq_true, decide_eq_true_eq, List.all_eq_true] at h
  exact h
theorem callOk_all {handed lent : List Nat} {res upd : List LV} (h : callOk handed lent res upd = true) : (∀ i ∈ lent, i ∉ handed) ∧ ((!lent.isEmpty) = true → res.all LV.still = true ∧ upd.all LV.still = true) := by
  simp only [callOk, Bool.and_eq_true, List.all_eq_true, Bool.or_eq_true] at h
  obtain ⟨h1, h2⟩ := h
  refine ⟨fun i hi hm => ?_, fun hl => ?_⟩
  · have := h1 i hi
    simp [hm] at this
  · rcases h2 with h2 | h2
    · rw [h2] at hl; cases hl
    · exact ⟨List.all_eq_true.mpr h2.1, List.all_eq_true.mpr h2.2⟩
theorem all_still : ∀ {k : Nat} {ps : List Pk} {ls us : List LV} {vs : List Value}, us.all LV.still = true → ∀ r ∈ rowsAll k ps ls us vs, r.u.still = true
  | k, p :: ps, l :: ls, u :: us, v :: vs, h, r, hr => by
    simp only [List.all_cons, Bool.and_eq_true] at h
    simp only [rowsAll, List.mem_append] at hr
    rcases hr with hr | hr
    · have key : ∀ {k : Nat} {ss : List SV} {ls us : List Leaf} {vs : List Value}, us.all Leaf.still = true → ∀ r ∈ rowsLs k ss ls us vs, r.u.still = true := by
        intro k ss
        induction ss generalizing k with
        | nil => intro ls us vs _ r hr; simp [rowsLs] at hr
        | cons s ss ih =>
          intro ls us vs hu r hr
          cases ls with
          | nil => simp [rowsLs] at hr
          | cons l ls => cases us with
            | nil => simp [rowsLs] at hr
            | cons u us => cases vs with
              | nil => simp [rowsLs] at hr
              | cons v vs =>
                simp only [List.all_cons, Bool.and_eq_true] at hu
                simp only [rowsLs, List.mem_cons] at hr
                rcases hr with rfl | hr
                · exact hu.1
                · exact ih hu.2 r hr
      unfold rowsPk at hr
      split at hr
      · simp only [List.mem_singleton] at hr
        subst hr
        have := h.1
        simpa [LV.still, LV.leaves] using this
      · exact key h.1 r hr
      · cases hr
    · exact all_still h.2 r hr
  | _, [], _, _, _, _, r, hr => by simp [rowsAll] at hr
  | _, _ :: _, [], _, _, _, r, hr => by simp [rowsAll] at hr
  | _, _ :: _, _ :: _, [], _, _, r, hr => by simp [rowsAll] at hr
  | _, _ :: _, _ :: _, _ :: _, [], _, r, hr => by simp [rowsAll] at hr
theorem rows_mem : ∀ {k : Nat} {ps : List Pk} {ls us : List LV} {vs : List Value}, ∀ r ∈ rowsAll k ps ls us vs, ∃ p ∈ ps, r.s ∈ p.svs
  | k, p :: ps, l :: ls, u :: us, v :: vs, r, hr => by
    simp only [rowsAll, List.mem_append] at hr
    rcases hr with hr | hr
    · have key : ∀ {k : Nat} {ss : List SV} {ls us : List Leaf} {vs : List Value}, ∀ r ∈ rowsLs k ss ls us vs, r.s ∈ ss := by
        intro k ss
        induction ss generalizing k with
        | nil => intro ls us vs r hr; simp [rowsLs] at hr
        | cons s ss ih =>
          intro ls us vs r hr
          cases ls with
          | nil => simp [rowsLs] at hr
          | cons l ls => cases us with
            | nil => simp [rowsLs] at hr
            | cons u us => cases vs with
              | nil => simp [rowsLs] at hr
              | cons v vs =>
                simp only [rowsLs, List.mem_cons] at hr
                rcases hr with rfl | hr
                · simp
                · simp [ih r hr]
      refine ⟨p, by simp, ?_⟩
      unfold rowsPk at hr
      split at hr
      · simp only [List.mem_singleton] at hr
        subst hr
        simp [Pk.svs]
      · exact key r hr
      · cases hr
    · obtain ⟨p', m, h⟩ := rows_mem r hr
      exact ⟨p', by simp [m], h⟩
  | _, [], _, _, _, r, hr => by simp [rowsAll] at hr
  | _, _ :: _, [], _, _, r, hr => by simp [rowsAll] at hr
  | _, _ :: _, _ :: _, [], _, r, hr => by simp [rowsAll] at hr
  | _, _ :: _, _ :: _, _ :: _, [], r, hr => by simp [rowsAll] at hr
theorem ids'_ids {s : SV} {q : Nat} (h : q ∈ s.ids') : q ∈ s.ids := by
  cases s <;> simp [SV.ids', SV.ids] at h ⊢ <;> simp [h]

theorem good_callK (h : InvS cx st sh a W Fr) (hd : ∀ d', o.dst = some d' → d' < cx.n) (hnid : ∀ k, k < 64 → Fr (nid + k)) (hpins : ∀ q ∈ cx.pins, q.1 < 1000) {g : FuncId} {pks : List Pk} {vs : List Value} (hpk : All2 (PkRep st W sh) pks vs) (hids : ∀ p ∈ pks, ∀ s ∈ p.svs, ∀ q ∈ s.ids, ¬ Fr q)
    (hrun : (execOp a.eval o).run P W = (callFunc g vs.toArray).run P W) (hK : callK P st nid g pks K) : Good P cx st Fr nid o a W K Q := by
  obtain ⟨args, res, upd', hsat, hpass, hok, hnd, hfit, hK⟩ := hK
  obtain ⟨hargs, hres, hsat⟩ := hsat
  obtain ⟨ha1, ha2⟩ := lvok_all hargs
  obtain ⟨hr1, hr2⟩ := lvokR_all hres
  obtain ⟨hh1, hh2, hh3⟩ := rowsAll_hand (k := 0) hpk hpass hfit
  obtain ⟨hk1, hk2⟩ := rowsAll_keys (k := 0) (ps := pks) (us := upd') (vs := vs) ha2
  have hR : Leafs st W sh (rowsAll 0 pks args upd' vs) := by
    refine ⟨⟨rowsAll_rep hpk hpass hfit, hk2, by rw [hh1]; exact hnd⟩, fun r hr => ?_⟩
    have := hk1 r hr
    omega
  obtain ⟨ho1, ho2⟩ := callOk_all hok
  have hl : ∀ r ∈ rowsAll 0 pks args upd' vs, ∀ id ∈ lends st r.s r.l, (!(List.zipWith (lendsPk st) pks args).flatten.isEmpty) = true ∧ id ∉ (rowsAll 0 pks args upd' vs).flatMap fun r => handLeaf r.s r.l := by
    intro r hr id hid
    have hm : id ∈ (List.zipWith (lendsPk st) pks args).flatten := by
      rw [← hh2]; exact List.mem_flatMap.mpr ⟨r, hr, hid⟩
    refine ⟨?_, by rw [hh1]; exact ho1 id hm⟩
    rcases hz : (List.zipWith (lendsPk st) pks args).flatten with _ | ⟨y, ys⟩
    · rw [hz] at hm; cases hm
    · rfl
  have hleaf := rowsAll_leaves hpk hpass hfit (h.leaf hR.toLeaf0 hl)
  have hcall := hsat W (lcOf st W sh (rowsAll 0 pks args upd' vs) (!(List.zipWith (lendsPk st) pks args).flatten.isEmpty)) vs (fun b hb => by simp only [lcOf]; rw [h.ext.dead b hb]; exact tr_dead) hleaf
  have hF63 := hnid 63 (by omega)
  have key : ∀ v W', (∃ lab', ResRep W' lab' res v ∧ LVsRep W' lab' 0 upd' vs ∧ Ext W (lcOf st W sh (rowsAll 0 pks args upd' vs) (!(List.zipWith (lendsPk st) pks args).flatten.isEmpty)) W' lab') →
      ∃ e sh', K e ∧ InvS cx (st.app o.dst e) sh' (a.put o.dst v) W' (fun id => Fr id ∧ ¬ (nid ≤ id ∧ id < nid + 64)) := by
    rintro v W' ⟨lab', hresr, hupd, hext⟩
    have hback := rowsAll_back (k := 0) hupd hpass hfit
    have hstill : (!(List.zipWith (lendsPk st) pks args).flatten.isEmpty) = false ∨ ∀ r ∈ rowsAll 0 pks args upd' vs, r.u.still = true := by
      by_cases e : (!(List.zipWith (lendsPk st) pks args).flatten.isEmpty) = true
      · exact .inr (all_still (ho2 e).2)
      · exact .inl (by simpa using e)
    have h1 := h.after hpins hR (n := nid + 63) hF63 (fun r hr q hq => by
      obtain ⟨p, m1, m2⟩ := rows_mem r hr
      exact hids p m1 _ m2 q (ids'_ids hq)) hext hback hstill nid (Fr' := fun q => Fr q ∧ q ≠ nid + 63) (fun q hq => hq)
    rw [hh3 updLeafV, hh3 (updLeafO (nid + 63) st)] at h1
    have hb : Back ⟨labOf st W sh (rowsAll 0 pks args upd' vs) (!(List.zipWith (lendsPk st) pks args).flatten.isEmpty) nid lab', sh.μ, sh.β⟩ lab' nid (!(List.zipWith (lendsPk st) pks args).flatten.isEmpty) :=
      ⟨fun b m hm ho => hR.lab_new h hext (by omega) ho, fun e b hb => hR.lab_imm hext e b hb⟩
    have fin : ∀ {sh' : Sh} {av : AV}, AVRep ⟨st.slots, upd (upd st.vars (zip3 (updPk updLeafV) pks args upd')) (resEff resLeafV nid res), upd (upd st.objs (zip3 (updPk (updLeafO (nid + 63) st)) pks args upd')) (resEff resLeafO nid res), st.next⟩ W' sh' av v → (∀ q ∈ av.ids, nid ≤ q ∧ q < nid + 64) → av = resAV nid res →
        InvS cx ⟨st.slots, upd (upd st.vars (zip3 (updPk updLeafV) pks args upd')) (resEff resLeafV nid res), upd (upd st.objs (zip3 (updPk (updLeafO (nid + 63) st)) pks args upd')) (resEff resLeafO nid res), st.next⟩ sh' a W' (fun id => Fr id ∧ ¬ (nid ≤ id ∧ id < nid + 64)) →
        ∃ e sh', K e ∧ InvS cx (st.app o.dst e) sh' (a.put o.dst v) W' (fun id => Fr id ∧ ¬ (nid ≤ id ∧ id < nid + 64)) := by
      rintro sh' av hav hid rfl hinv
      refine ⟨_, sh', hK, ?_⟩
      have := InvS.put hinv hd hav (fun q hq hm => hq.2 (hid q hm))
      simp only [← upd_append] at this
      exact this
    by_cases hone : ∃ r, res = [r]
    · obtain ⟨r, rfl⟩ := hone
      have hlv : LVRep W' lab' 4096 r v := hresr
      obtain ⟨sh', e, i, p, kk, d⟩ := InvS.addPk (lab' := lab') (k := 4096) (id := nid) hpins h1 hb (by omega) (by omega) (fun j hj => by have := hr2 r (by simp); exact ⟨hnid j (by omega), by omega⟩) (by have := hr2 r (by simp); omega) hlv (fun e => by have := (ho2 e).1; simpa using this)
      have e1 : leavesEff resLeafV nid r.leaves = resEff resLeafV nid [r] := by simp [resEff]
      have e2 : leavesEff resLeafO nid r.leaves = resEff resLeafO nid [r] := by simp [resEff]
      rw [e1, e2] at i p
      refine fin (av := .pk (resPk nid r)) p (fun q hq => ?_) rfl (i.less fun q hq => ⟨⟨hq.1, by omega⟩, by omega⟩)
      obtain ⟨s, m1, m2⟩ := List.mem_flatMap.mp hq
      have := d s m1 q m2
      omega
    · have hrr : ∃ vs' : Array Value, v = .tuple vs' ∧ LVsRep W' lab' 4096 res vs'.toList := by
        unfold ResRep at hresr
        split at hresr
        · exact absurd ⟨_, rfl⟩ hone
        · exact hresr
      obtain ⟨vs', rfl, hlv⟩ := hrr
      obtain ⟨sh', e, i, p, kk, d⟩ := InvS.addPks (lab' := lab') (k := 4096) (id := nid) hpins h1 hb (by omega) (by omega) (fun m l j hm hj => by
        have h4 := hr2 l (List.mem_of_getElem? hm)
        have h5 := (List.getElem?_eq_some_iff.mp hm).1
        rw [Nat.add_assoc]
        exact ⟨hnid (16 * m + j) (by omega), by omega⟩) (fun l hl => Nat.le_trans (hr2 l hl) (by omega)) hlv (fun e => (ho2 e).1)
      refine fin (av := .tup (resPks nid res)) ⟨vs', rfl, p⟩ (fun q hq => ?_) ?_ (i.less fun q hq => ⟨⟨hq.1, by omega⟩, by omega⟩)
      · simp only [AV.ids, AV.svs, List.mem_flatMap] at hq
        obtain ⟨s, ⟨p', m1, m2⟩, m3⟩ := hq
        have := d p' m1 s m2 q m3
        omega
      · unfold resAV
        split
        · exact absurd ⟨_, rfl⟩ hone
        · rfl
  unfold Good Oper.wp
  rw [hrun]
  unfold CallF at hcall
  rcases hc : (callFunc g vs.toArray).run P W with ⟨nx, W1⟩ | _ | _
  · rw [hc] at hcall
    cases nx with
    | value v => exact key v W1 hcall
    | enter g' as =>
      rw [Oper.upon_enter]
      refine Calls.mono hcall ?_
      rintro e W2 ⟨v, rfl, hv⟩
      exact key v W2 hv
    | _ => exact hcall.elim
  all_goals (rw [hc] at hcall; exact hcall.elim)
end call
end Go.Proofs.YtedciihjgbkjgacGreatDoor.A

/-! THE ABSTRACT SEMANTICS IS SOUND, twenty-fourth part: every operation. Conditions: none. -/
namespace Go.Proofs.YtedciihjgbkjgacGreatDoor.A
open Go
set_option linter.unusedSimpArgs false
set_option linter.unusedVariables false

section eff
variable {P : Program} {cx : Cx} {st : St} {sh : Sh} {a : Act} {W : World} {Fr : Nat → Prop} {nid : Nat} {o : Oper} {K : Eff → Prop} {Q : Exit → Act → World → Prop}

theorem pks_rep (h : InvS cx st sh a W Fr) : ∀ (xs : List Operand) {K : List Pk → Prop}, pksK st xs K → ∃ ps, K ps ∧ All2 (PkRep st W sh) ps (xs.map a.eval) ∧ ∀ p ∈ ps, ∀ s ∈ p.svs, ∀ q ∈ s.ids, ¬ Fr q
  | [], K, hK => ⟨[], hK, trivial, by simp⟩
  | x :: r, K, hK => by
    unfold pksK at hK
    split at hK
    · rename_i p hx
      obtain ⟨ps, h1, h2, h3⟩ := pks_rep h r hK
      have ex := h.ev x
      rw [hx] at ex
      refine ⟨p :: ps, h1, ⟨ex, h2⟩, fun p' hp' s hs q hq hf => ?_⟩
      rcases List.mem_cons.mp hp' with rfl | hp'
      · have := h.ev_ids x hf
        rw [hx] at this
        exact this (by simp only [AV.ids, AV.svs, List.mem_flatMap]; exact ⟨s, hs, hq⟩)
      · exact h3 p' hp' s hs q hq hf
    · exact hK.elim
theorem good_call_fnv (h : InvS cx st sh a W Fr) (hd : ∀ d', o.dst = some d' → d' < cx.n) (hnid : ∀ k, k < 64 → Fr (nid + k)) (hpins : ∀ q ∈ cx.pins, q.1 < 1000) {f : Operand} {xs : Array Operand} {tys : Array TypeId} (ho : o.op = .call ⟨.value f, xs, tys⟩) {g : FuncId} {ids : List Nat} (hf : st.ev f = .one (.fnv g ids))
    (hK : pksK st xs.toList fun ps => callK P st nid g (ps ++ ids.map fun id => .one (.vad id 0)) K) : Good P cx st Fr nid o a W K Q := by
  have ef := h.ev f
  have hfi := fun id (hid : Fr id) => h.ev_ids f hid
  rw [hf] at ef hfi
  obtain ⟨cs, e, hcs⟩ := ef
  obtain ⟨ps, h1, h2, h3⟩ := pks_rep h _ hK
  refine good_callK h hd hnid hpins (vs := xs.toList.map a.eval ++ cs.toList) (all2_append h2 ?_) (fun p hp s hs q hq hfr => ?_) ?_ h1
  · refine all2_of_get (by rw [List.length_map]; exact all2_length hcs) fun k p v hk hv => ?_
    simp only [List.getElem?_map, Option.map_eq_some_iff] at hk
    obtain ⟨id, hid, rfl⟩ := hk
    obtain ⟨v', g1, g2⟩ := all2_get hcs hid
    rw [hv] at g1; cases g1
    exact fun fs hfs => g2 fs hfs
  · rcases List.mem_append.mp hp with hp | hp
    · exact h3 p hp s hs q hq hfr
    · obtain ⟨id, hid, rfl⟩ := List.mem_map.mp hp
      simp only [Pk.svs, List.mem_singleton] at hs
      subst hs
      simp only [SV.ids, List.mem_singleton] at hq
      subst hq
      exact hfi q hfr (by simpa [AV.ids, AV.svs, Pk.svs, SV.ids] using hid)
  · simp only [execOp, ho, resolve, Deferred.ofValue, e, Sem.run_bind, Sem.run_pure, Result.andThen, invoke]
    congr 2
    simp
theorem good_call_fni (h : InvS cx st sh a W Fr) (hd : ∀ d', o.dst = some d' → d' < cx.n) (hnid : ∀ k, k < 64 → Fr (nid + k)) (hpins : ∀ q ∈ cx.pins, q.1 < 1000) {f : Operand} {xs : Array Operand} {tys : Array TypeId} (ho : o.op = .call ⟨.value f, xs, tys⟩) {g : FuncId} {caps : List (List Fld)} (hf : st.ev f = .one (.fni g caps))
    (hK : pksK st xs.toList fun ps => callK P st nid g (ps ++ caps.map fun fs => .one (.ipt fs 0)) K) : Good P cx st Fr nid o a W K Q := by
  have ef := h.ev f
  rw [hf] at ef
  obtain ⟨cs, e, hcs⟩ := ef
  obtain ⟨ps, h1, h2, h3⟩ := pks_rep h _ hK
  refine good_callK h hd hnid hpins (vs := xs.toList.map a.eval ++ cs.toList) (all2_append h2 ?_) (fun p hp s hs q hq hfr => ?_) ?_ h1
  · refine all2_of_get (by rw [List.length_map]; exact all2_length hcs) fun k p v hk hv => ?_
    simp only [List.getElem?_map, Option.map_eq_some_iff] at hk
    obtain ⟨id, hid, rfl⟩ := hk
    obtain ⟨v', g1, g2⟩ := all2_get hcs hid
    rw [hv] at g1; cases g1
    exact g2
  · rcases List.mem_append.mp hp with hp | hp
    · exact h3 p hp s hs q hq hfr
    · obtain ⟨id, hid, rfl⟩ := List.mem_map.mp hp
      simp only [Pk.svs, List.mem_singleton] at hs
      subst hs
      simp [SV.ids] at hq
  · simp only [execOp, ho, resolve, Deferred.ofValue, e, Sem.run_bind, Sem.run_pure, Result.andThen, invoke]
    congr 2
    simp

theorem eff_call (h : InvS cx st sh a W Fr) (hd : ∀ d', o.dst = some d' → d' < cx.n) (hnid : ∀ k, k < 64 → Fr (nid + k)) (hpins : ∀ q ∈ cx.pins, q.1 < 1000) {c : Call} (ho : o.op = .call c) (hK : effK P st nid o K) : Good P cx st Fr nid o a W K Q := by
  unfold effK at hK
  rw [ho] at hK
  obtain ⟨callee, ⟨args⟩, ⟨tys⟩⟩ := c
  simp only at hK
  split at hK
  · rename_i x
    split at hK
    · rename_i s hx
      exact good_len_str h hd ho hx hK.1 hK.2
    · rename_i v hv hx
      exact good_len_nil h hd ho hx hK.1 hK.2.1 hK.2.2
    · rename_i s hs hx
      obtain ⟨h1, hK⟩ := hK
      split at hK
      · rename_i w rows hr
        exact good_len_rows h hd ho hx hr h1 hK
      · exact hK.elim
    · exact hK.elim
  · rename_i s x t t2
    split at hK
    · rename_i w bytes z ht
      exact good_append h hd hnid hpins ho ht hK.1 hK.2
    · exact hK.elim
  · rename_i d s t t2
    split at hK
    · rename_i w bytes z ht
      exact good_copy h hd hnid hpins ho ht hK
    · exact hK.elim
  · rename_i x y
    split at hK
    · rename_i k m k' n hx hy
      exact good_minmax h hd ho hx hy (.inl ⟨rfl, rfl⟩) hK
    · exact hK.elim
  · rename_i x y
    split at hK
    · rename_i k m k' n hx hy
      exact good_minmax h hd ho hx hy (.inr ⟨rfl, rfl⟩) hK
    · exact hK.elim
  · rename_i f
    split at hK
    · rename_i g ids hf
      exact good_call_fnv h hd hnid hpins ho hf hK
    · rename_i g caps hf
      exact good_call_fni h hd hnid hpins ho hf hK
    · exact hK.elim
  · exact hK.elim

/-- Every operation comes to what the state says. -/
theorem eff_sound (h : InvS cx st sh a W Fr) (hd : ∀ d', o.dst = some d' → d' < cx.n) (hnid : ∀ k, k < 64 → Fr (nid + k)) (hpins : ∀ q ∈ cx.pins, q.1 < 1000) (hK : effK P st nid o K) : Good P cx st Fr nid o a W K Q := by
  have hK0 := hK
  unfold effK at hK
  split at hK
  · rename_i x ho
    exact good_move h hd (.inl ho) hK
  · rename_i x ho
    exact good_move h hd (.inr ho) hK
  · rename_i c x y ho
    split at hK
    · rename_i t hc
      exact good_pick h hd ho hc hK
    · exact hK.elim
  · rename_i e ho
    split at hK
    · rename_i z hz
      exact good_alloc h hd hnid hpins ho hz hK
    · exact hK.elim
  · rename_i e x ho
    split at hK
    · rename_i s hx
      exact good_box h hd hnid hpins ho hx (by rintro s' e; cases e; exact hK.1) hK.2
    · rename_i xs hx
      exact good_box h hd hnid hpins ho hx (by rintro s' e; cases e) hK
    · exact hK.elim
  · rename_i t x ho
    split at hK
    · rename_i n s ht hx
      exact good_load h hd ho ht hx hK
    · exact hK.elim
  · rename_i t x y ho
    split at hK
    · rename_i n s p ht hx hy
      exact good_store h hd hnid hpins ho ht hx hy hK.1 hK.2
    · exact hK.elim
  · rename_i x ho
    split at hK
    · rename_i s hx
      exact good_nilCheck h hd ho hx hK
    · exact hK.elim
  · rename_i op xT x y yT ho
    split at hK
    · rename_i u v hx hy
      exact good_bin h hd ho hx hy hK
    · rename_i xs ys hx hy
      exact good_pair h hd ho hx hy hK
    · exact hK.elim
  · rename_i op t x ho
    split at hK
    · rename_i u hx
      exact good_un h hd ho hx hK
    · exact hK.elim
  · rename_i s d x ho
    split at hK
    · rename_i k1 k ik n hs hdd hx
      exact good_convert_int h hd ho hs hdd hx hK
    · rename_i b hs hdd hx
      exact good_convert_str h hd ho hs hdd hx hK
    · rename_i e sv hs hdd hx
      obtain ⟨he, hK⟩ := hK
      split at hK
      · rename_i w rows hr
        obtain ⟨bs, rfl, rfl, hK⟩ := hK
        exact good_convert_bytes h hd ho hs he hdd hx hr hK
      · exact hK.elim
    · exact hK.elim
  · rename_i t x f ho
    split at hK
    · rename_i off xs ht hx
      exact good_field h hd ho ht hx hK
    · rename_i off n xs ht hx
      exact good_field h hd ho ht hx hK
    · exact hK.elim
  · rename_i t x f ho
    split at hK
    · rename_i off n s ht hx
      exact good_fieldAddr h hd ho ht hx hK
    · exact hK.elim
  · rename_i t x i ho
    split at hK
    · rename_i e bytes z s ht hx
      exact good_indexAddr h hd ho ht hx hK
    · exact hK.elim
  · rename_i t x i ho
    split at hK
    · rename_i s hu hx
      exact good_index_str h hd ho hu hx hK
    · rename_i n e xs hu hx
      exact good_index_arr h hd ho hu hx hK.1 hK.2.1 hK.2.2
    · exact hK.elim
  · rename_i t parts ho
    split at hK
    · rename_i places z hp hz
      exact good_build h hd ho hp hz hK
    · exact hK.elim
  · rename_i t len parts ho
    split at hK
    · rename_i w bytes z ht
      exact good_buildSlice h hd hnid hpins ho ht hK.1 hK.2
    · exact hK.elim
  · rename_i t l c ho
    split at hK
    · rename_i w bytes z ht
      exact good_makeSlice h hd hnid hpins ho ht hK
    · exact hK.elim
  · rename_i t x lo hi ho
    split at hK
    · rename_i s hu hx
      exact good_cut_str h hd ho hu hx hK
    · rename_i e sv hu hx
      split at hK
      · rename_i w bytes z ht
        exact good_cut h hd ho ht hx hK
      · exact hK.elim
    · exact hK.elim
  · rename_i x k ho
    split at hK
    · rename_i ps hx
      split at hK
      · rename_i p hp
        exact good_extract h hd ho hx hp hK
      · exact hK.elim
    · exact hK.elim
  · rename_i f first captured ho
    obtain ⟨rfl, hK⟩ := hK
    split at hK
    · rename_i ids hx
      exact good_makeFunc h hd ho hx hK
    · exact hK.elim
  · rename_i c ho
    exact eff_call h hd hnid hpins ho hK0
  · exact hK.elim
end eff
end Go.Proofs.YtedciihjgbkjgacGreatDoor.A

/-! THE ABSTRACT SEMANTICS IS SOUND, twenty-fifth part: regions in the text's order. Conditions: none. -/
namespace Go.Proofs.YtedciihjgbkjgacGreatDoor.A
open Go
set_option linter.unusedSimpArgs false
set_option linter.unusedVariables false

section run
variable {P : Program} {cx : Cx} {st : St} {sh : Sh} {a : Act} {W : World} {Fr : Nat → Prop} {Q : Exit → Act → World → Prop}

theorem InvS.next (h : InvS cx st sh a W Fr) (hpins : ∀ q ∈ cx.pins, q.1 < 1000) (n : Nat) : InvS cx { st with next := n } sh a W Fr :=
  h.move (vars' := st.vars) (objs' := st.objs) (n' := n) (new := fun _ => False) (Fr' := Fr) (Keeps.same rfl rfl) (fun _ h => h.elim) (fun _ h => h) h.ext
    (fun id fs hf => by
      obtain ⟨h1, c, t, h2, h3⟩ := h.vars id fs hf
      exact ⟨⟨h1, c, t, h2, all2_mono (fun s u m g => svRep_keeps (st := st) (Keeps.same rfl rfl) (fun _ _ h => h) g) h3⟩, fun id' hf' s m => (h.fresh id' hf').2.2.2 id fs hf s m⟩)
    h.objs (fun id hf => ⟨(h.fresh id hf).1, (h.fresh id hf).2.1⟩) h.stamps (fun id _ hs => ⟨hs, rfl⟩) (fun id _ hv => ⟨hv, rfl⟩) hpins

theorem boolOf_some {x : AV} {b : Bool} (h : boolOf x = some b) : x = .sc (.bool b) := by
  unfold boolOf at h
  split at h
  · simp only [Option.some.injEq] at h; rw [h]
  · cases h

/-- What a guard asks of. -/
theorem InvS.yielded (h : InvS cx st sh a W Fr) {ops : Array Oper} {g : Nat} {b : Bool} (hy : yieldOf st (nth (ops.toList.map (·.dst)) g) = some b) : yielded ops a.tmps g = some b := by
  rw [nth_eq] at hy
  unfold yieldOf at hy
  split at hy
  · rename_i t ht
    have hx := boolOf_some hy
    have hs := h.slots t
    rw [hx] at hs
    have hs : a.tmps.getD t undef = .bool b := hs
    rw [List.getElem?_map, Array.getElem?_toList] at ht
    simp only [Option.map_eq_some_iff] at ht
    obtain ⟨o, ho, hd⟩ := ht
    have htm : a.tmps[t]? = some (.bool b) := by
      rw [Array.getD_eq_getD_getElem?] at hs
      rcases hq : a.tmps[t]? with _ | v
      · rw [hq] at hs; simp [undef] at hs
      · rw [hq] at hs; simp at hs; rw [hs]
    simp [Go.yielded, ho, hd, htm]
  · cases hy

theorem InvS.skipped (h : InvS cx st sh a W Fr) {ops : Array Oper} {g : Nat} (hy : skipOf st (nth (ops.toList.map (·.dst)) g) = true) : Go.yielded ops a.tmps g = none := by
  rw [nth_eq] at hy
  unfold skipOf at hy
  split at hy
  · rename_i t ht
    have hx : st.slots t = .tup [] := by
      unfold unRun at hy
      split at hy
      · assumption
      · cases hy
    have hs := h.slots t
    rw [hx] at hs
    obtain ⟨vs, hs, hvs⟩ := hs
    rw [List.getElem?_map, Array.getElem?_toList] at ht
    simp only [Option.map_eq_some_iff] at ht
    obtain ⟨o, ho, hd⟩ := ht
    rw [Array.getD_eq_getD_getElem?] at hs
    rcases hq : a.tmps[t]? with _ | v
    · simp [Go.yielded, ho, hd, hq]
    · rw [hq] at hs
      simp only [Option.getD_some] at hs
      subst hs
      simp [Go.yielded, ho, hd, hq]
  · cases hy

/-- The operations of a region, one after another. -/
theorem run_sound (hpins : ∀ q ∈ cx.pins, q.1 < 1000) {ops : Array Oper} {base : Nat} (hbound : ∀ o ∈ ops.toList, ∀ d', o.dst = some d' → d' < cx.n) {K : St → Prop} :
    ∀ (rest : List Oper) (i : Nat) {st : St} {sh : Sh} {a : Act} {W : World}, ops.toList.drop i = rest → i + rest.length = ops.size → InvS cx st sh a W (fun id => base + 64 * i ≤ id) → runK P (ops.toList.map (·.dst)) base i rest st K →
      (∀ st' sh' a' W', K st' → InvS cx st' sh' a' W' (fun id => base + 64 * ops.size ≤ id) → Q .normal a' W') → wpOps P ops Q (List.range' i rest.length) a W
  | [], i, st, sh, a, W, hd, hsz, h, hK, hQ => by
    simp only [List.length_nil, List.range'_zero, wpOps]
    refine hQ st sh a W hK (h.less fun id hid => ?_)
    have e : i = ops.size := by simpa using hsz
    subst e
    exact hid
  | o :: r, i, st, sh, a, W, hd, hsz, h, hK, hQ => by
    have hi : i < ops.toList.length := by
      rcases Nat.lt_or_ge i ops.toList.length with g | g
      · exact g
      · rw [List.drop_eq_nil_of_le g] at hd; cases hd
    rw [List.drop_eq_getElem_cons hi] at hd
    simp only [List.cons.injEq] at hd
    obtain ⟨ho, hr⟩ := hd
    have hget : ops[i]? = some o := by
      rw [← Array.getElem?_toList, List.getElem?_eq_getElem hi, ho]
    have hmem : o ∈ ops.toList := by rw [← ho]; exact List.getElem_mem hi
    have hdst := hbound o hmem
    simp only [List.length_cons, List.range'_succ, wpOps, hget]
    have step : effK P st (base + 64 * i) o (fun e => runK P (ops.toList.map (·.dst)) base (i + 1) r (st.app o.dst e) K) → o.wp P a W (wpOps P ops Q (List.range' (i + 1) r.length)) Q := by
      intro hE
      have hg := eff_sound (Q := Q) h hdst (fun k hk => by show base + 64 * i ≤ base + 64 * i + k; omega) hpins hE
      unfold Good at hg
      refine Oper.wp_mono (fun a' W' hx => ?_) hg
      obtain ⟨e, sh', hK', hi'⟩ := hx
      refine run_sound hpins hbound r (i + 1) hr (by simp only [List.length_cons] at hsz; omega) (hi'.less fun id hid => ⟨by omega, by omega⟩) hK' hQ
    unfold runK at hK
    split at hK
    · rename_i hgd
      have hw : Region.wanted o (yielded ops a.tmps) = true := by simp [Region.wanted, hgd]
      rw [if_pos hw]
      exact .inl (step hK)
    · rename_i g want hgd
      split at hK
      · rename_i b hy
        have hyy := h.yielded hy
        split at hK
        · rename_i e
          have hw : Region.wanted o (yielded ops a.tmps) = true := by simp [Region.wanted, hgd, hyy, e]
          rw [if_pos hw]
          exact .inl (step hK)
        · rename_i e
          have hw : Region.wanted o (yielded ops a.tmps) = false := by simp [Region.wanted, hgd, hyy, e]
          rw [hw]
          simp only [Bool.false_eq_true, if_false]
          have h' := InvS.put h hdst (av := .tup []) (v := undef) ⟨#[], rfl, trivial⟩ (fun id _ hm => by simp [AV.ids, AV.svs, Pk.svs, SV.ids] at hm)
          refine run_sound hpins hbound r (i + 1) hr (by simp only [List.length_cons] at hsz; omega) (h'.less fun id hid => by omega) ?_ hQ
          exact hK
      · obtain ⟨hs, hK⟩ := hK
        have hw : Region.wanted o (yielded ops a.tmps) = false := by simp [Region.wanted, hgd, h.skipped hs]
        rw [hw]
        simp only [Bool.false_eq_true, if_false]
        have h' := InvS.put h hdst (av := .tup []) (v := undef) ⟨#[], rfl, trivial⟩ (fun id _ hm => by simp [AV.ids, AV.svs, Pk.svs, SV.ids] at hm)
        refine run_sound hpins hbound r (i + 1) hr (by simp only [List.length_cons] at hsz; omega) (h'.less fun id hid => by omega) ?_ hQ
        exact hK
end run
end Go.Proofs.YtedciihjgbkjgacGreatDoor.A

/-! THE ABSTRACT SEMANTICS IS SOUND, twenty-sixth part: code. Conditions: none. -/
namespace Go.Proofs.YtedciihjgbkjgacGreatDoor.A
open Go
set_option linter.unusedSimpArgs false
set_option linter.unusedVariables false

def okOp (n : Nat) (o : Oper) : Bool := match o.dst with
  | some d => decide (d < n)
  | none => true
def okCode (n : Nat) : Code → Bool
  | .region _ ops draw => ops.toList.all (okOp n) && (!draw || stOk ops.toList)
  | .seq a b => okCode n a && okCode n b
  | .cond _ a b => okCode n a && okCode n b
  | .block _ b => okCode n b
  | .loop b => okCode n b
  | _ => true

section code
variable {P : Program} {cx : Cx}

theorem okOps {n : Nat} {ops : Array Oper} (h : ops.toList.all (okOp n) = true) : ∀ o ∈ ops.toList, ∀ d', o.dst = some d' → d' < n := by
  intro o ho d' hd
  have := List.all_eq_true.mp h o ho
  simpa [okOp, hd] using this

/-- A region in the text's order. -/
theorem region_sound (hpins : ∀ q ∈ cx.pins, q.1 < 1000) {id : Nat} {ops : Array Oper} (hok : ops.toList.all (okOp cx.n) = true) {st : St} {a : Act} {W : World} (h : Inv cx st a W) {K : St → Prop} (hK : Rg P ops false st K) {Q : Exit → Act → World → Prop}
    (hQ : ∀ st' a' W', K st' → Inv cx st' a' W' → Q .normal a' W') : (Code.region id ops false).wp P Q a W := by
  obtain ⟨sh, h⟩ := h
  refine wp_region ?_
  have e : List.range ops.size = List.range' 0 ops.toList.length := by rw [List.range_eq_range', Array.length_toList]
  rw [e]
  refine run_sound hpins (okOps hok) ops.toList 0 (by simp) (by simp) (h.less fun q hq => by simpa using hq) hK (fun st' sh' a' W' hK' h' => ?_)
  refine hQ _ a' W' hK' ⟨sh', ?_⟩
  exact h'.next hpins _

theorem awp_sound (hpins : ∀ q ∈ cx.pins, q.1 < 960) (hdraw : ∀ {id : Nat} {ops : Array Oper} (_ : ops.toList.all (okOp cx.n) = true) (_ : stOk ops.toList = true) {st : St} {a : Act} {W : World} (_ : Inv cx st a W) {K : St → Prop} (_ : Rg P ops true st K) {Q : Exit → Act → World → Prop}
    (_ : ∀ st' a' W', K st' → Inv cx st' a' W' → Q .normal a' W'), (Code.region id ops true).wp P Q a W) :
    ∀ (c : Code) {st : St} {a : Act} {W : World} {R : Exit → St → Prop} {Q : Exit → Act → World → Prop}, okCode cx.n c = true → Inv cx st a W → Awp P c R st → (∀ e st' a' W', R e st' → Inv cx st' a' W' → Q e a' W') → c.wp P Q a W
  | .skip, st, a, W, R, Q, _, h, hA, hQ => wp_skip (hQ _ _ _ _ hA h)
  | .region id ops draw, st, a, W, R, Q, hok, h, hA, hQ => by
    simp only [okCode, Bool.and_eq_true] at hok
    obtain ⟨hok, hst⟩ := hok
    cases draw with
    | false => exact region_sound (fun q hq => by have := hpins q hq; omega) hok h hA (fun st' a' W' hK hi => hQ _ _ _ _ hK hi)
    | true => exact hdraw hok (by simpa using hst) h hA (fun st' a' W' hK hi => hQ _ _ _ _ hK hi)
  | .seq x y, st, a, W, R, Q, hok, h, hA, hQ => by
    simp only [okCode, Bool.and_eq_true] at hok
    refine wp_seq (awp_sound hpins hdraw x hok.1 h hA fun e st' a' W' hR hi => ?_)
    cases e with
    | normal => exact awp_sound hpins hdraw y hok.2 hi hR hQ
    | _ => exact hQ _ _ _ _ hR hi
  | .cond c x y, st, a, W, R, Q, hok, h, hA, hQ => by
    simp only [okCode, Bool.and_eq_true] at hok
    unfold Awp at hA
    split at hA
    · rename_i t hc
      obtain ⟨sh, hi⟩ := h
      have ec := hi.ev c
      rw [hc] at ec
      have ec : a.eval c = .bool t := ec
      refine wp_cond ec ?_
      cases t with
      | true => exact awp_sound hpins hdraw x hok.1 ⟨sh, hi⟩ (by simpa using hA) hQ
      | false => exact awp_sound hpins hdraw y hok.2 ⟨sh, hi⟩ (by simpa using hA) hQ
    · exact hA.elim
  | .block id b, st, a, W, R, Q, hok, h, hA, hQ => by
    refine wp_block (awp_sound hpins hdraw b hok h hA fun e st' a' W' hR hi => ?_)
    cases e with
    | exit id' =>
      simp only [Exit.blk] at hR
      unfold Exit.inBlock
      split at hR <;> rename_i e
      · subst e; simp; exact hQ _ _ _ _ hR hi
      · simp [e]; exact hQ _ _ _ _ hR hi
    | _ => exact hQ _ _ _ _ hR hi
  | .loop b, st, a, W, R, Q, hok, h, hA, hQ => by
    obtain ⟨ι, S, good, μ, ⟨i0, hg0, hl0⟩, hround⟩ := hA
    have key : ∀ (n : Nat) (i : ι) (a : Act) (W : World), μ i < n → good i → Inv cx (S i) a W → Code.rounds P b Q n a W := by
      intro n
      induction n with
      | zero => intro i a W hlt; omega
      | succ n ih =>
        intro i a W hlt hg hi
        refine awp_sound hpins hdraw b hok hi (hround i hg) fun e st' a' W' hR hi' => ?_
        cases e with
        | normal =>
          obtain ⟨i', hg', hlt', hle⟩ := hR
          exact ih i' a' W' (by omega) hg' (hle cx a' W' hpins hi')
        | _ => exact hQ _ _ _ _ hR hi'
    exact wp_loop_rounds (μ i0 + 1) (key _ i0 a W (by omega) hg0 (hl0 cx a W hpins h))
  | .exit id, st, a, W, R, Q, _, h, hA, hQ => wp_exit (hQ _ _ _ _ hA h)
  | .ret, st, a, W, R, Q, _, h, hA, hQ => wp_ret (hQ _ _ _ _ hA h)
end code
end Go.Proofs.YtedciihjgbkjgacGreatDoor.A

/-! THE ABSTRACT SEMANTICS IS SOUND, twenty-seventh part: a frame's entry. Conditions: none. -/
namespace Go.Proofs.YtedciihjgbkjgacGreatDoor.A
open Go
set_option linter.unusedSimpArgs false
set_option linter.unusedVariables false

structure ARow where
  k : Nat
  l : Leaf
  v : Value
def aLs : Nat → List Leaf → List Value → List ARow
  | k, l :: ls, v :: vs => ⟨k, l, v⟩ :: aLs (k + 1) ls vs
  | _, _, _ => []
def aPk (k : Nat) : LV → Value → List ARow
  | .one l, v => [⟨k, l, v⟩]
  | .agg ls, .agg cs => aLs k ls cs.toList
  | _, _ => []
def aAll : Nat → List LV → List Value → List ARow
  | k, l :: ls, v :: vs => aPk k l v ++ aAll (k + 16) ls vs
  | _, _, _ => []

section entry
variable {W : World} {lab : Nat → Lab}
theorem aLs_rep : ∀ {k : Nat} {ls : List Leaf} {vs : List Value}, LeavesRep W lab k ls vs → ∀ r ∈ aLs k ls vs, LeafRep W lab r.k r.l r.v
  | _, [], [], _ => by simp [aLs]
  | k, l :: ls, v :: vs, ⟨h1, h2⟩ => by
    intro r hr
    simp only [aLs, List.mem_cons] at hr
    rcases hr with rfl | hr
    · exact h1
    · exact aLs_rep h2 r hr
  | _, [], _ :: _, h => h.elim
  | _, _ :: _, [], h => h.elim
theorem aAll_rep : ∀ {k : Nat} {ls : List LV} {vs : List Value}, LVsRep W lab k ls vs → ∀ r ∈ aAll k ls vs, LeafRep W lab r.k r.l r.v
  | _, [], [], _ => by simp [aAll]
  | k, l :: ls, v :: vs, ⟨h1, h2⟩ => by
    intro r hr
    simp only [aAll, List.mem_append] at hr
    rcases hr with hr | hr
    · cases l with
      | one l => simp only [aPk, List.mem_singleton] at hr; subst hr; exact h1
      | agg ls =>
        obtain ⟨cs, rfl, h3⟩ := h1
        exact aLs_rep h3 r hr
    · exact aAll_rep h2 r hr
  | _, [], _ :: _, h => h.elim
  | _, _ :: _, [], h => h.elim
theorem aLs_keys : ∀ {k : Nat} {ls : List Leaf} {vs : List Value}, (∀ r ∈ aLs k ls vs, k ≤ r.k ∧ r.k < k + ls.length) ∧ ((aLs k ls vs).map (·.k)).Nodup
  | k, l :: ls, v :: vs => by
    obtain ⟨h1, h2⟩ := aLs_keys (k := k + 1) (ls := ls) (vs := vs)
    constructor
    · intro r hr
      simp only [aLs, List.mem_cons] at hr
      simp only [List.length_cons]
      rcases hr with rfl | hr
      · simp
      · have := h1 r hr; omega
    · simp only [aLs, List.map_cons, List.nodup_cons]
      refine ⟨fun hm => ?_, h2⟩
      obtain ⟨r, hr, e⟩ := List.mem_map.mp hm
      have := h1 r hr
      omega
  | _, [], _ => by simp [aLs]
  | _, _ :: _, [] => by simp [aLs]
theorem aPk_keys {k : Nat} {l : LV} {v : Value} (hl : l.leaves.length ≤ 16) : (∀ r ∈ aPk k l v, k ≤ r.k ∧ r.k < k + 16) ∧ ((aPk k l v).map (·.k)).Nodup := by
  unfold aPk
  split
  · simp
  · rename_i ls cs
    obtain ⟨h1, h2⟩ := aLs_keys (k := k) (ls := ls) (vs := cs.toList)
    refine ⟨fun r hr => ?_, h2⟩
    have := h1 r hr
    simp only [LV.leaves] at hl
    omega
  · simp
theorem aAll_keys : ∀ {k : Nat} {ls : List LV} {vs : List Value}, (∀ l ∈ ls, l.leaves.length ≤ 16) → (∀ r ∈ aAll k ls vs, k ≤ r.k ∧ r.k < k + 16 * ls.length) ∧ ((aAll k ls vs).map (·.k)).Nodup
  | k, l :: ls, v :: vs, hl => by
    obtain ⟨h1, h2⟩ := aAll_keys (k := k + 16) (ls := ls) (vs := vs) (fun l m => hl l (by simp [m]))
    obtain ⟨g1, g2⟩ := aPk_keys (k := k) (v := v) (hl l (by simp))
    constructor
    · intro r hr
      simp only [aAll, List.mem_append] at hr
      simp only [List.length_cons]
      rcases hr with hr | hr
      · have := g1 r hr; omega
      · have := h1 r hr; omega
    · simp only [aAll, List.map_append]
      rw [List.nodup_append]
      refine ⟨g2, h2, fun x hx y hy => ?_⟩
      obtain ⟨r, hr, rfl⟩ := List.mem_map.mp hx
      obtain ⟨r', hr', rfl⟩ := List.mem_map.mp hy
      have a1 := g1 r hr
      have a2 := h1 r' hr'
      omega
  | _, [], _, _ => by simp [aAll]
  | _, _ :: _, [], _ => by simp [aAll]
theorem aLs_eff {δ : Type} (f : Nat → Leaf → List δ) : ∀ {k : Nat} {ls : List Leaf} {vs : List Value}, LeavesRep W lab k ls vs → (aLs k ls vs).flatMap (fun r => f r.k r.l) = leavesEff f k ls
  | _, [], [], _ => rfl
  | k, l :: ls, v :: vs, ⟨_, h2⟩ => by simp only [aLs, List.flatMap_cons, leavesEff, aLs_eff f h2]
  | _, [], _ :: _, h => h.elim
  | _, _ :: _, [], h => h.elim
theorem aAll_eff {δ : Type} (f : Nat → Leaf → List δ) : ∀ {k : Nat} {ls : List LV} {vs : List Value}, LVsRep W lab k ls vs → (aAll k ls vs).flatMap (fun r => f r.k r.l) = resEff f k ls
  | _, [], [], _ => rfl
  | k, l :: ls, v :: vs, ⟨h1, h2⟩ => by
    have e : (aPk k l v).flatMap (fun r => f r.k r.l) = leavesEff f k l.leaves := by
      cases l with
      | one l => simp [aPk, LV.leaves, leavesEff]
      | agg ls =>
        obtain ⟨cs, rfl, h3⟩ := h1
        exact aLs_eff f h3
    simp only [aAll, List.flatMap_append, resEff, aAll_eff f h2, e]
  | _, [], _ :: _, h => h.elim
  | _, _ :: _, [], h => h.elim

def headerOf (R : List ARow) (id : Nat) : Value := ((R.find? (·.k == id)).map (·.v)).getD default
def blockOf (R : List ARow) (id : Nat) : Nat := match headerOf R id with
  | .pointer (some ⟨b, _, _⟩) => b
  | _ => 0
theorem header_row : ∀ {R : List ARow} {r : ARow}, (R.map (·.k)).Nodup → r ∈ R → headerOf R r.k = r.v
  | x :: R, r, hn, hr => by
    rw [List.map_cons, List.nodup_cons] at hn
    unfold headerOf
    rw [List.find?_cons]
    rcases List.mem_cons.mp hr with rfl | hr
    · simp
    · have hne : ¬ x.k = r.k := fun e => hn.1 (List.mem_map.mpr ⟨r, hr, e.symm⟩)
      have : (x.k == r.k) = false := by simpa using hne
      rw [this]
      exact header_row hn.2 hr

theorem start_mem {δ : Type} {f : Nat → Leaf → List (Nat × Option δ)} {args : List LV} {vs : List Value} (hrep : LVsRep W lab 0 args vs) {id : Nat} {x : δ} (h : upd (fun _ => none) (resEff f 0 args) id = some x) : ∃ r ∈ aAll 0 args vs, (id, some x) ∈ f r.k r.l := by
  rw [← aAll_eff f hrep] at h
  rcases upd_get (fun _ => none) id ((aAll 0 args vs).flatMap fun r => f r.k r.l) with ⟨_, e⟩ | ⟨y, hm, e⟩
  · rw [e] at h; cases h
  · rw [e] at h
    subst h
    exact List.mem_flatMap.mp hm
theorem start_obj {args : List LV} {vs : List Value} (hrep : LVsRep W lab 0 args vs) {id w : Nat} {rows : Rows} (h : (startOf args).objs id = some (w, rows)) : ∃ r ∈ aAll 0 args vs, r.k = id ∧ r.l = .ow w rows := by
  obtain ⟨r, hr, hm⟩ := start_mem (f := resLeafO) hrep h
  refine ⟨r, hr, ?_⟩
  rcases hl : r.l with _ | _ | ⟨w', rows'⟩ | _ | _ | _ | _ <;> rw [hl] at hm <;> simp [resLeafO] at hm
  exact ⟨hm.1.symm, by rw [hm.2.1, hm.2.2]⟩
theorem start_var {args : List LV} {vs : List Value} (hrep : LVsRep W lab 0 args vs) {id : Nat} {fs : List SV} (h : (startOf args).vars id = some fs) : ∃ r ∈ aAll 0 args vs, r.k = id ∧ ∃ gs, r.l = .op gs ∧ fs = gs.map Fld.sv := by
  obtain ⟨r, hr, hm⟩ := start_mem (f := resLeafV) hrep h
  refine ⟨r, hr, ?_⟩
  rcases hl : r.l with _ | _ | _ | _ | _ | gs | _ <;> rw [hl] at hm <;> simp [resLeafV] at hm
  exact ⟨hm.1.symm, gs, rfl, hm.2⟩
variable {args : List LV} {vs : List Value}
def sh0 (lab : Nat → Lab) (args : List LV) (vs : List Value) : Sh := ⟨lab, headerOf (aAll 0 args vs), blockOf (aAll 0 args vs)⟩
theorem block_row {r : ARow} (hn : ((aAll 0 args vs).map (·.k)).Nodup) (hr : r ∈ aAll 0 args vs) {b : Nat} (e : r.v = .pointer (some ⟨b, 0, none⟩)) : blockOf (aAll 0 args vs) r.k = b := by
  unfold blockOf
  rw [header_row hn hr, e]
theorem argSV_rep (hn : ((aAll 0 args vs).map (·.k)).Nodup) (hrep : LVsRep W lab 0 args vs) {r : ARow} (hr : r ∈ aAll 0 args vs) : SVRep (startOf args) W (sh0 lab args vs) (argSV r.k r.l) r.v := by
  have hl := aAll_rep hrep r hr
  have same : ∀ r' ∈ aAll 0 args vs, r'.k = r.k → r' = r := fun r' hr' e => nodup_map hn r' hr' r hr e
  have hh := header_row hn hr
  obtain ⟨k, l, v⟩ := r
  simp only at hl hh same
  cases l with
  | sc x => exact hl
  | im w rows => exact hl
  | gone => trivial
  | ip fs => exact hl
  | fn f caps => exact hl
  | ow w rows =>
    intro w' rows' ho
    obtain ⟨r', hr', e1, e2⟩ := start_obj hrep ho
    have := same r' hr' e1
    subst this
    simp only [Leaf.ow.injEq] at e2
    obtain ⟨rfl, rfl⟩ := e2
    refine ⟨rfl, by omega, ?_⟩
    show ViewIs (headerOf (aAll 0 args vs) k) w 0 rows.length v
    rw [hh]
    obtain ⟨_, _, ⟨A, e, hn⟩ | ⟨b, cap, c, t, e, _⟩⟩ := hl.1
    · subst hn; exact .inr ⟨rfl, A, e⟩
    · left
      rw [e, viewOf_full]
      intro ad ha; cases ha; rfl
  | op fs =>
    intro fs' hf
    obtain ⟨b, c, t, e, _⟩ := hl
    show v = .pointer (some ⟨blockOf (aAll 0 args vs) k, 0, none⟩)
    rw [block_row hn hr e]; exact e
theorem argLeaves_rep (hn : ((aAll 0 args vs).map (·.k)).Nodup) (hrep : LVsRep W lab 0 args vs) : ∀ {k : Nat} {ls : List Leaf} {us : List Value}, LeavesRep W lab k ls us → (∀ r ∈ aLs k ls us, r ∈ aAll 0 args vs) → All2 (SVRep (startOf args) W (sh0 lab args vs)) (argLeaves k ls) us
  | _, [], [], _, _ => trivial
  | k, l :: ls, v :: us, ⟨_, h2⟩, hm => ⟨argSV_rep hn hrep (r := ⟨k, l, v⟩) (hm _ (by simp [aLs])), argLeaves_rep hn hrep h2 fun r hr => hm r (by simp [aLs, hr])⟩
  | _, [], _ :: _, h, _ => h.elim
  | _, _ :: _, [], h, _ => h.elim
theorem argPk_rep (hn : ((aAll 0 args vs).map (·.k)).Nodup) (hrep : LVsRep W lab 0 args vs) {k : Nat} {l : LV} {v : Value} (h : LVRep W lab k l v) (hm : ∀ r ∈ aPk k l v, r ∈ aAll 0 args vs) : PkRep (startOf args) W (sh0 lab args vs) (argPk k l) v := by
  cases l with
  | one l => exact argSV_rep hn hrep (r := ⟨k, l, v⟩) (hm _ (by simp [aPk]))
  | agg ls =>
    obtain ⟨cs, rfl, h3⟩ := h
    exact ⟨cs, rfl, argLeaves_rep hn hrep h3 hm⟩
theorem argSlots_rep (hn : ((aAll 0 args vs).map (·.k)).Nodup) (hrep : LVsRep W lab 0 args vs) : ∀ {t0 k : Nat} {ls : List LV} {us : List Value}, LVsRep W lab k ls us → (∀ r ∈ aAll k ls us, r ∈ aAll 0 args vs) → ∀ (t : Nat) (v : Value), (t0 ≤ t → us[t - t0]? = some v ∨ us[t - t0]? = none) → AVRep (startOf args) W (sh0 lab args vs) (argSlots t0 k ls t) v
  | t0, k, [], [], _, _, t, v, _ => trivial
  | t0, k, l :: ls, u :: us, ⟨h1, h2⟩, hm, t, v, hv => by
    unfold argSlots
    split
    · rename_i e
      subst e
      have := hv (Nat.le_refl _)
      simp at this
      subst this
      exact argPk_rep hn hrep h1 fun r hr => hm r (by simp [aAll, hr])
    · rename_i e
      refine argSlots_rep hn hrep h2 (fun r hr => hm r (by simp [aAll, hr])) t v fun hle => ?_
      have := hv (by omega)
      rw [show t - t0 = (t - (t0 + 1)) + 1 by omega] at this
      simpa using this
  | _, _, [], _ :: _, h, _, _, _, _ => h.elim
  | _, _, _ :: _, [], h, _, _, _, _ => h.elim
end entry
end Go.Proofs.YtedciihjgbkjgacGreatDoor.A

/-! THE ABSTRACT SEMANTICS IS SOUND, twenty-eighth part: a frame at its entry is as its start says. Conditions: none. -/
namespace Go.Proofs.YtedciihjgbkjgacGreatDoor.A
open Go
set_option linter.unusedSimpArgs false
set_option linter.unusedVariables false

section entry
variable {W : World} {lab : Nat → Lab} {args : List LV} {vs : List Value}

def pinsOf (args : List LV) (vs : List Value) : List (Nat × Value) := (aAll 0 args vs).map fun r => (r.k, r.v)

theorem argSV_ids (k : Nat) (l : Leaf) : ∀ q ∈ (argSV k l).ids, q = k := by
  cases l <;> simp [argSV, SV.ids]
theorem argLeaves_ids : ∀ {k : Nat} {ls : List Leaf}, ∀ s ∈ argLeaves k ls, ∀ q ∈ s.ids, k ≤ q ∧ q < k + ls.length
  | _, [], s, hs, _, _ => by cases hs
  | k, l :: ls, s, hs, q, hq => by
    simp only [argLeaves, List.mem_cons] at hs
    simp only [List.length_cons]
    rcases hs with rfl | hs
    · have := argSV_ids k l q hq; omega
    · have := argLeaves_ids s hs q hq; omega
theorem argSlots_ids : ∀ {t0 k : Nat} {ls : List LV} (t : Nat), (∀ l ∈ ls, l.leaves.length ≤ 16) → ∀ q ∈ (argSlots t0 k ls t).ids, q < k + 16 * ls.length
  | _, _, [], t, _, q, hq => by simp [argSlots, AV.ids, AV.svs, Pk.svs, SV.ids] at hq
  | t0, k, l :: ls, t, hl, q, hq => by
    unfold argSlots at hq
    simp only [List.length_cons]
    split at hq
    · have h16 := hl l (by simp)
      obtain ⟨s, m1, m2⟩ := List.mem_flatMap.mp hq
      cases l with
      | one l =>
        simp only [argPk, AV.svs, Pk.svs, List.mem_singleton] at m1
        subst m1
        have := argSV_ids k l q m2; omega
      | agg ls' =>
        have := argLeaves_ids s m1 q m2
        simp only [LV.leaves] at h16
        omega
    · have := argSlots_ids t (fun l m => hl l (by simp [m])) q hq
      omega

theorem start_inv (hargs : LVok args 60 = true) (hrep : LVsRep W lab 0 args vs) (hdead : ∀ b, W.heap.size ≤ b → lab b = .dead) {n : Nat} (hn : vs.length ≤ n) {a : Act} (ha : a.tmps.size = n) (hd : a.defers = []) (htm : ∀ t, (a.tmps.getD t undef = undef ∧ vs[t]? = none) ∨ vs[t]? = some (a.tmps.getD t undef)) :
    InvS ⟨W, lab, n, pinsOf args vs⟩ (startOf args) (sh0 lab args vs) a W (fun id => 1000 ≤ id) := by
  obtain ⟨h60, h16⟩ := lvok_all hargs
  obtain ⟨hk1, hk2⟩ := aAll_keys (k := 0) (ls := args) (vs := vs) h16
  have hlow : ∀ r ∈ aAll 0 args vs, r.k < 960 := fun r hr => by have := hk1 r hr; omega
  have hleaf := aAll_rep hrep
  refine ⟨hd, ha, ⟨rfl, rfl, rfl, Nat.le_refl _, fun b _ _ => ⟨rfl, rfl⟩, hdead⟩, fun t => ?_, fun id fs hf => ?_, fun id w rows ho => ?_, fun id hf => ⟨?_, ?_, fun t hq => ?_, fun k fs hv s hs hq => ?_⟩, fun id h => h, fun id w rows i j s xs ho hc hf => ?_, fun k v hm hne => ?_, fun k v hm hne => ?_⟩
  · refine argSlots_rep hk2 hrep hrep (fun r hr => hr) t _ fun _ => ?_
    rw [Nat.sub_zero]
    rcases htm t with ⟨_, h⟩ | h
    · exact .inr h
    · exact .inl h
  · obtain ⟨r, hr, e1, gs, e2, rfl⟩ := start_var hrep hf
    have hl := hleaf r hr
    rw [e2] at hl
    obtain ⟨b, c, t, e, hlab, hblk, hsz, hfs⟩ := hl
    have hb := block_row hk2 hr e
    rw [e1] at hb hlab
    show lab (blockOf (aAll 0 args vs) id) = .var id ∧ _
    rw [hb]
    refine ⟨hlab, c, t, by show W.heap[blockOf (aAll 0 args vs) id]? = _; rw [hb]; exact hblk, all2_of_get (by simp [hsz]) fun q s u hq hu => ?_⟩
    simp only [List.getElem?_map, Option.map_eq_some_iff] at hq
    obtain ⟨f, hq, rfl⟩ := hq
    obtain ⟨u', u1, u2⟩ := hfs q f hq
    have hu' : c[q]? = some u := by simpa using hu
    rw [hu'] at u1; cases u1
    cases f with
    | sc x => exact u2
    | im w rows => exact u2
  · obtain ⟨r, hr, e1, e2⟩ := start_obj hrep ho
    have hl := hleaf r hr
    have hh := header_row hk2 hr
    rw [e2] at hl
    rw [e1] at hl hh
    show OwnRep W lab id w rows (headerOf (aAll 0 args vs) id)
    rw [hh]; exact hl.1
  · rcases h : (startOf args).vars id with _ | fs
    · rfl
    · obtain ⟨r, hr, e1, _⟩ := start_var hrep h
      have := hlow r hr
      have hf : 1000 ≤ id := hf
      omega
  · rcases h : (startOf args).objs id with _ | ⟨w, rows⟩
    · rfl
    · obtain ⟨r, hr, e1, _⟩ := start_obj hrep h
      have := hlow r hr
      have hf : 1000 ≤ id := hf
      omega
  · have := argSlots_ids t h16 id hq
    have hf : 1000 ≤ id := hf
    omega
  · obtain ⟨r, hr, e1, gs, _, rfl⟩ := start_var hrep hv
    obtain ⟨f, _, rfl⟩ := List.mem_map.mp hs
    exact fsv_ids f id hq
  · obtain ⟨r, hr, e1, e2⟩ := start_obj hrep ho
    have hl := hleaf r hr
    rw [e2] at hl
    obtain ⟨r1, hi, hj⟩ := cell_get hc (by simp)
    have hrst := hl.2
    have hf : 1000 ≤ s := hf
    rw [← hrst] at hi
    simp only [rst, List.getElem?_map, Option.map_eq_some_iff] at hi
    obtain ⟨r0, _, rfl⟩ := hi
    simp only [List.getElem?_map, Option.map_eq_some_iff] at hj
    obtain ⟨c0, _, e⟩ := hj
    cases c0 with
    | sl s0 ys => cases s0 <;> simp only [Cell.rst, Cell.sl.injEq] at e <;> omega
    | _ => simp [Cell.rst] at e
  · obtain ⟨r, hr, e⟩ := List.mem_map.mp hm
    simp only [Prod.mk.injEq] at e
    obtain ⟨rfl, rfl⟩ := e
    exact header_row hk2 hr
  · obtain ⟨r, hr, e⟩ := List.mem_map.mp hm
    simp only [Prod.mk.injEq] at e
    obtain ⟨rfl, rfl⟩ := e
    obtain ⟨fs, hfs⟩ := Option.ne_none_iff_exists'.mp hne
    obtain ⟨r', hr', e1, gs, e2, _⟩ := start_var hrep hfs
    have := nodup_map hk2 r' hr' r hr e1
    subst this
    have hl := hleaf r' hr
    rw [e2] at hl
    obtain ⟨b, c, t, e, _⟩ := hl
    show r'.v = .pointer (some ⟨blockOf (aAll 0 args vs) r'.k, 0, none⟩)
    rw [block_row hk2 hr e]; exact e
end entry
end Go.Proofs.YtedciihjgbkjgacGreatDoor.A

/-! THE ABSTRACT SEMANTICS IS SOUND, twenty-ninth part: a frame at its end. Conditions: none. -/
namespace Go.Proofs.YtedciihjgbkjgacGreatDoor.A
open Go
set_option linter.unusedSimpArgs false
set_option linter.unusedVariables false

section ends
variable {P : Program} {cx : Cx} {st : St} {sh : Sh} {a : Act} {W : World} {Fr : Nat → Prop}

/-! #### the results -/
def resSem (tmps : Array Value) : ResultVar → Sem Value
  | .tmp t => pure (tmps.getD t undef)
  | .cell a t => do loadVar t (← asAddr (tmps.getD a undef))
theorem resultPk_run (h : InvS cx st sh a W Fr) {r : ResultVar} {K : Pk → Prop} (hK : resultPk P st r K) : ∃ p v, K p ∧ PkRep st W sh p v ∧ (resSem a.tmps r).run P W = .ok v W := by
  cases r with
  | tmp t =>
    simp only [resultPk] at hK
    have hs := h.slots t
    rcases e : st.slots t with p | ps
    · rw [e] at hK hs
      exact ⟨p, _, hK, hs, by simp [resSem]⟩
    · rw [e] at hK; exact hK.elim
  | cell x t =>
    simp only [resultPk] at hK
    have hs := h.slots x
    split at hK
    · rename_i n id j ht hx
      rw [hx] at hs
      have hs : SVRep st W sh (.vad id j) (a.tmps.getD x undef) := hs
      simp only [loadK] at hK
      rcases hf : st.vars id with _ | fs
      · rw [hf] at hK; exact hK.elim
      · rw [hf] at hK
        have e := hs fs hf
        obtain ⟨_, c, tt, h2, h3⟩ := h.vars id fs hf
        have hc : ∀ (j : Nat) (v : Value), c.toList[j]? = some v → W.cell? ⟨sh.β id, j, none⟩ = some v := fun j v hj => by
          rw [cell_cells h2]; simpa using hj
        have fin : ∀ {v : Value}, (loadVar t ⟨sh.β id, j, none⟩).run P W = .ok v W → (resSem a.tmps (.cell x t)).run P W = .ok v W := by
          intro v hv
          simp only [resSem, e, asAddr, Sem.run_bind, Sem.run_pure, Result.andThen, hv]
        cases n with
        | none =>
          obtain ⟨v, g1, g2⟩ := all2_get h3 (List.getElem?_eq_getElem hK.1)
          refine ⟨_, v, hK.2, ?_, fin (run_load1 ht (hc j v g1))⟩
          rw [List.getD_eq_getElem?_getD, List.getElem?_eq_getElem hK.1]
          exact g2
        | some m =>
          have hlen := all2_length h3
          have hl : ((c.toList.drop j).take m).length = m := by simp at hlen ⊢; omega
          refine ⟨_, .agg ((c.toList.drop j).take m).toArray, hK.2, ⟨((c.toList.drop j).take m).toArray, rfl, all2_take m (all2_drop j h3)⟩, fin (run_loadn ht hl fun k v hk => ?_)⟩
          rw [List.getElem?_take] at hk
          split at hk
          · rw [List.getElem?_drop] at hk; exact hc (j + k) v hk
          · cases hk
    · exact hK.elim
theorem resultPks_run (h : InvS cx st sh a W Fr) : ∀ {rs : List ResultVar} {K : List Pk → Prop}, resultPks P st rs K → ∃ pks vals, K pks ∧ All2 (PkRep st W sh) pks vals ∧ All2 (fun r v => (resSem a.tmps r).run P W = .ok v W) rs vals
  | [], K, hK => ⟨[], [], hK, trivial, trivial⟩
  | r :: rs, K, hK => by
    obtain ⟨p, v, h1, h2, h3⟩ := resultPk_run h hK
    obtain ⟨pks, vals, g1, g2, g3⟩ := resultPks_run h h1
    exact ⟨p :: pks, v :: vals, g1, ⟨h2, g2⟩, h3, g3⟩
theorem results_run {fn : Func} {tmps : Array Value} {rs : List ResultVar} (hr : fn.results.toList = rs) (h3 : rs.length ≤ 4) {vals : List Value} (h : All2 (fun r v => (resSem tmps r).run P W = .ok v W) rs vals) :
    ∃ v, (results fn tmps).run P W = .ok v W ∧ ((∃ x, vals = [x] ∧ v = x) ∨ (vals.length ≠ 1 ∧ v = .tuple vals.toArray)) := by
  have e : fn.results = rs.toArray := by rw [← hr]
  have hres : results fn tmps = (do
      let vs ← rs.toArray.mapM (resSem tmps)
      pure (if h : vs.size = 1 then vs[0] else .tuple vs)) := by
    unfold results
    rw [e]
    rfl
  rw [hres]
  match rs, vals, h, h3 with
  | [], [], _, _ => exact ⟨_, by simp, .inr ⟨by simp, rfl⟩⟩
  | [r1], [v1], ⟨a1, _⟩, _ => exact ⟨_, by simp [a1], .inl ⟨v1, rfl, rfl⟩⟩
  | [r1, r2], [v1, v2], ⟨a1, a2, _⟩, _ => exact ⟨_, by simp [a1, a2], .inr ⟨by simp, rfl⟩⟩
  | [r1, r2, r3], [v1, v2, v3], ⟨a1, a2, a3, _⟩, _ => exact ⟨_, by simp [a1, a2, a3], .inr ⟨by simp, rfl⟩⟩
  | [r1, r2, r3, r4], [v1, v2, v3, v4], ⟨a1, a2, a3, a4, _⟩, _ => exact ⟨_, by simp [a1, a2, a3, a4], .inr ⟨by simp, rfl⟩⟩
  | _ :: _ :: _ :: _ :: _ :: _, _, _, h3 => simp at h3

/-! #### what is left -/
def Shp1 : LV → Value → Prop
  | .one _, _ => True
  | .agg ls, v => ∃ cs : Array Value, v = .agg cs ∧ ls.length = cs.size
def Shp : List LV → List Value → Prop := All2 Shp1
def gonesOf : LV → LV
  | .one _ => .one .gone
  | .agg ls => .agg (ls.map fun _ => .gone)
def leftRow (r : ARow) : List CRow := match r.l with
  | .ow w rows => [⟨r.k, .ref r.k w 0 rows.length, .ow w rows, .gone, r.v⟩]
  | .op fs => [⟨r.k, .vad r.k 0, .op fs, .gone, r.v⟩]
  | _ => []

theorem leavesRep_length {lab : Nat → Lab} : ∀ {k : Nat} {ls : List Leaf} {vs : List Value}, LeavesRep W lab k ls vs → ls.length = vs.length
  | _, [], [], _ => rfl
  | k, l :: ls, v :: vs, ⟨_, h⟩ => by simp [leavesRep_length h]
  | _, [], _ :: _, h => h.elim
  | _, _ :: _, [], h => h.elim
theorem leftLeaves_length : ∀ {k : Nat} {as us : List Leaf}, leftLeaves st k as us → as.length = us.length
  | _, [], [], _ => rfl
  | k, a :: as, u :: us, ⟨_, h⟩ => by simp [leftLeaves_length h]
  | _, [], _ :: _, h => h.elim
  | _, _ :: _, [], h => h.elim
theorem leftLV_length {k : Nat} {a u : LV} (h : leftLV st k a u) : a.leaves.length = u.leaves.length := by
  cases a <;> cases u <;> first | exact h.elim | rfl | exact leftLeaves_length h
theorem leftK_length : ∀ {k : Nat} {args upd : List LV}, leftK st k args upd → (∀ a ∈ args, a.leaves.length ≤ 16) → args.length = upd.length ∧ ∀ u ∈ upd, u.leaves.length ≤ 16
  | _, [], [], _, _ => by simp
  | k, a :: as, u :: us, ⟨h1, h2⟩, h16 => by
    obtain ⟨g1, g2⟩ := leftK_length h2 (fun a m => h16 a (by simp [m]))
    refine ⟨by simp [g1], fun u' m => ?_⟩
    rcases List.mem_cons.mp m with rfl | m
    · rw [← leftLV_length h1]; exact h16 a (by simp)
    · exact g2 u' m
  | _, [], _ :: _, h, _ => h.elim
  | _, _ :: _, [], h, _ => h.elim
theorem shp_left {W0 : World} {lab0 : Nat → Lab} : ∀ {k : Nat} {args upd : List LV} {vs : List Value}, LVsRep W0 lab0 k args vs → leftK st k args upd → Shp upd vs
  | _, [], [], [], _, _ => trivial
  | k, a :: as, u :: us, v :: vs, ⟨h1, h2⟩, ⟨g1, g2⟩ => by
    refine ⟨?_, shp_left h2 g2⟩
    cases a <;> cases u <;> first | exact g1.elim | trivial | skip
    obtain ⟨cs, rfl, h3⟩ := h1
    exact ⟨cs, rfl, by rw [← leftLeaves_length g1, leavesRep_length h3]; simp⟩
  | _, [], _ :: _, _, _, h => h.elim
  | _, _ :: _, [], _, _, h => h.elim
  | _, [], [], _ :: _, h, _ => h.elim
  | _, _ :: _, _ :: _, [], h, _ => h.elim
theorem left_leaves_rows {W0 : World} {lab0 : Nat → Lab} : ∀ {k : Nat} {as us : List Leaf} {vs : List Value}, LeavesRep W0 lab0 k as vs → leftLeaves st k as us → ∀ r ∈ aLs k us vs, ∃ l, (⟨r.k, l, r.v⟩ : ARow) ∈ aLs k as vs ∧ leftLeaf st r.k l r.l
  | _, [], [], [], _, _ => by simp [aLs]
  | k, a :: as, u :: us, v :: vs, ⟨_, h2⟩, ⟨g1, g2⟩ => by
    intro r hr
    simp only [aLs, List.mem_cons] at hr ⊢
    rcases hr with rfl | hr
    · exact ⟨a, .inl rfl, g1⟩
    · obtain ⟨l, m1, m2⟩ := left_leaves_rows h2 g2 r hr
      exact ⟨l, .inr m1, m2⟩
  | _, [], _ :: _, _, _, h => h.elim
  | _, _ :: _, [], _, _, h => h.elim
  | _, [], [], _ :: _, h, _ => h.elim
  | _, _ :: _, _ :: _, [], h, _ => h.elim
theorem left_rows {W0 : World} {lab0 : Nat → Lab} : ∀ {k : Nat} {args upd : List LV} {vs : List Value}, LVsRep W0 lab0 k args vs → leftK st k args upd → ∀ r ∈ aAll k upd vs, ∃ l, (⟨r.k, l, r.v⟩ : ARow) ∈ aAll k args vs ∧ leftLeaf st r.k l r.l
  | _, [], [], [], _, _ => by simp [aAll]
  | k, a :: as, u :: us, v :: vs, ⟨h1, h2⟩, ⟨g1, g2⟩ => by
    intro r hr
    simp only [aAll, List.mem_append] at hr ⊢
    rcases hr with hr | hr
    · cases a <;> cases u <;> first | exact g1.elim | skip
      · simp only [aPk, List.mem_singleton] at hr ⊢
        subst hr
        exact ⟨_, .inl rfl, g1⟩
      · obtain ⟨cs, rfl, h3⟩ := h1
        simp only [aPk] at hr ⊢
        obtain ⟨l, m1, m2⟩ := left_leaves_rows h3 g1 r hr
        exact ⟨l, .inl m1, m2⟩
    · obtain ⟨l, m1, m2⟩ := left_rows h2 g2 r hr
      exact ⟨l, .inr m1, m2⟩
  | _, [], _ :: _, _, _, h => h.elim
  | _, _ :: _, [], _, _, h => h.elim
  | _, [], [], _ :: _, h, _ => h.elim
  | _, _ :: _, _ :: _, [], h, _ => h.elim
theorem shp_aLs_eff {δ : Type} (f : Nat → Leaf → List δ) : ∀ {k : Nat} {ls : List Leaf} {vs : List Value}, ls.length = vs.length → (aLs k ls vs).flatMap (fun r => f r.k r.l) = leavesEff f k ls
  | _, [], [], _ => rfl
  | k, l :: ls, v :: vs, h => by simp only [aLs, List.flatMap_cons, leavesEff, shp_aLs_eff f (by simpa using h : ls.length = vs.length)]
  | _, [], _ :: _, h => by simp at h
  | _, _ :: _, [], h => by simp at h
theorem shp_eff {δ : Type} (f : Nat → Leaf → List δ) : ∀ {k : Nat} {ls : List LV} {vs : List Value}, Shp ls vs → (aAll k ls vs).flatMap (fun r => f r.k r.l) = resEff f k ls
  | _, [], [], _ => rfl
  | k, l :: ls, v :: vs, ⟨h1, h2⟩ => by
    have e : (aPk k l v).flatMap (fun r => f r.k r.l) = leavesEff f k l.leaves := by
      cases l with
      | one l => simp [aPk, LV.leaves, leavesEff]
      | agg ls =>
        obtain ⟨cs, rfl, h3⟩ := h1
        exact shp_aLs_eff f (by simpa using h3)
    simp only [aAll, List.flatMap_append, resEff, shp_eff f h2, e]
  | _, [], _ :: _, h => h.elim
  | _, _ :: _, [], h => h.elim
theorem shp_aLs_rep {lab : Nat → Lab} : ∀ {k : Nat} {ls : List Leaf} {vs : List Value}, ls.length = vs.length → (∀ r ∈ aLs k ls vs, LeafRep W lab r.k r.l r.v) → LeavesRep W lab k ls vs
  | _, [], [], _, _ => trivial
  | k, l :: ls, v :: vs, h, g => ⟨g ⟨k, l, v⟩ (by simp [aLs]), shp_aLs_rep (by simpa using h) fun r hr => g r (by simp [aLs, hr])⟩
  | _, [], _ :: _, h, _ => by simp at h
  | _, _ :: _, [], h, _ => by simp at h
theorem shp_rep {lab : Nat → Lab} : ∀ {k : Nat} {ls : List LV} {vs : List Value}, Shp ls vs → (∀ r ∈ aAll k ls vs, LeafRep W lab r.k r.l r.v) → LVsRep W lab k ls vs
  | _, [], [], _, _ => trivial
  | k, l :: ls, v :: vs, ⟨h1, h2⟩, g => by
    refine ⟨?_, shp_rep h2 fun r hr => g r (by simp [aAll, hr])⟩
    cases l with
    | one l => exact g ⟨k, l, v⟩ (by simp [aAll, aPk])
    | agg ls =>
      obtain ⟨cs, rfl, h3⟩ := h1
      exact ⟨cs, rfl, shp_aLs_rep (by simpa using h3) fun r hr => g r (by simp [aAll, aPk, hr])⟩
  | _, [], _ :: _, h, _ => h.elim
  | _, _ :: _, [], h, _ => h.elim
theorem fitLeaf_gone (s : SV) (l : Leaf) : fitLeaf s l .gone := by cases s <;> cases l <;> trivial
theorem fitLeaves_gones : ∀ {ss : List SV} {ls : List Leaf}, All2 (pass st) ss ls → fitLeaves ss ls (ls.map fun _ => .gone)
  | [], [], _ => trivial
  | s :: ss, l :: ls, ⟨_, h⟩ => ⟨fitLeaf_gone s l, fitLeaves_gones h⟩
  | [], _ :: _, h => h.elim
  | _ :: _, [], h => h.elim
theorem fits_gones : ∀ {ps : List Pk} {ls : List LV}, All2 (passPk st) ps ls → fits ps ls (ls.map gonesOf)
  | [], [], _ => trivial
  | p :: ps, l :: ls, ⟨h1, h2⟩ => by
    refine ⟨?_, fits_gones h2⟩
    cases p <;> cases l <;> first | exact h1.elim | exact fitLeaf_gone _ _ | exact fitLeaves_gones h1
  | [], _ :: _, h => h.elim
  | _ :: _, [], h => h.elim
theorem leftRow_keys (r : ARow) : (leftRow r).map (·.k) = [] ∨ (leftRow r).map (·.k) = [r.k] := by
  unfold leftRow
  split <;> simp
theorem leftRows_keys : ∀ (l : List ARow), ((l.flatMap leftRow).map (·.k)).Sublist (l.map (·.k))
  | [] => by simp
  | r :: l => by
    simp only [List.flatMap_cons, List.map_append, List.map_cons]
    rcases leftRow_keys r with e | e <;> rw [e]
    · simpa using (leftRows_keys l).cons r.k
    · simpa using (leftRows_keys l).cons_cons r.k
theorem leftRow_hand (r : ARow) : (leftRow r).flatMap (fun c => handLeaf c.s c.l) = leftId r.k r.l := by
  unfold leftRow
  rcases hl : r.l with _ | _ | ⟨w, rows⟩ | _ | _ | fs | _ <;> simp [leftId, handLeaf]
theorem leftRow_lends (r : ARow) : ∀ c ∈ leftRow r, lends st c.s c.l = [] := by
  intro c hc
  unfold leftRow at hc
  split at hc <;> simp at hc <;> subst hc <;> rfl

/-- The end of a frame. -/
theorem frame_end (h : InvS cx st sh a W Fr) {fn : Func} {rs : List ResultVar} (hr : fn.results.toList = rs) {args res upd' : List LV} {vs : List Value} (hargs : LVok args 60 = true) (hres : LVokR res = true) (hrep0 : LVsRep cx.W0 cx.lab0 0 args vs) (hp : cx.pins = pinsOf args vs)
    (hE : endsK P rs args res upd' st) : ∃ v, (results fn a.tmps).run P W = .ok v W ∧ ∃ lab', ResRep W lab' res v ∧ LVsRep W lab' 0 upd' vs ∧ Ext cx.W0 cx.lab0 W lab' := by
  obtain ⟨pks, vals, ⟨hpass, hleft, hend⟩, hpk, hrun⟩ := resultPks_run h hE
  obtain ⟨hnd, hlent⟩ : ((List.zipWith handPk pks res).flatten ++ resEff leftId 0 upd').Nodup ∧ ∀ i ∈ (List.zipWith (lendsPk st) pks res).flatten, i ∉ (List.zipWith handPk pks res).flatten ++ resEff leftId 0 upd' := by
    simp only [endOk, Bool.and_eq_true, decide_eq_true_eq, List.all_eq_true, Bool.not_eq_true'] at hend
    refine ⟨hend.1, fun i hi hm => ?_⟩
    have := hend.2 i hi
    simp only [List.contains_eq_mem, decide_eq_false_iff_not] at this
    exact this hm
  obtain ⟨ha1, ha2⟩ := lvok_all hargs
  obtain ⟨hr1, hr15⟩ := lvokR_all hres
  have hr2 : ∀ v ∈ res, v.leaves.length ≤ 16 := fun v hv => Nat.le_trans (hr15 v hv) (by omega)
  have hfit := fits_gones hpass
  obtain ⟨hl1, hl2⟩ := leftK_length hleft ha2
  have hshp := shp_left hrep0 hleft
  obtain ⟨hh1, hh2, _⟩ := rowsAll_hand (k := 4096) hpk hpass hfit
  obtain ⟨hk1, hk2⟩ := rowsAll_keys (k := 4096) (ps := pks) (us := res.map gonesOf) (vs := vals) hr2
  obtain ⟨hk3, hk4⟩ := aAll_keys (k := 0) (ls := upd') (vs := vs) hl2
  have hrows := left_rows hrep0 hleft
  have hleafs : ∀ r ∈ aAll 0 upd' vs, ∀ c ∈ leftRow r, SVRep st W sh c.s c.v ∧ pass st c.s c.l ∧ fitLeaf c.s c.l c.u := by
    intro r hr c hc
    obtain ⟨l, m1, m2⟩ := hrows r hr
    have hpin : (r.k, r.v) ∈ cx.pins := by rw [hp]; exact List.mem_map.mpr ⟨_, m1, rfl⟩
    unfold leftRow at hc
    split at hc
    · rename_i w rows e
      simp only [List.mem_singleton] at hc
      subst hc
      rw [e] at m2
      cases l with
      | ow wa ra =>
        simp only [leftLeaf] at m2
        rcases hob : st.objs r.k with _ | ⟨w2, rows'⟩
        · simp only [hob] at m2
        · simp only [hob] at m2
          obtain ⟨rfl, rfl, rfl⟩ := m2
          have hμ := h.pinO r.k r.v hpin (by rw [hob]; simp)
          have hlen : (rst rows').length = rows'.length := by simp [rst]
          refine ⟨fun w' rows2 ho2 => ?_, ?_, trivial⟩
          · rw [hob] at ho2
            cases ho2
            refine ⟨rfl, by omega, .inl ?_⟩
            obtain ⟨A, cap, e1, e2, e3⟩ := own_shape h hob
            rw [hlen, e1, ← hμ, e1]
            rcases e3 with e3 | e3
            · have hz : rows'.length = 0 := by omega
              simp [viewOf, e3]
            · rw [viewOf_full e3]
          · simp only [pass, hob]
            exact ⟨trivial, trivial, trivial, hlen, trivial⟩
      | _ => exact m2.elim
    · rename_i fs e
      simp only [List.mem_singleton] at hc
      subst hc
      rw [e] at m2
      cases l with
      | op fa =>
        have hv : st.vars r.k = some (fs.map Fld.sv) := m2
        have hβ := h.pinV r.k r.v hpin (by rw [hv]; simp)
        exact ⟨fun _ _ => hβ, hv, trivial⟩
      | _ => exact m2.elim
    · cases hc
  have hR : Leaf0 st W sh (rowsAll 4096 pks res (res.map gonesOf) vals ++ (aAll 0 upd' vs).flatMap leftRow) := by
    refine ⟨fun r hr => ?_, ?_, ?_⟩
    · rcases List.mem_append.mp hr with hr | hr
      · exact rowsAll_rep hpk hpass hfit r hr
      · obtain ⟨r', m1, m2⟩ := List.mem_flatMap.mp hr
        exact hleafs r' m1 r m2
    · rw [List.map_append, List.nodup_append]
      refine ⟨hk2, hk4.sublist (leftRows_keys _), fun x hx y hy => ?_⟩
      obtain ⟨r, m1, rfl⟩ := List.mem_map.mp hx
      have := hk1 r m1
      obtain ⟨r', m1', rfl⟩ := List.mem_map.mp ((leftRows_keys _).subset hy)
      have := hk3 r' m1'
      omega
    · rw [List.flatMap_append, hh1, List.flatMap_assoc]
      simp only [leftRow_hand]
      rw [shp_eff leftId hshp]
      exact hnd
  have hhand : (rowsAll 4096 pks res (res.map gonesOf) vals ++ (aAll 0 upd' vs).flatMap leftRow).flatMap (fun r => handLeaf r.s r.l) = (List.zipWith handPk pks res).flatten ++ resEff leftId 0 upd' := by
    rw [List.flatMap_append, hh1, List.flatMap_assoc]
    simp only [leftRow_hand]
    rw [shp_eff leftId hshp]
  have hl : ∀ r ∈ rowsAll 4096 pks res (res.map gonesOf) vals ++ (aAll 0 upd' vs).flatMap leftRow, ∀ id ∈ lends st r.s r.l, true = true ∧ id ∉ (rowsAll 4096 pks res (res.map gonesOf) vals ++ (aAll 0 upd' vs).flatMap leftRow).flatMap fun r => handLeaf r.s r.l := by
    intro r hr id hid
    refine ⟨rfl, ?_⟩
    rw [hhand]
    rcases List.mem_append.mp hr with hr | hr
    · exact hlent id (by rw [← hh2]; exact List.mem_flatMap.mpr ⟨r, hr, hid⟩)
    · obtain ⟨r', _, m2⟩ := List.mem_flatMap.mp hr
      rw [leftRow_lends r' r m2] at hid
      cases hid
  have hleaf := h.leaf hR hl
  obtain ⟨v, hv1, hv2⟩ := results_run hr (by have := all2_length hrun; have := all2_length hpk; have := all2_length hpass; omega) hrun
  refine ⟨v, hv1, lcOf st W sh (rowsAll 4096 pks res (res.map gonesOf) vals ++ (aAll 0 upd' vs).flatMap leftRow) true, ?_, ?_, ?_⟩
  · have hlv := rowsAll_leaves hpk hpass hfit fun r hr => hleaf r (List.mem_append_left _ hr)
    have hlen : res.length = vals.length := by have := all2_length hpk; have := all2_length hpass; omega
    rcases hv2 with ⟨x, rfl, rfl⟩ | ⟨hne, rfl⟩
    · match res, hlv with
      | [lv], hlv => exact hlv.1
      | [], hlv => exact hlv.elim
      | _ :: _ :: _, hlv => exact hlv.2.elim
    · unfold ResRep
      split
      · simp at hlen; omega
      · exact ⟨_, rfl, hlv⟩
  · refine shp_rep hshp fun r hr => ?_
    rcases hrl : r.l with x | ⟨w, rows⟩ | ⟨w, rows⟩ | _ | fs | fs | ⟨f, caps⟩
    case gone => trivial
    case ow => exact hleaf ⟨r.k, .ref r.k w 0 rows.length, .ow w rows, .gone, r.v⟩ (List.mem_append_right _ (List.mem_flatMap.mpr ⟨r, hr, by simp [leftRow, hrl]⟩))
    case op => exact hleaf ⟨r.k, .vad r.k 0, .op fs, .gone, r.v⟩ (List.mem_append_right _ (List.mem_flatMap.mpr ⟨r, hr, by simp [leftRow, hrl]⟩))
    all_goals
      obtain ⟨l, _, m2⟩ := hrows r hr
      rw [hrl] at m2
      cases l <;> exact m2.elim
  · obtain ⟨h1, h2, h3, h4, h5, h6⟩ := h.ext
    refine ⟨h1, h2, h3, h4, fun b hb hl' => ?_, fun b hb => ?_⟩
    · obtain ⟨g1, g2⟩ := h5 b hb hl'
      refine ⟨?_, g2⟩
      simp only [lcOf]
      rcases hl' with e | e <;> rw [g1, e]
      · exact tr_imm
      · exact tr_far
    · simp only [lcOf]
      rw [h6 b hb]; exact tr_dead
end ends
end Go.Proofs.YtedciihjgbkjgacGreatDoor.A
