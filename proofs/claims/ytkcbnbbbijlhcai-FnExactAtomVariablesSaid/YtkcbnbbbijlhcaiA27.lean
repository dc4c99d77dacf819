/- THE ABSTRACT SEMANTICS IS SOUND, twenty-third part: calls. Conditions: none. -/
import Derived.Test.YtkcbnbbbijlhcaiA26
namespace Go.Proofs.Ytkcbnbbbijlhcai.A
open Go
set_option linter.unusedSimpArgs false
set_option linter.unusedVariables false

section call
variable {P : Program} {cx : Cx} {st : St} {sh : Sh} {a : Act} {W : World} {Fr : Nat → Prop} {nid : Nat} {o : Oper} {K : Eff → Prop} {Q : Exit → Act → World → Prop}

theorem lvok_all {l : List LV} {n : Nat} (h : LVok l n = true) : l.length ≤ n ∧ ∀ v ∈ l, v.leaves.length ≤ 16 := by
  simp only [LVok, Bool.and_eq_true, decide_eq_true_eq, List.all_eq_true] at h
  exact h
theorem callOk_all {handed lent : List Nat} {res upd : List LV} (h : callOk handed lent res upd = true) : (∀ i ∈ lent, i ∉ handed) ∧ ((!lent.isEmpty) = true → res.all LV.still = true ∧ upd.all LV.still = true) := by
  simp only [callOk, Bool.and_eq_true, List.all_eq_true, Bool.or_eq_true] at h
  obtain ⟨h1, h2⟩ := h
  refine ⟨fun i hi hm => ?_, fun hl => ?_⟩
  · have := h1 i hi
    simp [hm] at this
  · rcases h2 with h2 | h2
    · rw [h2] at hl; cases hl
    · exact ⟨List.all_eq_true.mpr h2.1, List.all_eq_true.mpr h2.2⟩
theorem all_still : ∀ {k : Nat} {ps : List Pk} {ls us : List LV} {vs : List Value}, us.all LV.still = true → ∀ r ∈ rowsAll k ps ls us vs, r.u.still = true
  | k, p :: ps, l :: ls, u :: us, v :: vs, h, r, hr => by
    simp only [List.all_cons, Bool.and_eq_true] at h
    simp only [rowsAll, List.mem_append] at hr
    rcases hr with hr | hr
    · have key : ∀ {k : Nat} {ss : List SV} {ls us : List Leaf} {vs : List Value}, us.all Leaf.still = true → ∀ r ∈ rowsLs k ss ls us vs, r.u.still = true := by
        intro k ss
        induction ss generalizing k with
        | nil => intro ls us vs _ r hr; simp [rowsLs] at hr
        | cons s ss ih =>
          intro ls us vs hu r hr
          cases ls with
          | nil => simp [rowsLs] at hr
          | cons l ls => cases us with
            | nil => simp [rowsLs] at hr
            | cons u us => cases vs with
              | nil => simp [rowsLs] at hr
              | cons v vs =>
                simp only [List.all_cons, Bool.and_eq_true] at hu
                simp only [rowsLs, List.mem_cons] at hr
                rcases hr with rfl | hr
                · exact hu.1
                · exact ih hu.2 r hr
      unfold rowsPk at hr
      split at hr
      · simp only [List.mem_singleton] at hr
        subst hr
        have := h.1
        simpa [LV.still, LV.leaves] using this
      · exact key h.1 r hr
      · cases hr
    · exact all_still h.2 r hr
  | _, [], _, _, _, _, r, hr => by simp [rowsAll] at hr
  | _, _ :: _, [], _, _, _, r, hr => by simp [rowsAll] at hr
  | _, _ :: _, _ :: _, [], _, _, r, hr => by simp [rowsAll] at hr
  | _, _ :: _, _ :: _, _ :: _, [], _, r, hr => by simp [rowsAll] at hr
theorem rows_mem : ∀ {k : Nat} {ps : List Pk} {ls us : List LV} {vs : List Value}, ∀ r ∈ rowsAll k ps ls us vs, ∃ p ∈ ps, r.s ∈ p.svs
  | k, p :: ps, l :: ls, u :: us, v :: vs, r, hr => by
    simp only [rowsAll, List.mem_append] at hr
    rcases hr with hr | hr
    · have key : ∀ {k : Nat} {ss : List SV} {ls us : List Leaf} {vs : List Value}, ∀ r ∈ rowsLs k ss ls us vs, r.s ∈ ss := by
        intro k ss
        induction ss generalizing k with
        | nil => intro ls us vs r hr; simp [rowsLs] at hr
        | cons s ss ih =>
          intro ls us vs r hr
          cases ls with
          | nil => simp [rowsLs] at hr
          | cons l ls => cases us with
            | nil => simp [rowsLs] at hr
            | cons u us => cases vs with
              | nil => simp [rowsLs] at hr
              | cons v vs =>
                simp only [rowsLs, List.mem_cons] at hr
                rcases hr with rfl | hr
                · simp
                · simp [ih r hr]
      refine ⟨p, by simp, ?_⟩
      unfold rowsPk at hr
      split at hr
      · simp only [List.mem_singleton] at hr
        subst hr
        simp [Pk.svs]
      · exact key r hr
      · cases hr
    · obtain ⟨p', m, h⟩ := rows_mem r hr
      exact ⟨p', by simp [m], h⟩
  | _, [], _, _, _, r, hr => by simp [rowsAll] at hr
  | _, _ :: _, [], _, _, r, hr => by simp [rowsAll] at hr
  | _, _ :: _, _ :: _, [], _, r, hr => by simp [rowsAll] at hr
  | _, _ :: _, _ :: _, _ :: _, [], r, hr => by simp [rowsAll] at hr
theorem ids'_ids {s : SV} {q : Nat} (h : q ∈ s.ids') : q ∈ s.ids := by
  cases s <;> simp [SV.ids', SV.ids] at h ⊢ <;> simp [h]

theorem good_callK (h : InvS cx st sh a W Fr) (hd : ∀ d', o.dst = some d' → d' < cx.n) (hnid : ∀ k, k < 64 → Fr (nid + k)) (hpins : ∀ q ∈ cx.pins, q.1 < 1000) {g : FuncId} {pks : List Pk} {vs : List Value} (hpk : All2 (PkRep st W sh) pks vs) (hids : ∀ p ∈ pks, ∀ s ∈ p.svs, ∀ q ∈ s.ids, ¬ Fr q)
    (hrun : (execOp a.eval o).run P W = (callFunc g vs.toArray).run P W) (hK : callK P st nid g pks K) : Good P cx st Fr nid o a W K Q := by
  obtain ⟨args, res, upd', hsat, hpass, hok, hnd, hfit, hK⟩ := hK
  obtain ⟨hargs, hres, hsat⟩ := hsat
  obtain ⟨ha1, ha2⟩ := lvok_all hargs
  obtain ⟨hr1, hr2⟩ := lvok_all hres
  obtain ⟨hh1, hh2, hh3⟩ := rowsAll_hand (k := 0) hpk hpass hfit
  obtain ⟨hk1, hk2⟩ := rowsAll_keys (k := 0) (ps := pks) (us := upd') (vs := vs) ha2
  have hR : Leafs st W sh (rowsAll 0 pks args upd' vs) := by
    refine ⟨⟨rowsAll_rep hpk hpass hfit, hk2, by rw [hh1]; exact hnd⟩, fun r hr => ?_⟩
    have := hk1 r hr
    omega
  obtain ⟨ho1, ho2⟩ := callOk_all hok
  have hl : ∀ r ∈ rowsAll 0 pks args upd' vs, ∀ id ∈ lends st r.s r.l, (!(List.zipWith (lendsPk st) pks args).flatten.isEmpty) = true ∧ id ∉ (rowsAll 0 pks args upd' vs).flatMap fun r => handLeaf r.s r.l := by
    intro r hr id hid
    have hm : id ∈ (List.zipWith (lendsPk st) pks args).flatten := by
      rw [← hh2]; exact List.mem_flatMap.mpr ⟨r, hr, hid⟩
    refine ⟨?_, by rw [hh1]; exact ho1 id hm⟩
    rcases hz : (List.zipWith (lendsPk st) pks args).flatten with _ | ⟨y, ys⟩
    · rw [hz] at hm; cases hm
    · rfl
  have hleaf := rowsAll_leaves hpk hpass hfit (h.leaf hR.toLeaf0 hl)
  have hcall := hsat W (lcOf st W sh (rowsAll 0 pks args upd' vs) (!(List.zipWith (lendsPk st) pks args).flatten.isEmpty)) vs (fun b hb => by simp only [lcOf]; rw [h.ext.dead b hb]; exact tr_dead) hleaf
  have hF63 := hnid 63 (by omega)
  have key : ∀ v W', (∃ lab', ResRep W' lab' res v ∧ LVsRep W' lab' 0 upd' vs ∧ Ext W (lcOf st W sh (rowsAll 0 pks args upd' vs) (!(List.zipWith (lendsPk st) pks args).flatten.isEmpty)) W' lab') →
      ∃ e sh', K e ∧ InvS cx (st.app o.dst e) sh' (a.put o.dst v) W' (fun id => Fr id ∧ ¬ (nid ≤ id ∧ id < nid + 64)) := by
    rintro v W' ⟨lab', hresr, hupd, hext⟩
    have hback := rowsAll_back (k := 0) hupd hpass hfit
    have hstill : (!(List.zipWith (lendsPk st) pks args).flatten.isEmpty) = false ∨ ∀ r ∈ rowsAll 0 pks args upd' vs, r.u.still = true := by
      by_cases e : (!(List.zipWith (lendsPk st) pks args).flatten.isEmpty) = true
      · exact .inr (all_still (ho2 e).2)
      · exact .inl (by simpa using e)
    have h1 := h.after hpins hR (n := nid + 63) hF63 (fun r hr q hq => by
      obtain ⟨p, m1, m2⟩ := rows_mem r hr
      exact hids p m1 _ m2 q (ids'_ids hq)) hext hback hstill nid (Fr' := fun q => Fr q ∧ q ≠ nid + 63) (fun q hq => hq)
    rw [hh3 updLeafV, hh3 (updLeafO (nid + 63) st)] at h1
    have hb : Back ⟨labOf st W sh (rowsAll 0 pks args upd' vs) (!(List.zipWith (lendsPk st) pks args).flatten.isEmpty) nid lab', sh.μ, sh.β⟩ lab' nid (!(List.zipWith (lendsPk st) pks args).flatten.isEmpty) :=
      ⟨fun b m hm ho => hR.lab_new h hext (by omega) ho, fun e b hb => hR.lab_imm hext e b hb⟩
    have fin : ∀ {sh' : Sh} {av : AV}, AVRep ⟨st.slots, upd (upd st.vars (zip3 (updPk updLeafV) pks args upd')) (resEff resLeafV nid res), upd (upd st.objs (zip3 (updPk (updLeafO (nid + 63) st)) pks args upd')) (resEff resLeafO nid res), st.next⟩ W' sh' av v → (∀ q ∈ av.ids, nid ≤ q ∧ q < nid + 64) → av = resAV nid res →
        InvS cx ⟨st.slots, upd (upd st.vars (zip3 (updPk updLeafV) pks args upd')) (resEff resLeafV nid res), upd (upd st.objs (zip3 (updPk (updLeafO (nid + 63) st)) pks args upd')) (resEff resLeafO nid res), st.next⟩ sh' a W' (fun id => Fr id ∧ ¬ (nid ≤ id ∧ id < nid + 64)) →
        ∃ e sh', K e ∧ InvS cx (st.app o.dst e) sh' (a.put o.dst v) W' (fun id => Fr id ∧ ¬ (nid ≤ id ∧ id < nid + 64)) := by
      rintro sh' av hav hid rfl hinv
      refine ⟨_, sh', hK, ?_⟩
      have := InvS.put hinv hd hav (fun q hq hm => hq.2 (hid q hm))
      simp only [← upd_append] at this
      exact this
    by_cases hone : ∃ r, res = [r]
    · obtain ⟨r, rfl⟩ := hone
      have hlv : LVRep W' lab' 4096 r v := hresr
      obtain ⟨sh', e, i, p, kk, d⟩ := InvS.addPk (lab' := lab') (k := 4096) (id := nid) hpins h1 hb (by omega) (by omega) (fun j hj => ⟨hnid j (by omega), by omega⟩) (hr2 r (by simp)) hlv (fun e => by have := (ho2 e).1; simpa using this)
      have e1 : leavesEff resLeafV nid r.leaves = resEff resLeafV nid [r] := by simp [resEff]
      have e2 : leavesEff resLeafO nid r.leaves = resEff resLeafO nid [r] := by simp [resEff]
      rw [e1, e2] at i p
      refine fin (av := .pk (resPk nid r)) p (fun q hq => ?_) rfl (i.less fun q hq => ⟨⟨hq.1, by omega⟩, by omega⟩)
      obtain ⟨s, m1, m2⟩ := List.mem_flatMap.mp hq
      have := d s m1 q m2
      omega
    · have hrr : ∃ vs' : Array Value, v = .tuple vs' ∧ LVsRep W' lab' 4096 res vs'.toList := by
        unfold ResRep at hresr
        split at hresr
        · exact absurd ⟨_, rfl⟩ hone
        · exact hresr
      obtain ⟨vs', rfl, hlv⟩ := hrr
      obtain ⟨sh', e, i, p, kk, d⟩ := InvS.addPks (lab' := lab') (k := 4096) (id := nid) hpins h1 hb (by omega) (by omega) (fun j hj => ⟨hnid j (by omega), by omega⟩) hr2 hlv (fun e => (ho2 e).1)
      refine fin (av := .tup (resPks nid res)) ⟨vs', rfl, p⟩ (fun q hq => ?_) ?_ (i.less fun q hq => ⟨⟨hq.1, by omega⟩, by omega⟩)
      · simp only [AV.ids, AV.svs, List.mem_flatMap] at hq
        obtain ⟨s, ⟨p', m1, m2⟩, m3⟩ := hq
        have := d p' m1 s m2 q m3
        omega
      · unfold resAV
        split
        · exact absurd ⟨_, rfl⟩ hone
        · rfl
  unfold Good Oper.wp
  rw [hrun]
  unfold CallF at hcall
  rcases hc : (callFunc g vs.toArray).run P W with ⟨nx, W1⟩ | _ | _
  · rw [hc] at hcall
    cases nx with
    | value v => exact key v W1 hcall
    | enter g' as =>
      rw [Oper.upon_enter]
      refine Calls.mono hcall ?_
      rintro e W2 ⟨v, rfl, hv⟩
      exact key v W2 hv
    | _ => exact hcall.elim
  all_goals (rw [hc] at hcall; exact hcall.elim)
end call
end Go.Proofs.Ytkcbnbbbijlhcai.A
