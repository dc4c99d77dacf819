/- THE ABSTRACT SEMANTICS IS SOUND, fourth part: loads, addresses, cuts and the like. Conditions: none. -/
import Derived.Test.YtkcbnbbbijlhcaiA7
namespace Go.Proofs.Ytkcbnbbbijlhcai.A
open Go
set_option linter.unusedSimpArgs false
set_option linter.unusedVariables false

section load
variable {P : Program} {cx : Cx} {st : St} {sh : Sh} {a : Act} {W : World} {Fr : Nat → Prop} {nid : Nat} {o : Oper} {K : Eff → Prop} {Q : Exit → Act → World → Prop}

theorem imSl_lift {lab : Nat → Lab} {xs : List Value} {v : Value} (h : ImSl W lab xs v) : ImRep W lab 1 (lift xs) v := by
  obtain ⟨A, cap, e, hl, hc⟩ := h
  refine ⟨A, cap, by rw [lift_length]; exact e, by rw [lift_length]; exact hl, ?_, fun hne => ⟨by omega, ?_⟩⟩
  · intro r hr
    simp only [lift, List.mem_map] at hr
    obtain ⟨x, _, rfl⟩ := hr
    rfl
  · have hne' : xs ≠ [] := by intro e; rw [e] at hne; exact hne rfl
    obtain ⟨b, o, e1, e2, e3⟩ := hc hne'
    refine ⟨b, o, e1, e2, fun i r hi j c hj => ?_⟩
    simp only [lift, List.getElem?_map, Option.map_eq_some_iff] at hi
    obtain ⟨x, hx, rfl⟩ := hi
    cases j with
    | zero =>
      simp at hj; subst hj
      exact ⟨x, by simpa using (e3 i x hx).2, rfl, (e3 i x hx).1⟩
    | succ j => simp at hj
theorem viewOf_full {A : Option Addr} {n cap w : Nat} (hA : ∀ a, A = some a → a.spot = none) : viewOf (.slice A n cap) w 0 n = .slice A n cap := by
  simp only [viewOf, Nat.zero_mul, Nat.sub_zero]
  congr 1
  split
  · rfl
  · cases A <;> simp [Addr.add]
theorem ownSl_view {lab : Nat → Lab} {L : Lab} {xs : List Value} {v : Value} (h : OwnSl W lab L xs v) : v = viewOf v 1 0 xs.length := by
  rcases h with ⟨A, e, hn⟩ | ⟨b, cap, c, t, e, _⟩
  · subst e; subst hn
    simp [viewOf]
  · subst e; rw [viewOf_full]; intro a ha; cases ha; rfl
/-- A cell of an outer slice, as a value. -/
theorem InvS.cell_sv (h : InvS cx st sh a W Fr) {id w : Nat} {rows : Rows} (ho : st.objs id = some (w, rows)) {i j : Nat} {r : List Cell} {c : Cell} (hi : rows[i]? = some r) (hj : r[j]? = some c) {b n cap : Nat} {v : Value}
    (hμ : sh.μ id = .slice (some ⟨b, 0, none⟩) n cap) (hv : W.cell? ⟨b, i * w + j, none⟩ = some v) (hc : OwnCell W sh.lab (.inn id i j) c v) : SVRep st W sh (c.sv id i j) v := by
  cases c with
  | sc x => exact hc.1
  | gone => exact trivial
  | sl s xs => cases s with
    | zero => exact imSl_lift hc
    | succ s =>
      refine ⟨by omega, fun w' rows' xs' ho' hc' => ?_⟩
      rw [ho] at ho'; cases ho'
      have e : Rows.cell rows i j = .sl (s + 1) xs := by simp [Rows.cell, List.getD_eq_getElem?_getD, hi, hj]
      rw [e] at hc'; cases hc'
      exact ⟨by omega, by omega, v, by simp only [headAt, hμ]; exact hv, .inl (ownSl_view hc)⟩
theorem svs_get (id i : Nat) : ∀ (row : List Cell) (j k : Nat), (svs id i j row)[k]? = (row[k]?).map fun c => c.sv id i (j + k)
  | [], _, _ => by simp [svs]
  | c :: r, j, 0 => by simp [svs]
  | c :: r, j, k + 1 => by simp [svs, svs_get id i r (j + 1) k]; congr 1; funext c; congr 1; omega
theorem svs_length (id i : Nat) : ∀ (row : List Cell) (j : Nat), (svs id i j row).length = row.length
  | [], _ => rfl
  | c :: r, j => by simp [svs, svs_length id i r (j + 1)]

theorem run_loadAt {t : TypeId} {b o : Nat} {r : Result Value} (h : (loadVar t ⟨b, o, none⟩).run P W = r) : (Instr.loadAt t (.pointer (some ⟨b, o, none⟩))).run P W = r := by
  simp only [Instr.loadAt, Instr.sureAddr]
  exact h
/-- Cells that read so, one after another. -/
theorem load_cells {t : TypeId} {n : Option Nat} (ht : aggOf P t = some n) {b off : Nat} {xs : List SV} {vs : List Value} (hx : All2 (SVRep st W sh) xs vs) (hv : ∀ (j : Nat) (v : Value), vs[j]? = some v → W.cell? ⟨b, off + j, none⟩ = some v) :
    (∀ m, n = some m → ∀ j, j + m ≤ xs.length → ∃ v, (Instr.loadAt t (.pointer (some ⟨b, off + j, none⟩))).run P W = .ok v W ∧ AVRep st W sh (.agg ((xs.drop j).take m)) v) ∧
    (n = none → ∀ j, j < xs.length → ∃ v, (Instr.loadAt t (.pointer (some ⟨b, off + j, none⟩))).run P W = .ok v W ∧ AVRep st W sh (.one (xs.getD j .un)) v) := by
  have hlen := all2_length hx
  constructor
  · rintro m rfl j hj
    have hl : ((vs.drop j).take m).length = m := by simp; omega
    refine ⟨.agg ((vs.drop j).take m).toArray, run_loadAt (run_loadn ht hl fun k v hk => ?_), ((vs.drop j).take m).toArray, rfl, all2_take m (all2_drop j hx)⟩
    rw [List.getElem?_take] at hk
    split at hk
    · rw [List.getElem?_drop] at hk
      rw [show off + j + k = off + (j + k) by omega]
      exact hv (j + k) v hk
    · cases hk
  · rintro rfl j hj
    obtain ⟨v, h1, h2⟩ := all2_get hx (List.getElem?_eq_getElem hj)
    refine ⟨v, run_loadAt (run_load1 ht (hv j v h1)), ?_⟩
    rw [List.getD_eq_getElem?_getD, List.getElem?_eq_getElem hj]
    exact h2
theorem imCell_isv {c : Cell} {v : Value} (h : ImCell W sh.lab c v) : SVRep st W sh c.isv v := by
  cases c with
  | sc x => exact h.1
  | sl s xs => exact imSl_lift h
  | gone => exact trivial
theorem fld_sv {f : Fld} {v : Value} (h : FldRep W sh.lab f v) : SVRep st W sh f.sv v := by
  cases f with
  | sc x => exact h
  | im w rows => exact h
theorem agg_ids {xs : List SV} {id : Nat} (h : id ∈ (AV.agg xs).ids) : ∃ s ∈ xs, id ∈ s.ids := by
  simpa [AV.ids, AV.svs, Pk.svs] using h
theorem one_ids {s : SV} {id : Nat} : id ∈ (AV.one s).ids ↔ id ∈ s.ids := by
  simp [AV.ids, AV.svs, Pk.svs]
theorem isv_ids (c : Cell) (id : Nat) : id ∉ c.isv.ids := by cases c <;> simp [Cell.isv, SV.ids]
theorem fsv_ids (c : Fld) (id : Nat) : id ∉ c.sv.ids := by cases c <;> simp [Fld.sv, SV.ids]

theorem InvS.svs_ids (h : InvS cx st sh a W Fr) {id w : Nat} {rows : Rows} (ho : st.objs id = some (w, rows)) {i : Nat} {r : List Cell} {f : Nat} (hf : Fr f) (hi : rows[i]? = some r) :
    ∀ s ∈ svs id i 0 r, f ∉ s.ids := by
  intro s hs hm
  obtain ⟨k, hk⟩ := List.getElem?_of_mem hs
  rw [svs_get] at hk
  simp only [Option.map_eq_some_iff, Nat.zero_add] at hk
  obtain ⟨c, hc, rfl⟩ := hk
  have hne : id ≠ f := by rintro rfl; rw [(h.fresh id hf).2.1] at ho; cases ho
  have e : Rows.cell rows i k = c := by simp [Rows.cell, List.getD_eq_getElem?_getD, hi, hc]
  cases c with
  | sc x => simp [Cell.sv, SV.ids] at hm
  | gone => simp [Cell.sv, SV.ids] at hm
  | sl q xs => cases q with
    | zero => simp [Cell.sv, SV.ids] at hm
    | succ q =>
      simp only [Cell.sv, SV.ids, List.mem_cons, List.not_mem_nil, or_false] at hm
      rcases hm with rfl | rfl
      · exact hne rfl
      · exact h.stamps id w rows i k _ xs ho e hf

theorem good_load (h : InvS cx st sh a W Fr) (hd : ∀ d', o.dst = some d' → d' < cx.n) {t : TypeId} {x : Operand} (ho : o.op = .load t x) {n : Option Nat} (ht : aggOf P t = some n) {s : SV} (hx : st.ev x = .one s)
    (hK : loadK st s n fun v => K ⟨v, [], []⟩) : Good P cx st Fr nid o a W K Q := by
  have ex := h.ev x
  rw [hx] at ex
  have ex : SVRep st W sh s (a.eval x) := ex
  have key : ∃ av v, K ⟨av, [], []⟩ ∧ (Instr.loadAt t (a.eval x)).run P W = .ok v W ∧ AVRep st W sh av v ∧ ∀ id, Fr id → id ∉ av.ids := by
    cases s with
    | vad id j =>
      simp only [loadK] at hK
      rcases hf : st.vars id with _ | fs
      · rw [hf] at hK; exact hK.elim
      · rw [hf] at hK
        have e := ex fs hf
        obtain ⟨_, c, tt, h2, h3⟩ := h.vars id fs hf
        have hc : ∀ (j : Nat) (v : Value), c.toList[j]? = some v → W.cell? ⟨sh.β id, 0 + j, none⟩ = some v := fun j v hj => by
          rw [cell_cells h2, Nat.zero_add]; simpa using hj
        obtain ⟨L1, L2⟩ := load_cells (P := P) ht h3 hc
        rw [e]
        cases n with
        | none =>
          obtain ⟨v, g1, g2⟩ := L2 rfl j hK.1
          rw [Nat.zero_add] at g1
          refine ⟨_, v, hK.2, g1, g2, fun f hf' => ?_⟩
          rw [one_ids, List.getD_eq_getElem?_getD, List.getElem?_eq_getElem hK.1]
          exact (h.fresh f hf').2.2.2 id fs hf _ (by simp)
        | some m =>
          obtain ⟨v, g1, g2⟩ := L1 m rfl j hK.1
          rw [Nat.zero_add] at g1
          refine ⟨_, v, hK.2, g1, g2, fun f hf' hm => ?_⟩
          obtain ⟨s', m1, m2⟩ := agg_ids hm
          exact (h.fresh f hf').2.2.2 id fs hf s' (List.mem_of_mem_drop (List.mem_of_mem_take m1)) m2
    | oad id i j =>
      simp only [loadK] at hK
      rcases hf : st.objs id with _ | ⟨w, rows⟩
      · rw [hf] at hK; exact hK.elim
      · rw [hf] at hK
        have hi : i < rows.length := by cases n <;> exact hK.1
        obtain ⟨b, nn, cap, e1, e2⟩ := ex w rows hf hi
        have hrow : rows.getD i [] = rows[i] := by rw [List.getD_eq_getElem?_getD, List.getElem?_eq_getElem hi]; rfl
        have hi' : rows[i]? = some rows[i] := List.getElem?_eq_getElem hi
        obtain ⟨_, hrl, hcs⟩ := h.objs id w rows hf
        rcases hcs with ⟨A, _, hn⟩ | ⟨b', cap', c', t', k1, _, k3, k4, k5, k6⟩
        · subst hn; simp at hi
        · rw [e1] at k1; cases k1
          have hvs : ∃ vs : List Value, All2 (SVRep st W sh) (svs id i 0 rows[i]) vs ∧ ∀ (j : Nat) (v : Value), vs[j]? = some v → W.cell? ⟨b, i * w + j, none⟩ = some v := by
            refine ⟨(List.range rows[i].length).map fun j => (W.cell? ⟨b, i * w + j, none⟩).getD undef, all2_of_get (by simp [svs_length]) ?_, ?_⟩
            · intro k s v hk hv
              rw [svs_get] at hk
              simp only [Option.map_eq_some_iff, Nat.zero_add] at hk
              obtain ⟨c, hc, rfl⟩ := hk
              have hkl : k < rows[i].length := (List.getElem?_eq_some_iff.mp hc).1
              simp only [List.getElem?_map, List.getElem?_range hkl, Option.map_some, Option.some.injEq] at hv
              obtain ⟨v', g1, g2⟩ := k6 i k _ c hi' hc
              rw [← cell_cells (W := W) k4] at g1
              rw [g1] at hv
              simp only [Option.getD_some] at hv
              subst hv
              exact h.cell_sv hf hi' hc e1 g1 g2
            · intro j v hj
              by_cases hl : j < rows[i].length
              · simp only [List.getElem?_map, List.getElem?_range hl, Option.map_some, Option.some.injEq] at hj
                obtain ⟨v', g1, _⟩ := k6 i j _ _ hi' (List.getElem?_eq_getElem hl)
                rw [← cell_cells (W := W) k4] at g1
                rw [g1] at hj ⊢
                simp only [Option.getD_some] at hj
                rw [hj]
              · rw [List.getElem?_eq_none (by simp; omega)] at hj; cases hj
          obtain ⟨vs, hvs1, hvs2⟩ := hvs
          obtain ⟨L1, L2⟩ := load_cells (P := P) ht hvs1 hvs2
          rw [e2]
          have hids : ∀ f, Fr f → ∀ s ∈ svs id i 0 rows[i], f ∉ s.ids := fun f hf' => h.svs_ids hf hf' hi'
          cases n with
          | none =>
            simp only [hrow] at hK
            have hj : j < (svs id i 0 rows[i]).length := by rw [svs_length]; exact hK.2.1
            obtain ⟨v, g1, g2⟩ := L2 rfl j hj
            have e : (svs id i 0 rows[i]).getD j .un = (Rows.cell rows i j).sv id i j := by
              rw [List.getD_eq_getElem?_getD, svs_get]
              simp only [Rows.cell, hrow, Nat.zero_add, List.getD_eq_getElem?_getD, List.getElem?_eq_getElem hK.2.1, Option.map_some, Option.getD_some]
            rw [e] at g2
            refine ⟨_, v, hK.2.2, by simpa using g1, g2, fun f hf' => ?_⟩
            rw [one_ids, ← e, List.getD_eq_getElem?_getD, List.getElem?_eq_getElem hj]
            exact hids f hf' _ (by simp)
          | some m =>
            simp only [hrow] at hK
            obtain ⟨v, g1, g2⟩ := L1 m rfl j (by rw [svs_length]; exact hK.2.1)
            refine ⟨_, v, hK.2.2, by simpa using g1, g2, fun f hf' hm => ?_⟩
            obtain ⟨s', m1, m2⟩ := agg_ids hm
            exact hids f hf' s' (List.mem_of_mem_drop (List.mem_of_mem_take m1)) m2
    | oin id i j s k =>
      simp only [loadK] at hK
      rcases hf : st.objs id with _ | ⟨w, rows⟩
      · rw [hf] at hK; exact hK.elim
      · rw [hf] at hK
        simp only at hK
        rcases hc : Rows.cell rows i j with _ | ⟨s', xs⟩ | _
        · rw [hc] at hK; exact hK.elim
        · rw [hc] at hK
          obtain ⟨rfl, rfl, hk, hK⟩ := hK
          obtain ⟨g0, b, nn, cap, g1, g2⟩ := ex.2 w rows xs hf hc hk
          obtain ⟨v', k1, k2⟩ := h.own_head hf hc g0
          rw [g1] at k1; cases k1
          rcases k2 with ⟨A, e, hn⟩ | ⟨b', cap', c', t', e, _, _, e4, _, e6⟩
          · subst hn; simp at hk
          · cases e
            have hcell : W.cell? ⟨b, k, none⟩ = some xs[k] := by
              rw [cell_cells e4]; exact (e6 k _ (List.getElem?_eq_getElem hk)).2
            refine ⟨_, xs[k], hK, by rw [g2]; exact run_loadAt (run_load1 ht hcell), ?_, fun id _ => sc_ids _ id⟩
            show _ = _
            rw [List.getD_eq_getElem?_getD, List.getElem?_eq_getElem hk]; rfl
        · rw [hc] at hK; exact hK.elim
    | iad row j =>
      obtain ⟨b, off, e, hl, hr⟩ := ex
      simp only [loadK] at hK
      have hvs : ∃ vs : List Value, All2 (SVRep st W sh) (row.map Cell.isv) vs ∧ ∀ (j : Nat) (v : Value), vs[j]? = some v → W.cell? ⟨b, off + j, none⟩ = some v := by
        refine ⟨(List.range row.length).map fun j => (W.cell? ⟨b, off + j, none⟩).getD undef, all2_of_get (by simp) ?_, ?_⟩
        · intro k s v hk hv
          simp only [List.getElem?_map, Option.map_eq_some_iff] at hk
          obtain ⟨c, hc, rfl⟩ := hk
          have hkl : k < row.length := (List.getElem?_eq_some_iff.mp hc).1
          simp only [List.getElem?_map, List.getElem?_range hkl, Option.map_some, Option.some.injEq] at hv
          obtain ⟨v', g1, g2⟩ := hr k c hc
          rw [g1] at hv
          simp only [Option.getD_some] at hv
          subst hv
          exact imCell_isv g2
        · intro j v hj
          by_cases hl : j < row.length
          · simp only [List.getElem?_map, List.getElem?_range hl, Option.map_some, Option.some.injEq] at hj
            obtain ⟨v', g1, _⟩ := hr j _ (List.getElem?_eq_getElem hl)
            rw [g1] at hj ⊢
            simp only [Option.getD_some] at hj
            rw [hj]
          · rw [List.getElem?_eq_none (by simp; omega)] at hj; cases hj
      obtain ⟨vs, hvs1, hvs2⟩ := hvs
      obtain ⟨L1, L2⟩ := load_cells (P := P) ht hvs1 hvs2
      rw [e]
      cases n with
      | none =>
        obtain ⟨v, g1, g2⟩ := L2 rfl j (by simpa using hK.1)
        have e' : (row.map Cell.isv).getD j .un = (row.getD j .gone).isv := by
          simp only [List.getD_eq_getElem?_getD, List.getElem?_map, List.getElem?_eq_getElem hK.1, Option.map_some, Option.getD_some]
        rw [e'] at g2
        exact ⟨_, v, hK.2, g1, g2, fun f _ hm => isv_ids _ f (one_ids.mp hm)⟩
      | some m =>
        obtain ⟨v, g1, g2⟩ := L1 m rfl j (by simpa using hK.1)
        refine ⟨_, v, hK.2, g1, g2, fun f _ hm => ?_⟩
        obtain ⟨s', m1, m2⟩ := agg_ids hm
        obtain ⟨c, _, rfl⟩ := List.mem_map.mp (List.mem_of_mem_drop (List.mem_of_mem_take m1))
        exact isv_ids c f m2
    | ipt fs j =>
      obtain ⟨b, off, e, hl, hr⟩ := ex
      simp only [loadK] at hK
      have hvs : ∃ vs : List Value, All2 (SVRep st W sh) (fs.map Fld.sv) vs ∧ ∀ (j : Nat) (v : Value), vs[j]? = some v → W.cell? ⟨b, off + j, none⟩ = some v := by
        refine ⟨(List.range fs.length).map fun j => (W.cell? ⟨b, off + j, none⟩).getD undef, all2_of_get (by simp) ?_, ?_⟩
        · intro k s v hk hv
          simp only [List.getElem?_map, Option.map_eq_some_iff] at hk
          obtain ⟨c, hc, rfl⟩ := hk
          have hkl : k < fs.length := (List.getElem?_eq_some_iff.mp hc).1
          simp only [List.getElem?_map, List.getElem?_range hkl, Option.map_some, Option.some.injEq] at hv
          obtain ⟨v', g1, g2⟩ := hr k c hc
          rw [g1] at hv
          simp only [Option.getD_some] at hv
          subst hv
          exact fld_sv g2
        · intro j v hj
          by_cases hl : j < fs.length
          · simp only [List.getElem?_map, List.getElem?_range hl, Option.map_some, Option.some.injEq] at hj
            obtain ⟨v', g1, _⟩ := hr j _ (List.getElem?_eq_getElem hl)
            rw [g1] at hj ⊢
            simp only [Option.getD_some] at hj
            rw [hj]
          · rw [List.getElem?_eq_none (by simp; omega)] at hj; cases hj
      obtain ⟨vs, hvs1, hvs2⟩ := hvs
      obtain ⟨L1, L2⟩ := load_cells (P := P) ht hvs1 hvs2
      rw [e]
      cases n with
      | none =>
        obtain ⟨v, g1, g2⟩ := L2 rfl j (by simpa using hK.1)
        refine ⟨_, v, hK.2, g1, g2, fun f _ hm => ?_⟩
        rw [one_ids, List.getD_eq_getElem?_getD, List.getElem?_map, List.getElem?_eq_getElem hK.1] at hm
        exact fsv_ids _ f hm
      | some m =>
        obtain ⟨v, g1, g2⟩ := L1 m rfl j (by simpa using hK.1)
        refine ⟨_, v, hK.2, g1, g2, fun f _ hm => ?_⟩
        obtain ⟨s', m1, m2⟩ := agg_ids hm
        obtain ⟨c, _, rfl⟩ := List.mem_map.mp (List.mem_of_mem_drop (List.mem_of_mem_take m1))
        exact fsv_ids c f m2
    | _ => exact hK.elim
  obtain ⟨av, v, h1, h2, h3, h4⟩ := key
  exact good_v h hd (s := Instr.loadAt t (a.eval x)) (by simp [execOp, ho]) h2 h3 h4 h1
end load
end Go.Proofs.Ytkcbnbbbijlhcai.A
