/- THE ABSTRACT SEMANTICS IS SOUND, sixteenth part: stores into inner slices. Conditions: none. -/
import Derived.Test.YtkcbnbbbijlhcaiA19
namespace Go.Proofs.Ytkcbnbbbijlhcai.A
open Go
set_option linter.unusedSimpArgs false
set_option linter.unusedVariables false

section store
variable {P : Program} {cx : Cx} {st : St} {sh : Sh} {a : Act} {W : World} {Fr : Nat → Prop} {nid : Nat} {o : Oper} {K : Eff → Prop} {Q : Exit → Act → World → Prop}

theorem setCell_get {rows : Rows} {i j : Nat} {c : Cell} {p q : Nat} {r : List Cell} {x : Cell} (hp : (Rows.setCell rows i j c)[p]? = some r) (hq : r[q]? = some x) :
    (p = i ∧ q = j ∧ x = c) ∨ (¬ (p = i ∧ q = j) ∧ ∃ r0, rows[p]? = some r0 ∧ r0[q]? = some x) := by
  simp only [Rows.setCell, List.getElem?_set] at hp
  split at hp
  · rename_i e
    subst e
    split at hp
    · rename_i hi
      simp only [Option.some.injEq] at hp
      subst hp
      have hrow : rows.getD i [] = rows[i] := by rw [List.getD_eq_getElem?_getD, List.getElem?_eq_getElem hi]; rfl
      rw [hrow, List.getElem?_set] at hq
      split at hq
      · rename_i e
        subst e
        split at hq
        · simp only [Option.some.injEq] at hq
          exact .inl ⟨rfl, rfl, hq.symm⟩
        · cases hq
      · exact .inr ⟨by omega, _, List.getElem?_eq_getElem hi, hq⟩
    · cases hp
  · exact .inr ⟨by omega, r, hp, hq⟩
theorem setCell_len {rows : Rows} {w i j : Nat} {c : Cell} (hr : ∀ r ∈ rows, r.length = w) : (Rows.setCell rows i j c).length = rows.length ∧ ∀ r ∈ Rows.setCell rows i j c, r.length = w := by
  refine ⟨by simp [Rows.setCell], fun r hm => ?_⟩
  by_cases hi : i < rows.length
  · rcases List.mem_or_eq_of_mem_set hm with hm | rfl
    · exact hr r hm
    · rw [List.length_set, List.getD_eq_getElem?_getD, List.getElem?_eq_getElem hi]
      exact hr _ (List.getElem_mem hi)
  · rw [Rows.setCell, List.set_eq_of_length_le (by omega)] at hm
    exact hr r hm

theorem good_storeInn (h : InvS cx st sh a W Fr) (hd : ∀ d', o.dst = some d' → d' < cx.n) (hnid : ∀ k, k < 64 → Fr (nid + k)) (hpins : ∀ q ∈ cx.pins, q.1 < 1000) {t : TypeId} {x y : Operand} (ho : o.op = .store t x y) {n : Option Nat} (ht : aggOf P t = some n) {id i j s k : Nat} (hx : st.ev x = .one (.oin id i j s k)) {p : Pk}
    (hy : st.ev y = .pk p) (hs : solids st p.svs) {v : Value} (hv : p.svs = [.sc v]) (hn : n.getD 1 = 1) {w : Nat} {rows : Rows} (hob : st.objs id = some (w, rows)) {ys : List Value} (hc : Rows.cell rows i j = .sl s ys) (hk : k < ys.length)
    (hK : K ⟨.un, [(id, some (w, Rows.setCell rows i j (.sl s (ys.set k v))))], []⟩) : Good P cx st Fr nid o a W K Q := by
  have ex := h.ev x
  rw [hx] at ex
  have ex : SVRep st W sh (.oin id i j s k) (a.eval x) := ex
  have ey := h.ev y
  rw [hy] at ey
  have hF0 : Fr nid := by simpa using hnid 0 (by omega)
  have hlo := h.low nid hF0
  have hone : ∀ s, p = .one s → s.solid st := by rintro s rfl; exact hs.1
  have ec := h.pk_cells ey hone
  have hv1 := h.solids_all ec hs
  rw [hv] at ec
  have hvs : (a.eval y).cells.toList = [v] := by
    rcases hl : (a.eval y).cells.toList with _ | ⟨u, _ | ⟨u2, r⟩⟩
    · rw [hl] at ec; exact ec.elim
    · rw [hl] at ec
      have e : u = v := ec.1
      rw [e]
    · rw [hl] at ec; exact ec.2.elim
  rw [hvs] at hv1
  have hvone : v.oneCell' = true := hv1 v (by simp)
  obtain ⟨hs0, hex⟩ := ex
  obtain ⟨_, b, n0, cap0, g1, g2⟩ := hex w rows ys hob hc hk
  obtain ⟨v', k1, k2⟩ := h.own_head hob hc hs0
  rw [g1] at k1; cases k1
  rcases k2 with ⟨A, e, hn0⟩ | ⟨b', cap', c, t', m1, m2, m3, m4, m5, m6⟩
  · subst hn0; simp at hk
  · cases m1
    have hfit : k + [v].length ≤ c.toList.length := by
      rw [show c.toList.length = c.size from Array.length_toList, m5]; simp; omega
    have hstore : (storeVar t ⟨b, k, none⟩ (a.eval y)).run P W = .ok () (W.setRow b (setRange c.toList k [v]).toArray) := by
      have := run_storeCells_at (P := P) b k t' [v] 0 c W m4 (by simpa using hfit) hv1
      have hsz : (a.eval y).cells.size = n.getD 1 := by rw [hn, ← Array.length_toList, hvs]; rfl
      simp only [storeVar, Sem.run_bind, (aggOf_some (W := W) ht).2, Result.andThen, hsz, ne_eq, not_true_eq_false, if_false, hvs]
      simpa [setRange] using this
    have hrun : (execOp a.eval o).run P W = .ok .skip (W.setRow b (setRange c.toList k [v]).toArray) := by
      simp only [execOp, ho, Instr.storeAt, Sem.run_bind, g2, Instr.sureAddr, Sem.run_pure, Result.andThen, hstore]
    unfold Good Oper.wp
    rw [hrun]
    have ag : Agree W sh.lab (W.setRow b (setRange c.toList k [v]).toArray) sh.lab (· ≠ .inn id i j) := fun q hq => ⟨rfl, setRow_other _ _ _ _ (by rintro rfl; exact hq m3)⟩
    obtain ⟨hw0, hrl, hcs⟩ := h.objs id w rows hob
    obtain ⟨hl1, hl2⟩ := setCell_len (i := i) (j := j) (c := .sl s (ys.set k v)) hrl
    obtain ⟨sq, rfl⟩ : ∃ sq, s = sq + 1 := ⟨s - 1, by omega⟩
    have hcell' : ∀ {p q : Nat} {r : List Cell} {c : Cell}, rows[p]? = some r → r[q]? = some c → Rows.cell rows p q = c := fun h1 h2 => by simp [Rows.cell, List.getD_eq_getElem?_getD, h1, h2]
    have hhead : headAt (W.setRow b (setRange c.toList k [v]).toArray) (sh.μ id) w = headAt W (sh.μ id) w := by
      funext p q
      refine headAt_agree fun b2 L n e => ?_
      refine (ag b2 ?_).2
      rw [h.own_block hob e (by rintro rfl; have := (cell_ne hc).1; simp at this)]
      simp
    have hrepN : OwnRep (W.setRow b (setRange c.toList k [v]).toArray) sh.lab id w (Rows.setCell rows i j (.sl (sq + 1) (ys.set k v))) (sh.μ id) := by
      refine ⟨hw0, hl2, ?_⟩
      rcases hcs with ⟨A, _, hn⟩ | ⟨b2, cap2, c2, t2, q1, q2, q3, q4, q5, q6⟩
      · subst hn; have := (cell_ne hc).1; simp at this
      · refine .inr ⟨b2, cap2, c2, t2, by rw [hl1]; exact q1, by rw [hl1]; exact q2, q3, by rw [(ag b2 (by rw [q3]; simp)).2]; exact q4, q5, fun p q r x hp hq => ?_⟩
        rcases setCell_get hp hq with ⟨rfl, rfl, rfl⟩ | ⟨hnot, r0, z1, z2⟩
        · obtain ⟨r1, y1, y2⟩ := cell_get hc (by simp)
          obtain ⟨u, u1, u2⟩ := q6 p q r1 _ y1 y2
          refine ⟨u, u1, ?_⟩
          have : headAt W (sh.μ id) w p q = some u := by
            rw [q1]; simp only [headAt]; rw [cell_cells q4]; exact u1
          rw [g1] at this
          cases this
          refine .inr ⟨b, cap0, (setRange c.toList k [v]).toArray, t', ?_, ?_, m3, setRow_heap _ _ _ _ _ _ m4, ?_, fun m x hm => ?_⟩
          · rcases u2 with ⟨A, e, hn0⟩ | ⟨b3, cap3, c3, t3, e, _⟩
            · subst hn0; simp at hk
            · cases e; simp
          · simpa using m2
          · rw [List.size_toArray, setRange_length hfit, Array.length_toList]; exact m5
          · rw [List.getElem?_set] at hm
            rw [List.getElem?_toArray, setRange_get hfit]
            split at hm
            · rename_i e
              subst e
              cases hm
              exact ⟨hvone, by simp⟩
            · rename_i e
              obtain ⟨z1, z2⟩ := m6 m x hm
              refine ⟨z1, ?_⟩
              by_cases hlt : m < k
              · rw [if_pos hlt]; simpa using z2
              · rw [if_neg hlt, if_neg (by simp; omega)]; simpa using z2
        · obtain ⟨u, u1, u2⟩ := q6 p q r0 x z1 z2
          exact ⟨u, u1, ownCell_agree ag (by simp) (by simpa using hnot) u2⟩
    have h3 := h.setObj hpins hob (W' := W.setRow b (setRange c.toList k [v]).toArray) (rows' := Rows.setCell rows i j (.sl (sq + 1) (ys.set k v))) (agree_mono ag (fun L hL => hL.2 i j)) rfl rfl rfl (setRow_size _ _ _) hl1 hrepN (nid := nid) hF0
      (fun p q s xs' hsn hs0 hcc => by
        obtain ⟨r, hp, hq⟩ := cell_get hcc (by simp)
        rw [hhead]
        rcases setCell_get hp hq with ⟨rfl, rfl, e⟩ | ⟨hnot, r0, z1, z2⟩
        · cases e
          exact ⟨ys, hc, by simp, rfl⟩
        · exact ⟨xs', hcell' z1 z2, rfl, rfl⟩)
      (fun p q s xs hcc => by
        obtain ⟨r, hp, hq⟩ := cell_get hcc (by simp)
        rcases setCell_get hp hq with ⟨rfl, rfl, e⟩ | ⟨hnot, r0, z1, z2⟩
        · cases e
          exact .inr (h.stamps id w rows _ _ _ ys hob hc)
        · exact .inr (h.stamps id w rows p q s xs hob (hcell' z1 z2)))
      (Fr' := fun id => Fr id ∧ ¬ (nid ≤ id ∧ id < nid + 64)) (fun q hf => ⟨hf.1, by rintro rfl; exact hf.2 ⟨by omega, by omega⟩⟩)
    exact ⟨⟨.un, [(id, some (w, Rows.setCell rows i j (.sl (sq + 1) (ys.set k v))))], []⟩, _, hK, InvS.put h3 hd (av := .un) (v := undef) trivial (by intro id _ hm; simp [AV.ids, AV.svs, Pk.svs, SV.ids] at hm)⟩

theorem good_store (h : InvS cx st sh a W Fr) (hd : ∀ d', o.dst = some d' → d' < cx.n) (hnid : ∀ k, k < 64 → Fr (nid + k)) (hpins : ∀ q ∈ cx.pins, q.1 < 1000) {t : TypeId} {x y : Operand} (ho : o.op = .store t x y) {n : Option Nat} (ht : aggOf P t = some n) {sv : SV} (hx : st.ev x = .one sv) {p : Pk}
    (hy : st.ev y = .pk p) (hs : solids st p.svs) (hK : storeK st nid sv (n.getD 1) p.svs K) : Good P cx st Fr nid o a W K Q := by
  obtain ⟨hl, hK⟩ := hK
  cases sv with
  | vad id j =>
    simp only at hK
    rcases hf : st.vars id with _ | fs
    · simp only [hf] at hK
    · simp only [hf] at hK
      exact good_storeVar h hd hpins ho ht hx hy hs hl hf hK.1 hK.2
  | oad id i j => exact good_storeObj h hd hnid hpins ho ht hx hy hs hl hK
  | oin id i j s k =>
    simp only at hK
    rcases hob : st.objs id with _ | ⟨w, rows⟩
    · simp only [hob] at hK
    · simp only [hob] at hK
      rcases hc : Rows.cell rows i j with _ | ⟨s', ys⟩ | _
      · simp only [hc] at hK
      · simp only [hc] at hK
        obtain ⟨rfl, _, hk, hK⟩ := hK
        rcases hv : p.svs with _ | ⟨x0, r⟩
        · rw [hv] at hK; exact hK.elim
        · cases x0 with
          | sc v =>
            cases r with
            | nil =>
              rw [hv] at hK hl
              exact good_storeInn h hd hnid hpins ho ht hx hy hs hv hl.symm hob hc hk hK.2
            | cons _ _ => rw [hv] at hK; exact hK.elim
          | _ => rw [hv] at hK; exact hK.elim
      · simp only [hc] at hK
  | _ => exact hK.elim
end store
end Go.Proofs.Ytkcbnbbbijlhcai.A
