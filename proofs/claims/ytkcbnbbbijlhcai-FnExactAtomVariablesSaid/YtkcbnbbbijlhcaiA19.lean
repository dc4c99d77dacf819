/- THE ABSTRACT SEMANTICS IS SOUND, fifteenth part: stores into slices of one's own. Conditions: none. -/
import Derived.Test.YtkcbnbbbijlhcaiA18
namespace Go.Proofs.Ytkcbnbbbijlhcai.A
open Go
set_option linter.unusedSimpArgs false
set_option linter.unusedVariables false

section store
variable {P : Program} {cx : Cx} {st : St} {sh : Sh} {a : Act} {W : World} {Fr : Nat → Prop} {nid : Nat} {o : Oper} {K : Eff → Prop} {Q : Exit → Act → World → Prop}

/-- A slice of one's own is written. -/
theorem InvS.setObj (h : InvS cx st sh a W Fr) (hpins : ∀ q ∈ cx.pins, q.1 < 1000) {id w : Nat} {rows rows' : Rows} (ho : st.objs id = some (w, rows)) {W' : World} (hag : Agree W sh.lab W' sh.lab (fun L => L ≠ .own id ∧ ∀ i j, L ≠ .inn id i j))
    (hos : W'.os = W.os) (htape : W'.tape = W.tape) (hout : W'.output = W.output) (hsize : W'.heap.size = W.heap.size) (hlen : rows'.length = rows.length) (hrep : OwnRep W' sh.lab id w rows' (sh.μ id)) {nid : Nat} (hid : Fr nid)
    (hnew : ∀ i j s xs', s ≠ nid → 0 < s → Rows.cell rows' i j = .sl s xs' → ∃ xs, Rows.cell rows i j = .sl s xs ∧ xs.length = xs'.length ∧ headAt W' (sh.μ id) w i j = headAt W (sh.μ id) w i j)
    (hst : ∀ i j s xs, Rows.cell rows' i j = .sl s xs → s = nid ∨ ¬ Fr s) {Fr' : Nat → Prop} (hF : ∀ q, Fr' q → Fr q ∧ q ≠ nid) : InvS cx ⟨st.slots, st.vars, upd st.objs [(id, some (w, rows'))], st.next⟩ sh a W' Fr' := by
  have k : Keeps st W sh ⟨st.slots, st.vars, upd st.objs [(id, some (w, rows'))], st.next⟩ W' sh (· = nid) := by
    refine ⟨agree_mono hag (by rintro _ rfl; simp), fun q _ hq => ⟨hq, rfl⟩, fun q w2 rows2 hn hs => ⟨rfl, ?_⟩⟩
    by_cases e : q = id
    · subst e
      simp only [upd, if_true, Option.some.injEq, Prod.mk.injEq] at hs
      obtain ⟨rfl, rfl⟩ := hs
      exact ⟨rows, ho, hlen.symm, fun i j s xs' hns h0 hc => hnew i j s xs' hns h0 hc⟩
    · simp only [upd, if_neg e] at hs
      refine ⟨rows2, hs, rfl, fun i j s xs' _ _ hc => ⟨xs', hc, rfl, headAt_agree fun b' L n e' => ?_⟩⟩
      have hne : rows2 ≠ [] := by
        intro e; rw [e] at hc; have := (cell_ne hc).1; simp at this
      refine (hag b' ?_).2
      rw [h.own_block hs e' hne]
      simpa using e
  refine h.move k (by rintro _ rfl; exact hid) (fun q hq => (hF q hq).1) ?_ (fun q fs hf => ?_) (fun q w2 rows2 hs => ?_) (fun q hq => ?_) (fun q w2 rows2 i j s xs hs hc hq => ?_) (fun q _ hs => ⟨?_, rfl⟩) (fun q _ hv => ⟨hv, rfl⟩) hpins
  · obtain ⟨g1, g2, g3, g4, g5, g6⟩ := h.ext
    refine ⟨by rw [hos, g1], by rw [htape, g2], by rw [hout, g3], by rw [hsize]; exact g4, fun q hq hl => ?_, fun q hq => g6 q (by rw [hsize] at hq; exact hq)⟩
    obtain ⟨k1, k2⟩ := g5 q hq hl
    exact ⟨k1, by rw [(hag q (by rcases hl with hl | hl <;> rw [k1, hl] <;> simp)).2, k2]⟩
  · obtain ⟨g1, c, t, g2, g3⟩ := h.vars q fs hf
    refine ⟨⟨g1, c, t, by rw [(hag _ (by rw [g1]; simp)).2]; exact g2, all2_mono (fun s u m g => svRep_keeps k (fun id' hi e' => ?_) g) g3⟩, fun id' hf' s m => (h.fresh id' (hF id' hf').1).2.2.2 q fs hf s m⟩
    subst e'
    exact (h.fresh _ hid).2.2.2 q fs hf s m hi
  · by_cases e : q = id
    · subst e
      simp only [upd, if_true, Option.some.injEq, Prod.mk.injEq] at hs
      obtain ⟨rfl, rfl⟩ := hs
      exact hrep
    · simp only [upd, if_neg e] at hs
      exact ownRep_agree hag (by simp) (by simpa using e) (by simpa using e) (h.objs q w2 rows2 hs)
  · obtain ⟨g1, g2, _⟩ := h.fresh q (hF q hq).1
    refine ⟨g1, ?_⟩
    have : q ≠ id := by rintro rfl; rw [ho] at g2; cases g2
    simp only [upd, if_neg this]; exact g2
  · by_cases e : q = id
    · subst e
      simp only [upd, if_true, Option.some.injEq, Prod.mk.injEq] at hs
      obtain ⟨rfl, rfl⟩ := hs
      rcases hst i j s xs hc with rfl | hn
      · exact (hF _ hq).2 rfl
      · exact hn (hF _ hq).1
    · simp only [upd, if_neg e] at hs
      exact h.stamps q w2 rows2 i j s xs hs hc (hF _ hq).1
  · by_cases e : q = id
    · subst e; rw [ho]; simp
    · simpa only [upd, if_neg e] using hs

theorem setRange_cells {rows : Rows} {w i j : Nat} {cs : List Cell} (hr : ∀ r ∈ rows, r.length = w) (hi : i < rows.length) (hj : j + cs.length ≤ w) {p q : Nat} {r : List Cell} {c : Cell} (hp : (rows.set i (setRange (rows.getD i []) j cs))[p]? = some r) (hq : r[q]? = some c) :
    (p = i ∧ j ≤ q ∧ q < j + cs.length ∧ cs[q - j]? = some c) ∨ (¬ (p = i ∧ j ≤ q ∧ q < j + cs.length) ∧ ∃ r0, rows[p]? = some r0 ∧ r0[q]? = some c) := by
  have hrow : rows.getD i [] = rows[i] := by rw [List.getD_eq_getElem?_getD, List.getElem?_eq_getElem hi]; rfl
  have hrl : rows[i].length = w := hr _ (List.getElem_mem hi)
  rw [hrow, List.getElem?_set] at hp
  split at hp
  · rename_i e
    subst e
    simp only [hi, if_true, Option.some.injEq] at hp
    subst hp
    rw [setRange_get (by omega)] at hq
    split at hq
    · exact .inr ⟨by omega, _, List.getElem?_eq_getElem hi, hq⟩
    · split at hq
      · exact .inl ⟨rfl, by omega, by omega, hq⟩
      · exact .inr ⟨by omega, _, List.getElem?_eq_getElem hi, hq⟩
  · rename_i hne
    exact .inr ⟨by omega, r, hp, hq⟩

theorem good_storeObj (h : InvS cx st sh a W Fr) (hd : ∀ d', o.dst = some d' → d' < cx.n) (hnid : ∀ k, k < 64 → Fr (nid + k)) (hpins : ∀ q ∈ cx.pins, q.1 < 1000) {t : TypeId} {x y : Operand} (ho : o.op = .store t x y) {n : Option Nat} (ht : aggOf P t = some n) {id i j : Nat} (hx : st.ev x = .one (.oad id i j)) {p : Pk}
    (hy : st.ev y = .pk p) (hs : solids st p.svs) (hl : p.svs.length = n.getD 1) (hK : cellsK nid st p.svs fun cs ws => match upd st.objs ws id with
      | some (w, rows) => i < rows.length ∧ j + n.getD 1 ≤ (rows.getD i []).length ∧ K ⟨.un, (id, some (w, rows.set i (setRange (rows.getD i []) j cs))) :: ws, []⟩
      | none => False) : Good P cx st Fr nid o a W K Q := by
  have ex := h.ev x
  rw [hx] at ex
  have ex : SVRep st W sh (.oad id i j) (a.eval x) := ex
  have ey := h.ev y
  rw [hy] at ey
  have hF0 : Fr nid := by simpa using hnid 0 (by omega)
  have hlo := h.low nid hF0
  have hone : ∀ s, p = .one s → s.solid st := by rintro s rfl; exact hs.1
  have ec := h.pk_cells ey hone
  have hv1 := h.solids_all ec hs
  have hu : ∀ y ∈ p.svs, ∀ u, y = .sc u → u.oneCell' = true := by
    have : ∀ (l : List SV), solids st l → ∀ y ∈ l, y.solid st := by
      intro l
      induction l with
      | nil => intro _ y hy; cases hy
      | cons z l ih => rintro ⟨h1, h2⟩ y hy; rcases List.mem_cons.mp hy with rfl | hy
                       · exact h1
                       · exact ih h2 y hy
    rintro y hy u rfl
    exact this _ hs _ hy
  obtain ⟨cs, ws, π, hK1, g, hcl, hrep, _, hst1⟩ := InvS.cells (a := a) (W := W) (Fr := Fr) (sh := sh) hpins (show 0 < nid by omega) i j h ((h.fresh nid hF0).2.1) ec hu hK
  rcases hob : upd st.objs ws id with _ | ⟨w, rows⟩
  · rw [hob] at hK1; exact hK1.elim
  · rw [hob] at hK1
    obtain ⟨hi, hj, hK1⟩ := hK1
    have hrow : rows.getD i [] = rows[i] := by rw [List.getD_eq_getElem?_getD, List.getElem?_eq_getElem hi]; rfl
    -- the store's own relabelling
    let st1 : St := ⟨st.slots, st.vars, upd st.objs ws, st.next⟩
    have hne : id ≠ nid := by rintro rfl; rw [g.none _ ((h.fresh _ hF0).2.1)] at hob; cases hob
    have hπ : goodπ (renameL nid id) := ⟨rfl, rfl, fun _ => rfl, rfl⟩
    have h2 : InvS cx ⟨st1.slots, st1.vars, upd st.objs ws, st1.next⟩ ⟨fun b => renameL nid id (π (sh.lab b)), sh.μ, sh.β⟩ a W Fr := by
      refine InvS.relab (st := st1) (sh := ⟨fun b => π (sh.lab b), sh.μ, sh.β⟩) g.inv hpins hπ (fun q w2 rows' hq => ?_)
      have hqn : q ≠ nid := by rintro rfl; rw [g.none _ ((h.fresh _ hF0).2.1)] at hq; cases hq
      exact ⟨rows', hq, shrinks_refl _, by simp [renameL, hqn], fun i' j' s xs _ => by simp [renameL, hqn]⟩
    have hrep2 : ∀ (k : Nat) (c : Cell) (v : Value), cs[k]? = some c → (a.eval y).cells.toList[k]? = some v → OwnCell W (fun b => renameL nid id (π (sh.lab b))) (.inn id i (j + k)) c v := by
      intro k c v hk hv
      exact ownCell_to (lab := fun b => π (sh.lab b)) hπ (fun _ _ _ => by simp [renameL]) (hrep k c v hk hv)
    obtain ⟨_, rows0, k1, k2, _⟩ := g.keep.objs id w rows (fun h => h) hob
    obtain ⟨b, n0, cap0, e1, e2⟩ := ex w rows0 k1 (by omega)
    obtain ⟨hw0, hrl, hc⟩ := h2.objs id w rows hob
    have e1' : sh.μ id = .slice (some ⟨b, 0, none⟩) n0 cap0 := e1
    rcases hc with ⟨A, _, hn⟩ | ⟨b', cap', c, t', m1, m2, m3, m4, m5, m6⟩
    · subst hn; simp at hi
    · have m1' : sh.μ id = .slice (some ⟨b', 0, none⟩) rows.length cap' := m1
      rw [e1'] at m1'; cases m1'
      have hrl' : rows[i].length = w := hrl _ (List.getElem_mem hi)
      have hcsl : cs.length = n.getD 1 := by rw [hcl, hl]
      have hvl : (a.eval y).cells.toList.length = n.getD 1 := by rw [← all2_length ec, hl]
      rw [hrow, hrl'] at hj
      have hfit : (i * w + j) + (a.eval y).cells.toList.length ≤ c.toList.length := by
        rw [hvl, Array.length_toList, m5]
        have := Nat.mul_le_mul_right w (show i + 1 ≤ cap0 by omega)
        rw [Nat.succ_mul] at this; omega
      have hstore : (storeVar t ⟨b, i * w + j, none⟩ (a.eval y)).run P W = .ok () (W.setRow b (setRange c.toList (i * w + j) (a.eval y).cells.toList).toArray) := by
        have := run_storeCells_at (P := P) b (i * w + j) t' (a.eval y).cells.toList 0 c W m4 (by simpa using hfit) hv1
        have hsz : (a.eval y).cells.size = n.getD 1 := by rw [← hvl]; simp
        simp only [storeVar, Sem.run_bind, (aggOf_some (W := W) ht).2, Result.andThen, hsz, ne_eq, not_true_eq_false, if_false]
        simpa [setRange] using this
      have hrun : (execOp a.eval o).run P W = .ok .skip (W.setRow b (setRange c.toList (i * w + j) (a.eval y).cells.toList).toArray) := by
        simp only [execOp, ho, Instr.storeAt, Sem.run_bind, e2, Instr.sureAddr, Sem.run_pure, Result.andThen, hstore]
      unfold Good Oper.wp
      rw [hrun]
      have m3' : renameL nid id (π (sh.lab b)) = .own id := m3
      have ag : Agree W (fun b => renameL nid id (π (sh.lab b))) (W.setRow b (setRange c.toList (i * w + j) (a.eval y).cells.toList).toArray) (fun b => renameL nid id (π (sh.lab b))) (· ≠ .own id) :=
        fun q hq => ⟨rfl, setRow_other _ _ _ _ (by rintro rfl; exact hq m3')⟩
      have hlt : ∀ {p q : Nat} {r : List Cell} {c : Cell}, rows[p]? = some r → r[q]? = some c → q < w := fun {p q r c} h1 h2 => by
        have := (List.getElem?_eq_some_iff.mp h2).1
        rw [hrl r (List.mem_of_getElem? h1)] at this; exact this
      have hidx : ∀ {p q : Nat}, q < w → ¬ (p = i ∧ j ≤ q ∧ q < j + (a.eval y).cells.toList.length) → (setRange c.toList (i * w + j) (a.eval y).cells.toList)[p * w + q]? = c.toList[p * w + q]? := by
        intro p q hq hnot
        rw [setRange_get hfit]
        rcases Nat.lt_trichotomy p i with hp | hp | hp
        · have := Nat.mul_le_mul_right w (show p + 1 ≤ i from hp)
          rw [Nat.succ_mul] at this
          rw [if_pos (by omega)]
        · subst hp
          by_cases hq1 : q < j
          · rw [if_pos (by omega)]
          · rw [if_neg (by omega), if_neg (by omega)]
        · have := Nat.mul_le_mul_right w (show i + 1 ≤ p from hp)
          rw [Nat.succ_mul] at this
          rw [if_neg (by omega), if_neg (by omega)]
      have hlen' : (rows.set i (setRange (rows.getD i []) j cs)).length = rows.length := by simp
      have hrepN : OwnRep (W.setRow b (setRange c.toList (i * w + j) (a.eval y).cells.toList).toArray) (fun b => renameL nid id (π (sh.lab b))) id w (rows.set i (setRange (rows.getD i []) j cs)) (sh.μ id) := by
        refine ⟨hw0, fun r hr => ?_, .inr ⟨b, cap0, (setRange c.toList (i * w + j) (a.eval y).cells.toList).toArray, t', by rw [hlen']; exact e1', by rw [hlen']; exact m2, m3', setRow_heap _ _ _ _ _ _ m4, ?_, fun p q r x hp hq => ?_⟩⟩
        · rcases List.mem_or_eq_of_mem_set hr with hr | rfl
          · exact hrl r hr
          · rw [hrow, setRange_length (by omega)]; exact hrl'
        · rw [List.size_toArray, setRange_length hfit, Array.length_toList]; exact m5
        · rcases setRange_cells hrl hi (by omega) hp hq with ⟨rfl, q1, q2, q3⟩ | ⟨hnot, r0, q1, q2⟩
          · have hk : q - j < (a.eval y).cells.toList.length := by omega
            refine ⟨(a.eval y).cells.toList[q - j], ?_, ?_⟩
            · rw [List.getElem?_toArray, setRange_get hfit, if_neg (by omega), if_pos (by omega), ← List.getElem?_eq_getElem]
              congr 1; omega
            · have := hrep2 (q - j) x _ q3 (List.getElem?_eq_getElem hk)
              rw [show j + (q - j) = q by omega] at this
              exact ownCell_agree ag (by simp) (by simp) this
          · obtain ⟨u, g1, g2⟩ := m6 p q r0 x q1 q2
            refine ⟨u, ?_, ownCell_agree ag (by simp) (by simp) g2⟩
            rw [List.getElem?_toArray, hidx (hlt q1 q2) (by rw [hvl, ← hcsl]; exact hnot)]
            simpa using g1
      have h3 := h2.setObj hpins hob (W' := W.setRow b (setRange c.toList (i * w + j) (a.eval y).cells.toList).toArray) (rows' := rows.set i (setRange (rows.getD i []) j cs)) (agree_mono ag (fun L hL => hL.1)) rfl rfl rfl (setRow_size _ _ _) hlen' hrepN (nid := nid) hF0
        (fun p q s xs' hsn hs0 hc => by
          obtain ⟨r, hp, hq⟩ := cell_get hc (by simp)
          rcases setRange_cells hrl hi (by omega) hp hq with ⟨rfl, q1, q2, q3⟩ | ⟨hnot, r0, q1, q2⟩
          · rcases hst1 s xs' (List.mem_of_getElem? q3) with rfl | rfl
            · omega
            · exact absurd rfl hsn
          · refine ⟨xs', by simp [Rows.cell, List.getD_eq_getElem?_getD, q1, q2], rfl, ?_⟩
            simp only [headAt, e1']
            rw [cell_cells (setRow_heap _ _ _ _ _ _ m4), cell_cells m4, List.getElem?_toArray, hidx (hlt q1 q2) (by rw [hvl, ← hcsl]; exact hnot)]
            simp)
        (fun p q s xs hc => by
          obtain ⟨r, hp, hq⟩ := cell_get hc (by simp)
          rcases setRange_cells hrl hi (by omega) hp hq with ⟨rfl, q1, q2, q3⟩ | ⟨hnot, r0, q1, q2⟩
          · rcases hst1 s xs (List.mem_of_getElem? q3) with rfl | rfl
            · right; intro hf; have := h.low 0 hf; omega
            · exact .inl rfl
          · exact .inr (g.inv.stamps id w rows p q s xs hob (by simp [Rows.cell, List.getD_eq_getElem?_getD, q1, q2])))
        (Fr' := fun id => Fr id ∧ ¬ (nid ≤ id ∧ id < nid + 64)) (fun q hf => ⟨hf.1, by rintro rfl; exact hf.2 ⟨by omega, by omega⟩⟩)
      exact ⟨⟨.un, (id, some (w, rows.set i (setRange (rows.getD i []) j cs))) :: ws, []⟩, _, hK1, InvS.put h3 hd (av := .un) (v := undef) trivial (by intro id _ hm; simp [AV.ids, AV.svs, Pk.svs, SV.ids] at hm)⟩
end store
end Go.Proofs.Ytkcbnbbbijlhcai.A
