/- THE ABSTRACT SEMANTICS IS SOUND, fifteenth part: stores into slices of one's own. Conditions: none. -/
import Derived.Test.YtedciihjgbkjgacGreatDoorA18
import Derived.Laws.IdiomCopy
namespace Go.Proofs.YtedciihjgbkjgacGreatDoor.A
open Go
set_option linter.unusedSimpArgs false
set_option linter.unusedVariables false

section store
variable {P : Program} {cx : Cx} {st : St} {sh : Sh} {a : Act} {W : World} {Fr : Nat → Prop} {nid : Nat} {o : Oper} {K : Eff → Prop} {Q : Exit → Act → World → Prop}

/-- A slice of one's own is written. -/
theorem InvS.setObj (h : InvS cx st sh a W Fr) (hpins : ∀ q ∈ cx.pins, q.1 < 1000) {id w : Nat} {rows rows' : Rows} (ho : st.objs id = some (w, rows)) {W' : World} (hag : Agree W sh.lab W' sh.lab (fun L => L ≠ .own id ∧ ∀ i j, L ≠ .inn id i j))
    (hos : W'.os = W.os) (htape : W'.tape = W.tape) (hout : W'.output = W.output) (hsize : W'.heap.size = W.heap.size) (hlen : rows'.length = rows.length) (hrep : OwnRep W' sh.lab id w rows' (sh.μ id)) {nid : Nat} (hid : Fr nid)
    (hnew : ∀ i j s xs', s ≠ nid → 0 < s → Rows.cell rows' i j = .sl s xs' → ∃ xs, Rows.cell rows i j = .sl s xs ∧ xs.length = xs'.length ∧ headAt W' (sh.μ id) w i j = headAt W (sh.μ id) w i j)
    (hst : ∀ i j s xs, Rows.cell rows' i j = .sl s xs → s = nid ∨ ¬ Fr s) {Fr' : Nat → Prop} (hF : ∀ q, Fr' q → Fr q ∧ q ≠ nid) : InvS cx ⟨st.slots, st.vars, upd st.objs [(id, some (w, rows'))], st.next⟩ sh a W' Fr' := by
  have k : Keeps st W sh ⟨st.slots, st.vars, upd st.objs [(id, some (w, rows'))], st.next⟩ W' sh (· = nid) := by
    refine ⟨agree_mono hag (by rintro _ rfl; simp), fun q _ hq => ⟨hq, rfl⟩, fun q w2 rows2 hn hs => ⟨rfl, ?_⟩⟩
    by_cases e : q = id
    · subst e
      simp only [upd, if_true, Option.some.injEq, Prod.mk.injEq] at hs
      obtain ⟨rfl, rfl⟩ := hs
      exact ⟨rows, ho, hlen.symm, fun i j s xs' hns h0 hc => hnew i j s xs' hns h0 hc⟩
    · simp only [upd, if_neg e] at hs
      refine ⟨rows2, hs, rfl, fun i j s xs' _ _ hc => ⟨xs', hc, rfl, headAt_agree fun b' L n e' => ?_⟩⟩
      have hne : rows2 ≠ [] := by
        intro e; rw [e] at hc; have := (cell_ne hc).1; simp at this
      refine (hag b' ?_).2
      rw [h.own_block hs e' hne]
      simpa using e
  refine h.move k (by rintro _ rfl; exact hid) (fun q hq => (hF q hq).1) ?_ (fun q fs hf => ?_) (fun q w2 rows2 hs => ?_) (fun q hq => ?_) (fun q w2 rows2 i j s xs hs hc hq => ?_) (fun q _ hs => ⟨?_, rfl⟩) (fun q _ hv => ⟨hv, rfl⟩) hpins
  · obtain ⟨g1, g2, g3, g4, g5, g6⟩ := h.ext
    refine ⟨by rw [hos, g1], by rw [htape, g2], by rw [hout, g3], by rw [hsize]; exact g4, fun q hq hl => ?_, fun q hq => g6 q (by rw [hsize] at hq; exact hq)⟩
    obtain ⟨k1, k2⟩ := g5 q hq hl
    exact ⟨k1, by rw [(hag q (by rcases hl with hl | hl <;> rw [k1, hl] <;> simp)).2, k2]⟩
  · obtain ⟨g1, c, t, g2, g3⟩ := h.vars q fs hf
    refine ⟨⟨g1, c, t, by rw [(hag _ (by rw [g1]; simp)).2]; exact g2, all2_mono (fun s u m g => svRep_keeps k (fun id' hi e' => ?_) g) g3⟩, fun id' hf' s m => (h.fresh id' (hF id' hf').1).2.2.2 q fs hf s m⟩
    subst e'
    exact (h.fresh _ hid).2.2.2 q fs hf s m hi
  · by_cases e : q = id
    · subst e
      simp only [upd, if_true, Option.some.injEq, Prod.mk.injEq] at hs
      obtain ⟨rfl, rfl⟩ := hs
      exact hrep
    · simp only [upd, if_neg e] at hs
      exact ownRep_agree hag (by simp) (by simpa using e) (by simpa using e) (h.objs q w2 rows2 hs)
  · obtain ⟨g1, g2, _⟩ := h.fresh q (hF q hq).1
    refine ⟨g1, ?_⟩
    have : q ≠ id := by rintro rfl; rw [ho] at g2; cases g2
    simp only [upd, if_neg this]; exact g2
  · by_cases e : q = id
    · subst e
      simp only [upd, if_true, Option.some.injEq, Prod.mk.injEq] at hs
      obtain ⟨rfl, rfl⟩ := hs
      rcases hst i j s xs hc with rfl | hn
      · exact (hF _ hq).2 rfl
      · exact hn (hF _ hq).1
    · simp only [upd, if_neg e] at hs
      exact h.stamps q w2 rows2 i j s xs hs hc (hF _ hq).1
  · by_cases e : q = id
    · subst e; rw [ho]; simp
    · simpa only [upd, if_neg e] using hs

theorem setRange_cells {rows : Rows} {w i j : Nat} {cs : List Cell} (hr : ∀ r ∈ rows, r.length = w) (hi : i < rows.length) (hj : j + cs.length ≤ w) {p q : Nat} {r : List Cell} {c : Cell} (hp : (rows.set i (setRange (rows.getD i []) j cs))[p]? = some r) (hq : r[q]? = some c) :
    (p = i ∧ j ≤ q ∧ q < j + cs.length ∧ cs[q - j]? = some c) ∨ (¬ (p = i ∧ j ≤ q ∧ q < j + cs.length) ∧ ∃ r0, rows[p]? = some r0 ∧ r0[q]? = some c) := by
  have hrow : rows.getD i [] = rows[i] := by rw [List.getD_eq_getElem?_getD, List.getElem?_eq_getElem hi]; rfl
  have hrl : rows[i].length = w := hr _ (List.getElem_mem hi)
  rw [hrow, List.getElem?_set] at hp
  split at hp
  · rename_i e
    subst e
    simp only [hi, if_true, Option.some.injEq] at hp
    subst hp
    rw [setRange_get (by omega)] at hq
    split at hq
    · exact .inr ⟨by omega, _, List.getElem?_eq_getElem hi, hq⟩
    · split at hq
      · exact .inl ⟨rfl, by omega, by omega, hq⟩
      · exact .inr ⟨by omega, _, List.getElem?_eq_getElem hi, hq⟩
  · rename_i hne
    exact .inr ⟨by omega, r, hp, hq⟩

theorem good_storeObj (h : InvS cx st sh a W Fr) (hd : ∀ d', o.dst = some d' → d' < cx.n) (hnid : ∀ k, k < 64 → Fr (nid + k)) (hpins : ∀ q ∈ cx.pins, q.1 < 1000) {t : TypeId} {x y : Operand} (ho : o.op = .store t x y) {n : Option Nat} (ht : aggOf P t = some n) {id i j : Nat} (hx : st.ev x = .one (.oad id i j)) {p : Pk}
    (hy : st.ev y = .pk p) (hs : solids st p.svs) (hl : p.svs.length = n.getD 1) (hK : cellsK nid st p.svs fun cs ws => match upd st.objs ws id with
      | some (w, rows) => i < rows.length ∧ j + n.getD 1 ≤ (rows.getD i []).length ∧ K ⟨.un, (id, some (w, rows.set i (setRange (rows.getD i []) j cs))) :: ws, []⟩
      | none => False) : Good P cx st Fr nid o a W K Q := by
  have ex := h.ev x
  rw [hx] at ex
  have ex : SVRep st W sh (.oad id i j) (a.eval x) := ex
  have ey := h.ev y
  rw [hy] at ey
  have hF0 : Fr nid := by simpa using hnid 0 (by omega)
  have hlo := h.low nid hF0
  have hone : ∀ s, p = .one s → s.solid st := by rintro s rfl; exact hs.1
  have ec := h.pk_cells ey hone
  have hv1 := h.solids_all ec hs
  have hu : ∀ y ∈ p.svs, ∀ u, y = .sc u → u.oneCell' = true := by
    have : ∀ (l : List SV), solids st l → ∀ y ∈ l, y.solid st := by
      intro l
      induction l with
      | nil => intro _ y hy; cases hy
      | cons z l ih => rintro ⟨h1, h2⟩ y hy; rcases List.mem_cons.mp hy with rfl | hy
                       · exact h1
                       · exact ih h2 y hy
    rintro y hy u rfl
    exact this _ hs _ hy
  obtain ⟨cs, ws, π, hK1, g, hcl, hrep, _, hst1⟩ := InvS.cells (a := a) (W := W) (Fr := Fr) (sh := sh) hpins (show 0 < nid by omega) i j h ((h.fresh nid hF0).2.1) ec hu hK
  rcases hob : upd st.objs ws id with _ | ⟨w, rows⟩
  · rw [hob] at hK1; exact hK1.elim
  · rw [hob] at hK1
    obtain ⟨hi, hj, hK1⟩ := hK1
    have hrow : rows.getD i [] = rows[i] := by rw [List.getD_eq_getElem?_getD, List.getElem?_eq_getElem hi]; rfl
    -- the store's own relabelling
    let st1 : St := ⟨st.slots, st.vars, upd st.objs ws, st.next⟩
    have hne : id ≠ nid := by rintro rfl; rw [g.none _ ((h.fresh _ hF0).2.1)] at hob; cases hob
    have hπ : goodπ (renameL nid id) := ⟨rfl, rfl, fun _ => rfl, rfl⟩
    have h2 : InvS cx ⟨st1.slots, st1.vars, upd st.objs ws, st1.next⟩ ⟨fun b => renameL nid id (π (sh.lab b)), sh.μ, sh.β⟩ a W Fr := by
      refine InvS.relab (st := st1) (sh := ⟨fun b => π (sh.lab b), sh.μ, sh.β⟩) g.inv hpins hπ (fun q w2 rows' hq => ?_)
      have hqn : q ≠ nid := by rintro rfl; rw [g.none _ ((h.fresh _ hF0).2.1)] at hq; cases hq
      exact ⟨rows', hq, shrinks_refl _, by simp [renameL, hqn], fun i' j' s xs _ => by simp [renameL, hqn]⟩
    have hrep2 : ∀ (k : Nat) (c : Cell) (v : Value), cs[k]? = some c → (a.eval y).cells.toList[k]? = some v → OwnCell W (fun b => renameL nid id (π (sh.lab b))) (.inn id i (j + k)) c v := by
      intro k c v hk hv
      exact ownCell_to (lab := fun b => π (sh.lab b)) hπ (fun _ _ _ => by simp [renameL]) (hrep k c v hk hv)
    obtain ⟨_, rows0, k1, k2, _⟩ := g.keep.objs id w rows (fun h => h) hob
    obtain ⟨b, n0, cap0, e1, e2⟩ := ex w rows0 k1 (by omega)
    obtain ⟨hw0, hrl, hc⟩ := h2.objs id w rows hob
    have e1' : sh.μ id = .slice (some ⟨b, 0, none⟩) n0 cap0 := e1
    rcases hc with ⟨A, _, hn⟩ | ⟨b', cap', c, t', m1, m2, m3, m4, m5, m6⟩
    · subst hn; simp at hi
    · have m1' : sh.μ id = .slice (some ⟨b', 0, none⟩) rows.length cap' := m1
      rw [e1'] at m1'; cases m1'
      have hrl' : rows[i].length = w := hrl _ (List.getElem_mem hi)
      have hcsl : cs.length = n.getD 1 := by rw [hcl, hl]
      have hvl : (a.eval y).cells.toList.length = n.getD 1 := by rw [← all2_length ec, hl]
      rw [hrow, hrl'] at hj
      have hfit : (i * w + j) + (a.eval y).cells.toList.length ≤ c.toList.length := by
        rw [hvl, Array.length_toList, m5]
        have := Nat.mul_le_mul_right w (show i + 1 ≤ cap0 by omega)
        rw [Nat.succ_mul] at this; omega
      have hstore : (storeVar t ⟨b, i * w + j, none⟩ (a.eval y)).run P W = .ok () (W.setRow b (setRange c.toList (i * w + j) (a.eval y).cells.toList).toArray) := by
        have := run_storeCells_at (P := P) b (i * w + j) t' (a.eval y).cells.toList 0 c W m4 (by simpa using hfit) hv1
        have hsz : (a.eval y).cells.size = n.getD 1 := by rw [← hvl]; simp
        simp only [storeVar, Sem.run_bind, (aggOf_some (W := W) ht).2, Result.andThen, hsz, ne_eq, not_true_eq_false, if_false]
        simpa [setRange] using this
      have hrun : (execOp a.eval o).run P W = .ok .skip (W.setRow b (setRange c.toList (i * w + j) (a.eval y).cells.toList).toArray) := by
        simp only [execOp, ho, Instr.storeAt, Sem.run_bind, e2, Instr.sureAddr, Sem.run_pure, Result.andThen, hstore]
      unfold Good Oper.wp
      rw [hrun]
      have m3' : renameL nid id (π (sh.lab b)) = .own id := m3
      have ag : Agree W (fun b => renameL nid id (π (sh.lab b))) (W.setRow b (setRange c.toList (i * w + j) (a.eval y).cells.toList).toArray) (fun b => renameL nid id (π (sh.lab b))) (· ≠ .own id) :=
        fun q hq => ⟨rfl, setRow_other _ _ _ _ (by rintro rfl; exact hq m3')⟩
      have hlt : ∀ {p q : Nat} {r : List Cell} {c : Cell}, rows[p]? = some r → r[q]? = some c → q < w := fun {p q r c} h1 h2 => by
        have := (List.getElem?_eq_some_iff.mp h2).1
        rw [hrl r (List.mem_of_getElem? h1)] at this; exact this
      have hidx : ∀ {p q : Nat}, q < w → ¬ (p = i ∧ j ≤ q ∧ q < j + (a.eval y).cells.toList.length) → (setRange c.toList (i * w + j) (a.eval y).cells.toList)[p * w + q]? = c.toList[p * w + q]? := by
        intro p q hq hnot
        rw [setRange_get hfit]
        rcases Nat.lt_trichotomy p i with hp | hp | hp
        · have := Nat.mul_le_mul_right w (show p + 1 ≤ i from hp)
          rw [Nat.succ_mul] at this
          rw [if_pos (by omega)]
        · subst hp
          by_cases hq1 : q < j
          · rw [if_pos (by omega)]
          · rw [if_neg (by omega), if_neg (by omega)]
        · have := Nat.mul_le_mul_right w (show i + 1 ≤ p from hp)
          rw [Nat.succ_mul] at this
          rw [if_neg (by omega), if_neg (by omega)]
      have hlen' : (rows.set i (setRange (rows.getD i []) j cs)).length = rows.length := by simp
      have hrepN : OwnRep (W.setRow b (setRange c.toList (i * w + j) (a.eval y).cells.toList).toArray) (fun b => renameL nid id (π (sh.lab b))) id w (rows.set i (setRange (rows.getD i []) j cs)) (sh.μ id) := by
        refine ⟨hw0, fun r hr => ?_, .inr ⟨b, cap0, (setRange c.toList (i * w + j) (a.eval y).cells.toList).toArray, t', by rw [hlen']; exact e1', by rw [hlen']; exact m2, m3', setRow_heap _ _ _ _ _ _ m4, ?_, fun p q r x hp hq => ?_⟩⟩
        · rcases List.mem_or_eq_of_mem_set hr with hr | rfl
          · exact hrl r hr
          · rw [hrow, setRange_length (by omega)]; exact hrl'
        · rw [List.size_toArray, setRange_length hfit, Array.length_toList]; exact m5
        · rcases setRange_cells hrl hi (by omega) hp hq with ⟨rfl, q1, q2, q3⟩ | ⟨hnot, r0, q1, q2⟩
          · have hk : q - j < (a.eval y).cells.toList.length := by omega
            refine ⟨(a.eval y).cells.toList[q - j], ?_, ?_⟩
            · rw [List.getElem?_toArray, setRange_get hfit, if_neg (by omega), if_pos (by omega), ← List.getElem?_eq_getElem]
              congr 1; omega
            · have := hrep2 (q - j) x _ q3 (List.getElem?_eq_getElem hk)
              rw [show j + (q - j) = q by omega] at this
              exact ownCell_agree ag (by simp) (by simp) this
          · obtain ⟨u, g1, g2⟩ := m6 p q r0 x q1 q2
            refine ⟨u, ?_, ownCell_agree ag (by simp) (by simp) g2⟩
            rw [List.getElem?_toArray, hidx (hlt q1 q2) (by rw [hvl, ← hcsl]; exact hnot)]
            simpa using g1
      have h3 := h2.setObj hpins hob (W' := W.setRow b (setRange c.toList (i * w + j) (a.eval y).cells.toList).toArray) (rows' := rows.set i (setRange (rows.getD i []) j cs)) (agree_mono ag (fun L hL => hL.1)) rfl rfl rfl (setRow_size _ _ _) hlen' hrepN (nid := nid) hF0
        (fun p q s xs' hsn hs0 hc => by
          obtain ⟨r, hp, hq⟩ := cell_get hc (by simp)
          rcases setRange_cells hrl hi (by omega) hp hq with ⟨rfl, q1, q2, q3⟩ | ⟨hnot, r0, q1, q2⟩
          · rcases hst1 s xs' (List.mem_of_getElem? q3) with rfl | rfl
            · omega
            · exact absurd rfl hsn
          · refine ⟨xs', by simp [Rows.cell, List.getD_eq_getElem?_getD, q1, q2], rfl, ?_⟩
            simp only [headAt, e1']
            rw [cell_cells (setRow_heap _ _ _ _ _ _ m4), cell_cells m4, List.getElem?_toArray, hidx (hlt q1 q2) (by rw [hvl, ← hcsl]; exact hnot)]
            simp)
        (fun p q s xs hc => by
          obtain ⟨r, hp, hq⟩ := cell_get hc (by simp)
          rcases setRange_cells hrl hi (by omega) hp hq with ⟨rfl, q1, q2, q3⟩ | ⟨hnot, r0, q1, q2⟩
          · rcases hst1 s xs (List.mem_of_getElem? q3) with rfl | rfl
            · right; intro hf; have := h.low 0 hf; omega
            · exact .inl rfl
          · exact .inr (g.inv.stamps id w rows p q s xs hob (by simp [Rows.cell, List.getD_eq_getElem?_getD, q1, q2])))
        (Fr' := fun id => Fr id ∧ ¬ (nid ≤ id ∧ id < nid + 64)) (fun q hf => ⟨hf.1, by rintro rfl; exact hf.2 ⟨by omega, by omega⟩⟩)
      exact ⟨⟨.un, (id, some (w, rows.set i (setRange (rows.getD i []) j cs))) :: ws, []⟩, _, hK1, InvS.put h3 hd (av := .un) (v := undef) trivial (by intro id _ hm; simp [AV.ids, AV.svs, Pk.svs, SV.ids] at hm)⟩

theorem allSc_get {rows : Rows} (h : allSc rows = true) {i j : Nat} {r : List Cell} {c : Cell} (hi : rows[i]? = some r) (hj : r[j]? = some c) : j = 0 ∧ ∃ v, r = [.sc v] ∧ c = .sc v := by
  have := List.all_eq_true.mp h r (List.mem_of_getElem? hi)
  rcases r with _ | ⟨c0, _ | ⟨c1, r⟩⟩
  · simp at hj
  · cases c0 with
    | sc v =>
      cases j with
      | zero => simp at hj; exact ⟨rfl, v, rfl, hj.symm⟩
      | succ j => simp at hj
    | _ => simp at this
  · cases c0 <;> simp at this
theorem allSc_cell {rows : Rows} (h : allSc rows = true) {i j s : Nat} {xs : List Value} : Rows.cell rows i j ≠ .sl s xs := by
  intro hc
  obtain ⟨r, hp, hq⟩ := cell_get hc (by simp)
  obtain ⟨_, v, _, e⟩ := allSc_get h hp hq
  cases e
theorem allSc_range {rows more : Rows} (h : allSc rows = true) (h2 : allSc more = true) (off len : Nat) : allSc (setRange rows off (more.take len)) = true := by
  unfold allSc at *
  rw [List.all_eq_true] at *
  intro r hr
  unfold setRange at hr
  rcases List.mem_append.mp hr with hr | hr
  · rcases List.mem_append.mp hr with hr | hr
    · exact h r (List.mem_of_mem_take hr)
    · exact h2 r (List.mem_of_mem_take hr)
  · exact h r (List.mem_of_mem_drop hr)
/-- A copy. -/
theorem good_copy (h : InvS cx st sh a W Fr) (hd : ∀ d', o.dst = some d' → d' < cx.n) (hnid : ∀ k, k < 64 → Fr (nid + k)) (hpins : ∀ q ∈ cx.pins, q.1 < 1000) {x y : Operand} {t t2 : TypeId} (ho : o.op = .call ⟨.builtin .copy, #[x, y], #[t, t2]⟩)
    {w bytes : Nat} {z : List Value} (ht : elemOf' P t = some (w, bytes, z)) (hK : cpyK st w (st.ev x) (st.ev y) K) : Good P cx st Fr nid o a W K Q := by
  have ex := h.ev x
  have ey := h.ev y
  have hF0 : Fr nid := by simpa using hnid 0 (by omega)
  unfold cpyK at hK
  split at hK
  case h_2 => exact hK.elim
  rename_i id w' off len s hx hy
  split at hK
  case h_2 => exact hK.elim
  rename_i w0 rows w2 more hob hr
  obtain ⟨rfl, rfl, rfl, hfit, hsc1, hsc2, hK⟩ := hK
  rw [hx] at ex
  rw [hy] at ey
  have ex : SVRep st W sh (.ref id 1 off len) (a.eval x) := ex
  have ey : SVRep st W sh s (a.eval y) := ey
  obtain ⟨rfl, g2, g3⟩ := ex w0 rows hob
  obtain ⟨A, cap, e2, hcap, hrl2, hc2⟩ := h.rows_read ey hr
  obtain ⟨el, i0, hu, hi, his, _⟩ := elemOf_some ht
  have hs1 : (P.info? el).map (·.size) = some 1 := by rw [hi]; simp [his]
  have hrunv : ∀ (v : Value) (W1 : World), (Builtin.copy_ #[t, t2] o.type #[a.eval x, a.eval y]).run P W = .ok v W1 → (execOp a.eval o).run P W = .ok (.value v) W1 := by
    intro v W1 hv
    simp only [execOp, ho, resolve, invoke, Sem.run_bind, builtin]
    simp [hv, Result.andThen, Sem.run_pure]
  have hlen' : (more.take len).length = min more.length len := by rw [List.length_take, Nat.min_comm]
  have hl : (setRange rows off (more.take len)).length = rows.length := setRange_length (by omega)
  have hsc := allSc_range hsc1 hsc2 off len
  obtain ⟨hw0, hrl, hc⟩ := h.objs id 1 rows hob
  have key : ∃ W1, (execOp a.eval o).run P W = .ok (.value (goInt ((min more.length len : Nat) : Int))) W1 ∧ Agree W sh.lab W1 sh.lab (· ≠ .own id) ∧ W1.os = W.os ∧ W1.tape = W.tape ∧ W1.output = W.output ∧ W1.heap.size = W.heap.size ∧
      OwnRep W1 sh.lab id 1 (setRange rows off (more.take len)) (sh.μ id) := by
    by_cases hn : min more.length len = 0
    · have hd' : ∃ d c, a.eval x = .slice d len c := by
        obtain ⟨A', cap', hm, _, _⟩ := own_shape h hob
        rcases g3 with g3 | ⟨g3, A', g4⟩
        · rw [hm] at g3
          exact ⟨_, _, g3⟩
        · exact ⟨A', 0, by rw [g4, g3]⟩
      obtain ⟨d, c, hd'⟩ := hd'
      have e0 : setRange rows off (more.take len) = rows := by
        have : more.take len = [] := List.length_eq_zero_iff.mp (by rw [hlen', hn])
        rw [this, setRange]; simp
      refine ⟨W, hrunv _ _ ?_, fun _ _ => ⟨rfl, rfl⟩, rfl, rfl, rfl, rfl, by rw [e0]; exact h.objs id 1 rows hob⟩
      rw [hd', e2, run_copy_none W t t2 o.type el d A len c more.length cap hu hs1 hn, hn]
      rfl
    · have hlp : 0 < len := by omega
      have hmp : more ≠ [] := by rintro rfl; simp at hn
      obtain ⟨b2, o2, rfl, _, hread⟩ := hc2 hmp
      rcases hc with ⟨A', _, hn'⟩ | ⟨b, cap', c, t', m1, m2, m3, m4, m5, m6⟩
      · subst hn'; simp at g2; omega
      rcases g3 with g3 | ⟨g3, _⟩
      case inr => omega
      rw [m1] at g3
      simp only [viewOf, if_neg (show ¬ cap' = off by omega), Option.map_some, add_mk, Nat.zero_add, Nat.mul_one] at g3
      have hcsl : (unlift (more.take len)).length = min more.length len := by simp [unlift]; omega
      have hcs : ∀ (j : Nat) (v : Value), (unlift (more.take len))[j]? = some v → more[j]? = some [.sc v] ∧ j < len := by
        intro j v hj
        simp only [unlift, List.getElem?_map, Option.map_eq_some_iff] at hj
        obtain ⟨r, hr', rfl⟩ := hj
        have hjl : j < len := by
          have := (List.getElem?_eq_some_iff.mp hr').1
          simp at this; omega
        rw [List.getElem?_take_of_lt hjl] at hr'
        have := List.all_eq_true.mp hsc2 r (List.mem_of_getElem? hr')
        rcases r with _ | ⟨c0, _ | ⟨c1, r⟩⟩
        · simp at this
        · cases c0 with
          | sc v => exact ⟨hr', hjl⟩
          | _ => simp at this
        · cases c0 <;> simp at this
      have hsrc : ∀ (j : Nat) (v : Value), (unlift (more.take len))[j]? = some v → W.cell? ((⟨b2, o2, none⟩ : Addr).add j) = some v ∧ v.oneCell' = true := by
        intro j v hj
        obtain ⟨u, k1, k2⟩ := hread j 0 _ (.sc v) (hcs j v hj).1 rfl
        obtain ⟨rfl, k3⟩ := k2 trivial .imm
        refine ⟨?_, k3⟩
        rw [add_mk]
        simpa using k1
      have hfit2 : off + (unlift (more.take len)).length ≤ c.size := by omega
      have hrun := run_copy_row (P := P) W t t2 o.type el b off len (cap' - off) ⟨b2, o2, none⟩ more.length cap c t' (unlift (more.take len)) hu hs1 m4 (by rw [hcsl]) (fun j v hj => (hsrc j v hj).1) hfit2 (fun v hv => by
        obtain ⟨j, hj⟩ := List.getElem?_of_mem hv
        exact (hsrc j v hj).2)
      have hrun' : (Builtin.copy_ #[t, t2] o.type #[a.eval x, a.eval y]).run P W = .ok (goInt ((min more.length len : Nat) : Int)) (W.setRow b (setRange c.toList off (unlift (more.take len))).toArray) := by
        rw [g3, e2, ← hcsl]; exact hrun
      refine ⟨_, hrunv _ _ hrun', fun q hq => ⟨rfl, setRow_other _ _ _ _ (by rintro rfl; exact hq m3)⟩, rfl, rfl, rfl, setRow_size _ _ _, ?_⟩
      have hfit3 : off + (unlift (more.take len)).length ≤ c.toList.length := by simpa using hfit2
      refine ⟨hw0, fun r hr' => ?_, .inr ⟨b, cap', _, t', by rw [hl]; exact m1, by rw [hl]; exact m2, m3, setRow_heap _ _ _ _ _ _ m4, by rw [List.size_toArray, setRange_length hfit3, Array.length_toList]; exact m5, fun p q r k hp hq => ?_⟩⟩
      · obtain ⟨p, hp⟩ := List.getElem?_of_mem hr'
        have := List.all_eq_true.mp hsc r hr'
        rcases r with _ | ⟨c0, _ | ⟨c1, r⟩⟩
        · simp at this
        · rfl
        · cases c0 <;> simp at this
      · obtain ⟨rfl, v, rfl, rfl⟩ := allSc_get hsc hp hq
        refine ⟨v, ?_, rfl, ?_⟩
        · rw [List.getElem?_toArray, setRange_get hfit3, Nat.mul_one, Nat.add_zero]
          rw [setRange_get (by omega)] at hp
          split at hp
          · rename_i hlt
            obtain ⟨u, k1, k2, _⟩ := m6 p 0 _ (.sc v) hp rfl
            rw [if_pos hlt]
            subst k2
            simpa using k1
          · rename_i hlt
            rw [if_neg hlt]
            split at hp
            · rename_i hlt2
              rw [if_pos (by omega)]
              simp only [unlift, List.getElem?_map, hp, Option.map_some]
            · rename_i hlt2
              rw [if_neg (by omega)]
              obtain ⟨u, k1, k2, _⟩ := m6 p 0 _ (.sc v) hp rfl
              subst k2
              simpa using k1
        · rw [setRange_get (by omega)] at hp
          split at hp
          · obtain ⟨u, _, rfl, k3⟩ := m6 p 0 _ (.sc v) hp rfl
            exact k3
          · split at hp
            · refine (hsrc (p - off) v ?_).2
              simp only [unlift, List.getElem?_map, hp, Option.map_some]
            · obtain ⟨u, _, rfl, k3⟩ := m6 p 0 _ (.sc v) hp rfl
              exact k3
  obtain ⟨W1, hrun, hag, h1, h2, h3, h4, hrepN⟩ := key
  unfold Good Oper.wp
  rw [hrun]
  have h3 := h.setObj hpins hob (rows' := setRange rows off (more.take len)) (agree_mono hag (fun L hL => hL.1)) h1 h2 h3 h4 hl hrepN (nid := nid) hF0 (fun i j s xs' _ _ hc => absurd hc (allSc_cell hsc)) (fun i j s xs hc => absurd hc (allSc_cell hsc))
    (Fr' := fun id => Fr id ∧ ¬ (nid ≤ id ∧ id < nid + 64)) (fun q hf => ⟨hf.1, by rintro rfl; exact hf.2 ⟨by omega, by omega⟩⟩)
  exact ⟨⟨.sc (.int .i64 (min more.length len : Nat)), [(id, some (1, setRange rows off (more.take len)))], []⟩, _, hK, InvS.put h3 hd (av := .sc (.int .i64 (min more.length len : Nat))) rfl (by intro id _ hm; simp [AV.ids, AV.svs, Pk.svs, SV.ids] at hm)⟩
end store
end Go.Proofs.YtedciihjgbkjgacGreatDoor.A

/-! THE ABSTRACT SEMANTICS IS SOUND, sixteenth part: stores into inner slices. Conditions: none. -/
namespace Go.Proofs.YtedciihjgbkjgacGreatDoor.A
open Go
set_option linter.unusedSimpArgs false
set_option linter.unusedVariables false

section store
variable {P : Program} {cx : Cx} {st : St} {sh : Sh} {a : Act} {W : World} {Fr : Nat → Prop} {nid : Nat} {o : Oper} {K : Eff → Prop} {Q : Exit → Act → World → Prop}

theorem setCell_get {rows : Rows} {i j : Nat} {c : Cell} {p q : Nat} {r : List Cell} {x : Cell} (hp : (Rows.setCell rows i j c)[p]? = some r) (hq : r[q]? = some x) :
    (p = i ∧ q = j ∧ x = c) ∨ (¬ (p = i ∧ q = j) ∧ ∃ r0, rows[p]? = some r0 ∧ r0[q]? = some x) := by
  simp only [Rows.setCell, List.getElem?_set] at hp
  split at hp
  · rename_i e
    subst e
    split at hp
    · rename_i hi
      simp only [Option.some.injEq] at hp
      subst hp
      have hrow : rows.getD i [] = rows[i] := by rw [List.getD_eq_getElem?_getD, List.getElem?_eq_getElem hi]; rfl
      rw [hrow, List.getElem?_set] at hq
      split at hq
      · rename_i e
        subst e
        split at hq
        · simp only [Option.some.injEq] at hq
          exact .inl ⟨rfl, rfl, hq.symm⟩
        · cases hq
      · exact .inr ⟨by omega, _, List.getElem?_eq_getElem hi, hq⟩
    · cases hp
  · exact .inr ⟨by omega, r, hp, hq⟩
theorem setCell_len {rows : Rows} {w i j : Nat} {c : Cell} (hr : ∀ r ∈ rows, r.length = w) : (Rows.setCell rows i j c).length = rows.length ∧ ∀ r ∈ Rows.setCell rows i j c, r.length = w := by
  refine ⟨by simp [Rows.setCell], fun r hm => ?_⟩
  by_cases hi : i < rows.length
  · rcases List.mem_or_eq_of_mem_set hm with hm | rfl
    · exact hr r hm
    · rw [List.length_set, List.getD_eq_getElem?_getD, List.getElem?_eq_getElem hi]
      exact hr _ (List.getElem_mem hi)
  · rw [Rows.setCell, List.set_eq_of_length_le (by omega)] at hm
    exact hr r hm

theorem good_storeInn (h : InvS cx st sh a W Fr) (hd : ∀ d', o.dst = some d' → d' < cx.n) (hnid : ∀ k, k < 64 → Fr (nid + k)) (hpins : ∀ q ∈ cx.pins, q.1 < 1000) {t : TypeId} {x y : Operand} (ho : o.op = .store t x y) {n : Option Nat} (ht : aggOf P t = some n) {id i j s k : Nat} (hx : st.ev x = .one (.oin id i j s k)) {p : Pk}
    (hy : st.ev y = .pk p) (hs : solids st p.svs) {v : Value} (hv : p.svs = [.sc v]) (hn : n.getD 1 = 1) {w : Nat} {rows : Rows} (hob : st.objs id = some (w, rows)) {ys : List Value} (hc : Rows.cell rows i j = .sl s ys) (hk : k < ys.length)
    (hK : K ⟨.un, [(id, some (w, Rows.setCell rows i j (.sl s (ys.set k v))))], []⟩) : Good P cx st Fr nid o a W K Q := by
  have ex := h.ev x
  rw [hx] at ex
  have ex : SVRep st W sh (.oin id i j s k) (a.eval x) := ex
  have ey := h.ev y
  rw [hy] at ey
  have hF0 : Fr nid := by simpa using hnid 0 (by omega)
  have hlo := h.low nid hF0
  have hone : ∀ s, p = .one s → s.solid st := by rintro s rfl; exact hs.1
  have ec := h.pk_cells ey hone
  have hv1 := h.solids_all ec hs
  rw [hv] at ec
  have hvs : (a.eval y).cells.toList = [v] := by
    rcases hl : (a.eval y).cells.toList with _ | ⟨u, _ | ⟨u2, r⟩⟩
    · rw [hl] at ec; exact ec.elim
    · rw [hl] at ec
      have e : u = v := ec.1
      rw [e]
    · rw [hl] at ec; exact ec.2.elim
  rw [hvs] at hv1
  have hvone : v.oneCell' = true := hv1 v (by simp)
  obtain ⟨hs0, hex⟩ := ex
  obtain ⟨_, b, n0, cap0, g1, g2⟩ := hex w rows ys hob hc hk
  obtain ⟨v', k1, k2⟩ := h.own_head hob hc hs0
  rw [g1] at k1; cases k1
  rcases k2 with ⟨A, e, hn0⟩ | ⟨b', cap', c, t', m1, m2, m3, m4, m5, m6⟩
  · subst hn0; simp at hk
  · cases m1
    have hfit : k + [v].length ≤ c.toList.length := by
      rw [show c.toList.length = c.size from Array.length_toList, m5]; simp; omega
    have hstore : (storeVar t ⟨b, k, none⟩ (a.eval y)).run P W = .ok () (W.setRow b (setRange c.toList k [v]).toArray) := by
      have := run_storeCells_at (P := P) b k t' [v] 0 c W m4 (by simpa using hfit) hv1
      have hsz : (a.eval y).cells.size = n.getD 1 := by rw [hn, ← Array.length_toList, hvs]; rfl
      simp only [storeVar, Sem.run_bind, (aggOf_some (W := W) ht).2, Result.andThen, hsz, ne_eq, not_true_eq_false, if_false, hvs]
      simpa [setRange] using this
    have hrun : (execOp a.eval o).run P W = .ok .skip (W.setRow b (setRange c.toList k [v]).toArray) := by
      simp only [execOp, ho, Instr.storeAt, Sem.run_bind, g2, Instr.sureAddr, Sem.run_pure, Result.andThen, hstore]
    unfold Good Oper.wp
    rw [hrun]
    have ag : Agree W sh.lab (W.setRow b (setRange c.toList k [v]).toArray) sh.lab (· ≠ .inn id i j) := fun q hq => ⟨rfl, setRow_other _ _ _ _ (by rintro rfl; exact hq m3)⟩
    obtain ⟨hw0, hrl, hcs⟩ := h.objs id w rows hob
    obtain ⟨hl1, hl2⟩ := setCell_len (i := i) (j := j) (c := .sl s (ys.set k v)) hrl
    obtain ⟨sq, rfl⟩ : ∃ sq, s = sq + 1 := ⟨s - 1, by omega⟩
    have hcell' : ∀ {p q : Nat} {r : List Cell} {c : Cell}, rows[p]? = some r → r[q]? = some c → Rows.cell rows p q = c := fun h1 h2 => by simp [Rows.cell, List.getD_eq_getElem?_getD, h1, h2]
    have hhead : headAt (W.setRow b (setRange c.toList k [v]).toArray) (sh.μ id) w = headAt W (sh.μ id) w := by
      funext p q
      refine headAt_agree fun b2 L n e => ?_
      refine (ag b2 ?_).2
      rw [h.own_block hob e (by rintro rfl; have := (cell_ne hc).1; simp at this)]
      simp
    have hrepN : OwnRep (W.setRow b (setRange c.toList k [v]).toArray) sh.lab id w (Rows.setCell rows i j (.sl (sq + 1) (ys.set k v))) (sh.μ id) := by
      refine ⟨hw0, hl2, ?_⟩
      rcases hcs with ⟨A, _, hn⟩ | ⟨b2, cap2, c2, t2, q1, q2, q3, q4, q5, q6⟩
      · subst hn; have := (cell_ne hc).1; simp at this
      · refine .inr ⟨b2, cap2, c2, t2, by rw [hl1]; exact q1, by rw [hl1]; exact q2, q3, by rw [(ag b2 (by rw [q3]; simp)).2]; exact q4, q5, fun p q r x hp hq => ?_⟩
        rcases setCell_get hp hq with ⟨rfl, rfl, rfl⟩ | ⟨hnot, r0, z1, z2⟩
        · obtain ⟨r1, y1, y2⟩ := cell_get hc (by simp)
          obtain ⟨u, u1, u2⟩ := q6 p q r1 _ y1 y2
          refine ⟨u, u1, ?_⟩
          have : headAt W (sh.μ id) w p q = some u := by
            rw [q1]; simp only [headAt]; rw [cell_cells q4]; exact u1
          rw [g1] at this
          cases this
          refine .inr ⟨b, cap0, (setRange c.toList k [v]).toArray, t', ?_, ?_, m3, setRow_heap _ _ _ _ _ _ m4, ?_, fun m x hm => ?_⟩
          · rcases u2 with ⟨A, e, hn0⟩ | ⟨b3, cap3, c3, t3, e, _⟩
            · subst hn0; simp at hk
            · cases e; simp
          · simpa using m2
          · rw [List.size_toArray, setRange_length hfit, Array.length_toList]; exact m5
          · rw [List.getElem?_set] at hm
            rw [List.getElem?_toArray, setRange_get hfit]
            split at hm
            · rename_i e
              subst e
              cases hm
              exact ⟨hvone, by simp⟩
            · rename_i e
              obtain ⟨z1, z2⟩ := m6 m x hm
              refine ⟨z1, ?_⟩
              by_cases hlt : m < k
              · rw [if_pos hlt]; simpa using z2
              · rw [if_neg hlt, if_neg (by simp; omega)]; simpa using z2
        · obtain ⟨u, u1, u2⟩ := q6 p q r0 x z1 z2
          exact ⟨u, u1, ownCell_agree ag (by simp) (by simpa using hnot) u2⟩
    have h3 := h.setObj hpins hob (W' := W.setRow b (setRange c.toList k [v]).toArray) (rows' := Rows.setCell rows i j (.sl (sq + 1) (ys.set k v))) (agree_mono ag (fun L hL => hL.2 i j)) rfl rfl rfl (setRow_size _ _ _) hl1 hrepN (nid := nid) hF0
      (fun p q s xs' hsn hs0 hcc => by
        obtain ⟨r, hp, hq⟩ := cell_get hcc (by simp)
        rw [hhead]
        rcases setCell_get hp hq with ⟨rfl, rfl, e⟩ | ⟨hnot, r0, z1, z2⟩
        · cases e
          exact ⟨ys, hc, by simp, rfl⟩
        · exact ⟨xs', hcell' z1 z2, rfl, rfl⟩)
      (fun p q s xs hcc => by
        obtain ⟨r, hp, hq⟩ := cell_get hcc (by simp)
        rcases setCell_get hp hq with ⟨rfl, rfl, e⟩ | ⟨hnot, r0, z1, z2⟩
        · cases e
          exact .inr (h.stamps id w rows _ _ _ ys hob hc)
        · exact .inr (h.stamps id w rows p q s xs hob (hcell' z1 z2)))
      (Fr' := fun id => Fr id ∧ ¬ (nid ≤ id ∧ id < nid + 64)) (fun q hf => ⟨hf.1, by rintro rfl; exact hf.2 ⟨by omega, by omega⟩⟩)
    exact ⟨⟨.un, [(id, some (w, Rows.setCell rows i j (.sl (sq + 1) (ys.set k v))))], []⟩, _, hK, InvS.put h3 hd (av := .un) (v := undef) trivial (by intro id _ hm; simp [AV.ids, AV.svs, Pk.svs, SV.ids] at hm)⟩

theorem good_store (h : InvS cx st sh a W Fr) (hd : ∀ d', o.dst = some d' → d' < cx.n) (hnid : ∀ k, k < 64 → Fr (nid + k)) (hpins : ∀ q ∈ cx.pins, q.1 < 1000) {t : TypeId} {x y : Operand} (ho : o.op = .store t x y) {n : Option Nat} (ht : aggOf P t = some n) {sv : SV} (hx : st.ev x = .one sv) {p : Pk}
    (hy : st.ev y = .pk p) (hs : solids st p.svs) (hK : storeK st nid sv (n.getD 1) p.svs K) : Good P cx st Fr nid o a W K Q := by
  obtain ⟨hl, hK⟩ := hK
  cases sv with
  | vad id j =>
    simp only at hK
    rcases hf : st.vars id with _ | fs
    · simp only [hf] at hK
    · simp only [hf] at hK
      exact good_storeVar h hd hpins ho ht hx hy hs hl hf hK.1 hK.2
  | oad id i j => exact good_storeObj h hd hnid hpins ho ht hx hy hs hl hK
  | oin id i j s k =>
    simp only at hK
    rcases hob : st.objs id with _ | ⟨w, rows⟩
    · simp only [hob] at hK
    · simp only [hob] at hK
      rcases hc : Rows.cell rows i j with _ | ⟨s', ys⟩ | _
      · simp only [hc] at hK
      · simp only [hc] at hK
        obtain ⟨rfl, _, hk, hK⟩ := hK
        rcases hv : p.svs with _ | ⟨x0, r⟩
        · rw [hv] at hK; exact hK.elim
        · cases x0 with
          | sc v =>
            cases r with
            | nil =>
              rw [hv] at hK hl
              exact good_storeInn h hd hnid hpins ho ht hx hy hs hv hl.symm hob hc hk hK.2
            | cons _ _ => rw [hv] at hK; exact hK.elim
          | _ => rw [hv] at hK; exact hK.elim
      · simp only [hc] at hK
  | _ => exact hK.elim
end store
end Go.Proofs.YtedciihjgbkjgacGreatDoor.A

/-! THE ABSTRACT SEMANTICS IS SOUND, seventeenth part: what a call is handed. Conditions: none. -/
namespace Go.Proofs.YtedciihjgbkjgacGreatDoor.A
open Go
set_option linter.unusedSimpArgs false
set_option linter.unusedVariables false

/-- A leaf of a call: its number, what the caller knows, what the call is told, what comes back, the value. -/
structure CRow where
  k : Nat
  s : SV
  l : Leaf
  u : Leaf
  v : Value

def rowsLs : Nat → List SV → List Leaf → List Leaf → List Value → List CRow
  | k, s :: ss, l :: ls, u :: us, v :: vs => ⟨k, s, l, u, v⟩ :: rowsLs (k + 1) ss ls us vs
  | _, _, _, _, _ => []
def rowsPk (k : Nat) : Pk → LV → LV → Value → List CRow
  | .one s, .one l, .one u, v => [⟨k, s, l, u, v⟩]
  | .agg xs, .agg ls, .agg us, .agg cs => rowsLs k xs ls us cs.toList
  | _, _, _, _ => []
def rowsAll : Nat → List Pk → List LV → List LV → List Value → List CRow
  | k, p :: ps, l :: ls, u :: us, v :: vs => rowsPk k p l u v ++ rowsAll (k + 16) ps ls us vs
  | _, _, _, _, _ => []

section crows
variable {st : St} {W : World} {sh : Sh}

theorem rowsLs_rep : ∀ {k : Nat} {ss : List SV} {ls us : List Leaf} {vs : List Value}, All2 (SVRep st W sh) ss vs → All2 (pass st) ss ls → fitLeaves ss ls us → ∀ r ∈ rowsLs k ss ls us vs, SVRep st W sh r.s r.v ∧ pass st r.s r.l ∧ fitLeaf r.s r.l r.u
  | _, [], [], [], [], _, _, _ => by simp [rowsLs]
  | k, s :: ss, l :: ls, u :: us, v :: vs, ⟨h1, h2⟩, ⟨g1, g2⟩, ⟨f1, f2⟩ => by
    intro r hr
    simp only [rowsLs, List.mem_cons] at hr
    rcases hr with rfl | hr
    · exact ⟨h1, g1, f1⟩
    · exact rowsLs_rep h2 g2 f2 r hr
theorem rowsPk_rep {k : Nat} {p : Pk} {l u : LV} {v : Value} (h : PkRep st W sh p v) (g : passPk st p l) (f : fitPk p l u) : ∀ r ∈ rowsPk k p l u v, SVRep st W sh r.s r.v ∧ pass st r.s r.l ∧ fitLeaf r.s r.l r.u := by
  cases p with
  | one s => cases l with
    | one l => cases u with
      | one u => intro r hr; simp only [rowsPk, List.mem_singleton] at hr; subst hr; exact ⟨h, g, f⟩
      | agg us => exact f.elim
    | agg ls => exact g.elim
  | agg xs => cases l with
    | one l => exact g.elim
    | agg ls => cases u with
      | one u => exact f.elim
      | agg us =>
        obtain ⟨cs, e, h2⟩ := h
        subst e
        exact rowsLs_rep h2 g f
theorem rowsAll_rep : ∀ {k : Nat} {ps : List Pk} {ls us : List LV} {vs : List Value}, All2 (PkRep st W sh) ps vs → All2 (passPk st) ps ls → fits ps ls us → ∀ r ∈ rowsAll k ps ls us vs, SVRep st W sh r.s r.v ∧ pass st r.s r.l ∧ fitLeaf r.s r.l r.u
  | _, [], [], [], [], _, _, _ => by simp [rowsAll]
  | k, p :: ps, l :: ls, u :: us, v :: vs, ⟨h1, h2⟩, ⟨g1, g2⟩, ⟨f1, f2⟩ => by
    intro r hr
    simp only [rowsAll, List.mem_append] at hr
    rcases hr with hr | hr
    · exact rowsPk_rep h1 g1 f1 r hr
    · exact rowsAll_rep h2 g2 f2 r hr

theorem rowsLs_leaves {W' : World} {lab : Nat → Lab} : ∀ {k : Nat} {ss : List SV} {ls us : List Leaf} {vs : List Value}, All2 (SVRep st W sh) ss vs → All2 (pass st) ss ls → fitLeaves ss ls us → (∀ r ∈ rowsLs k ss ls us vs, LeafRep W' lab r.k r.l r.v) → LeavesRep W' lab k ls vs
  | _, [], [], [], [], _, _, _, _ => trivial
  | k, s :: ss, l :: ls, u :: us, v :: vs, ⟨h1, h2⟩, ⟨g1, g2⟩, ⟨f1, f2⟩, h => by
    refine ⟨h ⟨k, s, l, u, v⟩ (by simp [rowsLs]), rowsLs_leaves h2 g2 f2 fun r hr => h r (by simp [rowsLs, hr])⟩
theorem rowsAll_leaves {W' : World} {lab : Nat → Lab} : ∀ {k : Nat} {ps : List Pk} {ls us : List LV} {vs : List Value}, All2 (PkRep st W sh) ps vs → All2 (passPk st) ps ls → fits ps ls us → (∀ r ∈ rowsAll k ps ls us vs, LeafRep W' lab r.k r.l r.v) → LVsRep W' lab k ls vs
  | _, [], [], [], [], _, _, _, _ => trivial
  | k, p :: ps, l :: ls, u :: us, v :: vs, ⟨h1, h2⟩, ⟨g1, g2⟩, ⟨f1, f2⟩, h => by
    refine ⟨?_, rowsAll_leaves h2 g2 f2 fun r hr => h r (by simp [rowsAll, hr])⟩
    have h' : ∀ r ∈ rowsPk k p l u v, LeafRep W' lab r.k r.l r.v := fun r hr => h r (by simp [rowsAll, hr])
    cases p with
    | one s => cases l with
      | one l => cases u with
        | one u => exact h' ⟨k, s, l, u, v⟩ (by simp [rowsPk])
        | agg us => exact f1.elim
      | agg ls => exact g1.elim
    | agg xs => cases l with
      | one l => exact g1.elim
      | agg ls => cases u with
        | one u => exact f1.elim
        | agg us =>
          obtain ⟨cs, e, h3⟩ := h1
          subst e
          exact ⟨cs, rfl, rowsLs_leaves h3 g1 f1 h'⟩
theorem rowsLs_back {W' : World} {lab : Nat → Lab} : ∀ {k : Nat} {ss : List SV} {ls us : List Leaf} {vs : List Value}, LeavesRep W' lab k us vs → fitLeaves ss ls us → ∀ r ∈ rowsLs k ss ls us vs, LeafRep W' lab r.k r.u r.v
  | _, [], [], [], [], _, _ => by simp [rowsLs]
  | k, s :: ss, l :: ls, u :: us, v :: vs, ⟨h1, h2⟩, ⟨f1, f2⟩ => by
    intro r hr
    simp only [rowsLs, List.mem_cons] at hr
    rcases hr with rfl | hr
    · exact h1
    · exact rowsLs_back h2 f2 r hr
  | _, [], [], [], _ :: _, h, _ => h.elim
  | _, _ :: _, _ :: _, _ :: _, [], h, _ => h.elim
theorem rowsAll_back {W' : World} {lab : Nat → Lab} : ∀ {k : Nat} {ps : List Pk} {ls us : List LV} {vs : List Value}, LVsRep W' lab k us vs → All2 (passPk st) ps ls → fits ps ls us → ∀ r ∈ rowsAll k ps ls us vs, LeafRep W' lab r.k r.u r.v
  | _, [], [], [], [], _, _, _ => by simp [rowsAll]
  | k, p :: ps, l :: ls, u :: us, v :: vs, ⟨h1, h2⟩, ⟨g1, g2⟩, ⟨f1, f2⟩ => by
    intro r hr
    simp only [rowsAll, List.mem_append] at hr
    rcases hr with hr | hr
    · cases p with
      | one s => cases l with
        | one l => cases u with
          | one u => simp only [rowsPk, List.mem_singleton] at hr; subst hr; exact h1
          | agg us => exact f1.elim
        | agg ls => exact g1.elim
      | agg xs => cases l with
        | one l => exact g1.elim
        | agg ls => cases u with
          | one u => exact f1.elim
          | agg us =>
            obtain ⟨cs, e, h3⟩ := h1
            subst e
            exact rowsLs_back h3 f1 r hr
    · exact rowsAll_back h2 g2 f2 r hr
  | _, [], [], [], _ :: _, h, _, _ => h.elim
  | _, _ :: _, _ :: _, _ :: _, [], h, _, _ => h.elim

/-! #### the leaves' numbers -/
theorem rowsLs_keys : ∀ {k : Nat} {ss : List SV} {ls us : List Leaf} {vs : List Value}, (∀ r ∈ rowsLs k ss ls us vs, k ≤ r.k ∧ r.k < k + ls.length) ∧ ((rowsLs k ss ls us vs).map (·.k)).Nodup
  | k, s :: ss, l :: ls, u :: us, v :: vs => by
    obtain ⟨h1, h2⟩ := rowsLs_keys (k := k + 1) (ss := ss) (ls := ls) (us := us) (vs := vs)
    constructor
    · intro r hr
      simp only [rowsLs, List.mem_cons] at hr
      rcases hr with rfl | hr
      · simp
      · have := h1 r hr
        simp only [List.length_cons]; omega
    · simp only [rowsLs, List.map_cons, List.nodup_cons]
      refine ⟨fun hm => ?_, h2⟩
      obtain ⟨r, hr, e⟩ := List.mem_map.mp hm
      have := h1 r hr
      omega
  | _, [], _, _, _ => by simp [rowsLs]
  | _, _ :: _, [], _, _ => by simp [rowsLs]
  | _, _ :: _, _ :: _, [], _ => by simp [rowsLs]
  | _, _ :: _, _ :: _, _ :: _, [] => by simp [rowsLs]
theorem rowsPk_keys {k : Nat} {p : Pk} {l u : LV} {v : Value} (hl : l.leaves.length ≤ 16) : (∀ r ∈ rowsPk k p l u v, k ≤ r.k ∧ r.k < k + 16) ∧ ((rowsPk k p l u v).map (·.k)).Nodup := by
  unfold rowsPk
  split
  · simp
  · rename_i xs ls us cs
    obtain ⟨h1, h2⟩ := rowsLs_keys (k := k) (ss := xs) (ls := ls) (us := us) (vs := cs.toList)
    refine ⟨fun r hr => ?_, h2⟩
    have := h1 r hr
    simp only [LV.leaves] at hl
    omega
  · simp
theorem rowsAll_keys : ∀ {k : Nat} {ps : List Pk} {ls us : List LV} {vs : List Value}, (∀ l ∈ ls, l.leaves.length ≤ 16) → (∀ r ∈ rowsAll k ps ls us vs, k ≤ r.k ∧ r.k < k + 16 * ls.length) ∧ ((rowsAll k ps ls us vs).map (·.k)).Nodup
  | k, p :: ps, l :: ls, u :: us, v :: vs, hl => by
    obtain ⟨h1, h2⟩ := rowsAll_keys (k := k + 16) (ps := ps) (ls := ls) (us := us) (vs := vs) (fun l m => hl l (by simp [m]))
    obtain ⟨g1, g2⟩ := rowsPk_keys (k := k) (p := p) (u := u) (v := v) (hl l (by simp))
    constructor
    · intro r hr
      simp only [rowsAll, List.mem_append] at hr
      simp only [List.length_cons]
      rcases hr with hr | hr
      · have := g1 r hr; omega
      · have := h1 r hr; omega
    · simp only [rowsAll, List.map_append]
      rw [List.nodup_append]
      refine ⟨g2, h2, fun x hx y hy => ?_⟩
      obtain ⟨r, hr, rfl⟩ := List.mem_map.mp hx
      obtain ⟨r', hr', rfl⟩ := List.mem_map.mp hy
      have a1 := g1 r hr
      have a2 := h1 r' hr'
      omega
  | _, [], _, _, _, _ => by simp [rowsAll]
  | _, _ :: _, [], _, _, _ => by simp [rowsAll]
  | _, _ :: _, _ :: _, [], _, _ => by simp [rowsAll]
  | _, _ :: _, _ :: _, _ :: _, [], _ => by simp [rowsAll]

/-! #### what is read off the leaves -/
theorem rowsLs_flat {δ : Type} (f : SV → Leaf → List δ) : ∀ {k : Nat} {ss : List SV} {ls us : List Leaf} {vs : List Value}, All2 (SVRep st W sh) ss vs → All2 (pass st) ss ls → fitLeaves ss ls us → (rowsLs k ss ls us vs).flatMap (fun r => f r.s r.l) = (List.zipWith f ss ls).flatten
  | _, [], [], [], [], _, _, _ => rfl
  | k, s :: ss, l :: ls, u :: us, v :: vs, ⟨_, h2⟩, ⟨_, g2⟩, ⟨_, f2⟩ => by
    simp only [rowsLs, List.flatMap_cons, List.zipWith_cons_cons, List.flatten_cons, rowsLs_flat f h2 g2 f2]
theorem rowsLs_flat3 {δ : Type} (f : SV → Leaf → Leaf → List δ) : ∀ {k : Nat} {ss : List SV} {ls us : List Leaf} {vs : List Value}, All2 (SVRep st W sh) ss vs → All2 (pass st) ss ls → fitLeaves ss ls us → (rowsLs k ss ls us vs).flatMap (fun r => f r.s r.l r.u) = zip3 f ss ls us
  | _, [], [], [], [], _, _, _ => rfl
  | k, s :: ss, l :: ls, u :: us, v :: vs, ⟨_, h2⟩, ⟨_, g2⟩, ⟨_, f2⟩ => by
    simp only [rowsLs, List.flatMap_cons, zip3, rowsLs_flat3 f h2 g2 f2]
theorem rowsPk_hand {k : Nat} {p : Pk} {l u : LV} {v : Value} (h : PkRep st W sh p v) (g : passPk st p l) (f : fitPk p l u) : (rowsPk k p l u v).flatMap (fun r => handLeaf r.s r.l) = handPk p l ∧ (rowsPk k p l u v).flatMap (fun r => lends st r.s r.l) = lendsPk st p l ∧
    ∀ {δ : Type} (q : SV → Leaf → Leaf → List δ), (rowsPk k p l u v).flatMap (fun r => q r.s r.l r.u) = updPk q p l u := by
  cases p with
  | one s => cases l with
    | one l => cases u with
      | one u => simp [rowsPk, handPk, lendsPk, updPk]
      | agg us => exact f.elim
    | agg ls => exact g.elim
  | agg xs => cases l with
    | one l => exact g.elim
    | agg ls => cases u with
      | one u => exact f.elim
      | agg us =>
        obtain ⟨cs, e, h2⟩ := h
        subst e
        exact ⟨rowsLs_flat _ h2 g f, rowsLs_flat _ h2 g f, fun q => rowsLs_flat3 q h2 g f⟩
theorem rowsAll_hand : ∀ {k : Nat} {ps : List Pk} {ls us : List LV} {vs : List Value}, All2 (PkRep st W sh) ps vs → All2 (passPk st) ps ls → fits ps ls us →
    (rowsAll k ps ls us vs).flatMap (fun r => handLeaf r.s r.l) = (List.zipWith handPk ps ls).flatten ∧ (rowsAll k ps ls us vs).flatMap (fun r => lends st r.s r.l) = (List.zipWith (lendsPk st) ps ls).flatten ∧
    ∀ {δ : Type} (q : SV → Leaf → Leaf → List δ), (rowsAll k ps ls us vs).flatMap (fun r => q r.s r.l r.u) = zip3 (updPk q) ps ls us
  | _, [], [], [], [], _, _, _ => ⟨rfl, rfl, fun q => rfl⟩
  | k, p :: ps, l :: ls, u :: us, v :: vs, ⟨h1, h2⟩, ⟨g1, g2⟩, ⟨f1, f2⟩ => by
    obtain ⟨a1, a2, a3⟩ := rowsPk_hand (k := k) h1 g1 f1
    obtain ⟨b1, b2, b3⟩ := rowsAll_hand (k := k + 16) h2 g2 f2
    refine ⟨?_, ?_, fun q => ?_⟩
    · simp only [rowsAll, List.flatMap_append, List.zipWith_cons_cons, List.flatten_cons, a1, b1]
    · simp only [rowsAll, List.flatMap_append, List.zipWith_cons_cons, List.flatten_cons, a2, b2]
    · simp only [rowsAll, List.flatMap_append, zip3, a3 q, b3 q]
theorem nodup_flatMap {α β : Type} {f : α → List β} : ∀ {l : List α}, (l.flatMap f).Nodup → ∀ r ∈ l, ∀ r' ∈ l, ∀ x, x ∈ f r → x ∈ f r' → r = r'
  | [], _, r, hr, _, _, _, _, _ => by cases hr
  | a :: l, h, r, hr, r', hr', x, hx, hx' => by
    rw [List.flatMap_cons, List.nodup_append] at h
    obtain ⟨_, h2, h3⟩ := h
    rcases List.mem_cons.mp hr with e | hr
    · rcases List.mem_cons.mp hr' with e' | hr'
      · rw [e, e']
      · rw [e] at hx
        exact absurd rfl (h3 x hx x (List.mem_flatMap.mpr ⟨r', hr', hx'⟩))
    · rcases List.mem_cons.mp hr' with e' | hr'
      · rw [e'] at hx'
        exact absurd rfl (h3 x hx' x (List.mem_flatMap.mpr ⟨r, hr, hx⟩))
      · exact nodup_flatMap h2 r hr r' hr' x hx hx'
theorem nodup_map {α β : Type} {f : α → β} : ∀ {l : List α}, (l.map f).Nodup → ∀ r ∈ l, ∀ r' ∈ l, f r = f r' → r = r'
  | [], _, r, hr, _, _, _ => by cases hr
  | a :: l, h, r, hr, r', hr', e => by
    rw [List.map_cons, List.nodup_cons] at h
    rcases List.mem_cons.mp hr with e1 | hr
    · rcases List.mem_cons.mp hr' with e2 | hr'
      · rw [e1, e2]
      · rw [e1] at e
        exact absurd (List.mem_map.mpr ⟨r', hr', e.symm⟩) h.1
    · rcases List.mem_cons.mp hr' with e2 | hr'
      · rw [e2] at e
        exact absurd (List.mem_map.mpr ⟨r, hr, e⟩) h.1
      · exact nodup_map h.2 r hr r' hr' e
end crows
end Go.Proofs.YtedciihjgbkjgacGreatDoor.A

/-! THE ABSTRACT SEMANTICS IS SOUND, eighteenth part: a call's labels. Conditions: none. -/
namespace Go.Proofs.YtedciihjgbkjgacGreatDoor.A
open Go
set_option linter.unusedSimpArgs false
set_option linter.unusedVariables false

/-- A leaf that is handed over takes a label with it. -/
def Cov (st : St) (W : World) (sh : Sh) (r : CRow) (L L' : Lab) : Prop :=
  match r.s, r.l with
  | .ref id _ _ _, .ow _ _ => r.v = sh.μ id ∧ ((L = .own id ∧ L' = .own r.k) ∨ ∃ i j, L = .inn id i j ∧ L' = .inn r.k i j)
  | .rin id i j _ _ _, .ow _ _ => (∃ w rows, st.objs id = some (w, rows) ∧ headAt W (sh.μ id) w i j = some r.v) ∧ L = .inn id i j ∧ L' = .own r.k
  | .vad id _, .op _ => L = .var id ∧ L' = .var r.k
  | _, _ => False
def baseL (lent : Bool) : Lab → Lab
  | .imm => .imm
  | .dead => .dead
  | .far => .far
  | _ => if lent then .imm else .far
def nextL (nid : Nat) : Lab → Lab
  | .own k => .own (nid + (k - 4096))
  | .inn k i j => .inn (nid + (k - 4096)) i j
  | .var k => .var (nid + (k - 4096))
  | .far => .imm
  | L => L
open Classical in
noncomputable def trL (st : St) (W : World) (sh : Sh) (R : List CRow) (lent : Bool) (L : Lab) : Lab :=
  if h : ∃ L', ∃ r ∈ R, Cov st W sh r L L' then Classical.choose h else baseL lent L
open Classical in
noncomputable def bkL (st : St) (W : World) (sh : Sh) (R : List CRow) (nid : Nat) (L' : Lab) : Lab :=
  if h : ∃ L, ∃ r ∈ R, Cov st W sh r L L' then Classical.choose h else nextL nid L'

section labs
variable {st : St} {W : World} {sh : Sh} {R : List CRow} {lent : Bool} {nid : Nat}

def ofId (L : Lab) (id : Nat) : Prop := L = .own id ∨ (∃ i j, L = .inn id i j) ∨ L = .var id
theorem cov_id {r : CRow} {L L' : Lab} (h : Cov st W sh r L L') : ∃ id, id ∈ handLeaf r.s r.l ∧ ofId L id ∧ ofId L' r.k := by
  unfold Cov at h
  split at h
  · rename_i id _ _ _ _ _ e1 e2
    refine ⟨id, by simp [e1, e2, handLeaf], ?_⟩
    rcases h with ⟨_, ⟨h1, h2⟩ | ⟨i, j, h1, h2⟩⟩
    · exact ⟨.inl h1, .inl h2⟩
    · exact ⟨.inr (.inl ⟨i, j, h1⟩), .inr (.inl ⟨i, j, h2⟩)⟩
  · rename_i id i j _ _ _ _ _ e1 e2
    exact ⟨id, by simp [e1, e2, handLeaf], .inr (.inl ⟨i, j, h.2.1⟩), .inl h.2.2⟩
  · rename_i id _ _ e1 e2
    exact ⟨id, by simp [e1, e2, handLeaf], .inr (.inr h.1), .inr (.inr h.2)⟩
  · exact h.elim
theorem ofId_inj {L : Lab} {a b : Nat} (h : ofId L a) (h' : ofId L b) : a = b := by
  rcases h with rfl | ⟨i, j, rfl⟩ | rfl <;> rcases h' with e | ⟨i', j', e⟩ | e <;> cases e <;> rfl
theorem ofId_real {L : Lab} {a : Nat} (h : ofId L a) : L ≠ .imm ∧ L ≠ .dead ∧ L ≠ .far := by
  rcases h with rfl | ⟨i, j, rfl⟩ | rfl <;> simp
theorem cov_same {r : CRow} {L L1 L2 : Lab} (h : Cov st W sh r L L1) (h' : Cov st W sh r L L2) : L1 = L2 := by
  unfold Cov at h h'
  split at h
  · rename_i e1 e2
    simp only [e1, e2] at h'
    rcases h with ⟨_, ⟨rfl, rfl⟩ | ⟨i, j, rfl, rfl⟩⟩ <;> rcases h' with ⟨_, ⟨e, e'⟩ | ⟨i', j', e, e'⟩⟩ <;> cases e <;> exact e'.symm
  · rename_i e1 e2
    simp only [e1, e2] at h'
    rw [h.2.2, h'.2.2]
  · rename_i e1 e2
    simp only [e1, e2] at h'
    rw [h.2, h'.2]
  · exact h.elim
theorem cov_back {r : CRow} {L1 L2 L' : Lab} (h : Cov st W sh r L1 L') (h' : Cov st W sh r L2 L') : L1 = L2 := by
  unfold Cov at h h'
  split at h
  · rename_i e1 e2
    simp only [e1, e2] at h'
    rcases h with ⟨_, ⟨rfl, rfl⟩ | ⟨i, j, rfl, rfl⟩⟩ <;> rcases h' with ⟨_, ⟨e, e'⟩ | ⟨i', j', e, e'⟩⟩ <;> cases e' <;> exact e.symm
  · rename_i e1 e2
    simp only [e1, e2] at h'
    rw [h.2.1, h'.2.1]
  · rename_i e1 e2
    simp only [e1, e2] at h'
    rw [h.1, h'.1]
  · exact h.elim

/-- What is known of the leaves. -/
structure Leaf0 (st : St) (W : World) (sh : Sh) (R : List CRow) : Prop where
  rep : ∀ r ∈ R, SVRep st W sh r.s r.v ∧ pass st r.s r.l ∧ fitLeaf r.s r.l r.u
  keys : (R.map (·.k)).Nodup
  hand : (R.flatMap fun r => handLeaf r.s r.l).Nodup
structure Leafs (st : St) (W : World) (sh : Sh) (R : List CRow) : Prop extends Leaf0 st W sh R where
  low : ∀ r ∈ R, r.k < 960
variable (hR : Leaf0 st W sh R)
include hR
theorem Leaf0.uni {r r' : CRow} (hr : r ∈ R) (hr' : r' ∈ R) {L L1 L2 : Lab} (h : Cov st W sh r L L1) (h' : Cov st W sh r' L L2) : L1 = L2 := by
  obtain ⟨id, h1, h2, _⟩ := cov_id h
  obtain ⟨id', h1', h2', _⟩ := cov_id h'
  have := ofId_inj h2 h2'
  subst this
  have := nodup_flatMap hR.hand r hr r' hr' id h1 h1'
  subst this
  exact cov_same h h'
theorem Leaf0.inj {r r' : CRow} (hr : r ∈ R) (hr' : r' ∈ R) {L1 L2 L' : Lab} (h : Cov st W sh r L1 L') (h' : Cov st W sh r' L2 L') : L1 = L2 := by
  obtain ⟨id, _, _, h2⟩ := cov_id h
  obtain ⟨id', _, _, h2'⟩ := cov_id h'
  have := nodup_map hR.keys r hr r' hr' (ofId_inj h2 h2')
  subst this
  exact cov_back h h'
theorem Leaf0.tr_cov {r : CRow} (hr : r ∈ R) {L L' : Lab} (h : Cov st W sh r L L') : trL st W sh R lent L = L' := by
  have hex : ∃ L', ∃ r ∈ R, Cov st W sh r L L' := ⟨L', r, hr, h⟩
  unfold trL
  rw [dif_pos hex]
  obtain ⟨r', hr', h'⟩ := Classical.choose_spec hex
  exact hR.uni hr' hr h' h
theorem Leaf0.bk_cov {r : CRow} (hr : r ∈ R) {L L' : Lab} (h : Cov st W sh r L L') : bkL st W sh R nid L' = L := by
  have hex : ∃ L, ∃ r ∈ R, Cov st W sh r L L' := ⟨L, r, hr, h⟩
  unfold bkL
  rw [dif_pos hex]
  obtain ⟨r', hr', h'⟩ := Classical.choose_spec hex
  exact hR.inj hr' hr h' h
omit hR in
theorem tr_base {L : Lab} (h : ∀ r ∈ R, ∀ L', ¬ Cov st W sh r L L') : trL st W sh R lent L = baseL lent L := by
  unfold trL
  rw [dif_neg]
  rintro ⟨L', r, hr, h'⟩
  exact h r hr L' h'
omit hR in
theorem bk_next {L' : Lab} (h : ∀ r ∈ R, ∀ L, ¬ Cov st W sh r L L') : bkL st W sh R nid L' = nextL nid L' := by
  unfold bkL
  rw [dif_neg]
  rintro ⟨L, r, hr, h'⟩
  exact h r hr L h'
omit hR in
theorem no_cov_of {L : Lab} (h : L = .imm ∨ L = .dead ∨ L = .far) : ∀ r ∈ R, ∀ L', ¬ Cov st W sh r L L' := by
  intro r _ L' hc
  obtain ⟨id, _, h2, _⟩ := cov_id hc
  obtain ⟨a1, a2, a3⟩ := ofId_real h2
  rcases h with h | h | h
  · exact a1 h
  · exact a2 h
  · exact a3 h
omit hR in
theorem no_cov_id {L : Lab} {id : Nat} (h : ofId L id) (hn : id ∉ R.flatMap fun r => handLeaf r.s r.l) : ∀ r ∈ R, ∀ L', ¬ Cov st W sh r L L' := by
  intro r hr L' hc
  obtain ⟨id', h1, h2, _⟩ := cov_id hc
  have := ofId_inj h h2
  subst this
  exact hn (List.mem_flatMap.mpr ⟨r, hr, h1⟩)
omit hR in
theorem Leafs.no_cov_key (hR : Leafs st W sh R) {L' : Lab} {k : Nat} (h : ofId L' k) (hk : 960 ≤ k) : ∀ r ∈ R, ∀ L, ¬ Cov st W sh r L L' := by
  intro r hr L hc
  obtain ⟨_, _, _, h2⟩ := cov_id hc
  have := ofId_inj h h2
  have := hR.low r hr
  omega
omit hR in
theorem tr_imm : trL st W sh R lent .imm = .imm := tr_base (no_cov_of (.inl rfl))
omit hR in
theorem tr_dead : trL st W sh R lent .dead = .dead := tr_base (no_cov_of (.inr (.inl rfl)))
omit hR in
theorem tr_far : trL st W sh R lent .far = .far := tr_base (no_cov_of (.inr (.inr rfl)))
omit hR in
theorem tr_rest {L : Lab} {id : Nat} (h : ofId L id) (hn : ∀ r ∈ R, ∀ L', ¬ Cov st W sh r L L') : trL st W sh R lent L = if lent then .imm else .far := by
  rw [tr_base hn]
  rcases h with rfl | ⟨i, j, rfl⟩ | rfl <;> rfl
omit hR in
theorem tr_real {L : Lab} (h : trL st W sh R lent L = .dead) : L = .dead := by
  by_cases hc : ∃ r ∈ R, ∃ L', Cov st W sh r L L'
  · unfold trL at h
    have hex : ∃ L', ∃ r ∈ R, Cov st W sh r L L' := by obtain ⟨r, hr, L', h'⟩ := hc; exact ⟨L', r, hr, h'⟩
    rw [dif_pos hex] at h
    obtain ⟨r, hr, h'⟩ := Classical.choose_spec hex
    rw [h] at h'
    obtain ⟨_, _, _, h2⟩ := cov_id h'
    exact absurd rfl (ofId_real h2).2.1
  · rw [tr_base (fun r hr L' h' => hc ⟨r, hr, L', h'⟩)] at h
    cases L <;> simp only [baseL] at h <;> first | rfl | cases h | (split at h <;> cases h)
/-- Where nothing is lent, what is read only for the call is so for the caller. -/
theorem Leaf0.tr_imm_of {L : Lab} (hl : lent = false) (h : trL st W sh R lent L = .imm) : L = .imm := by
  by_cases hc : ∃ r ∈ R, ∃ L', Cov st W sh r L L'
  · obtain ⟨r, hr, L', h'⟩ := hc
    rw [hR.tr_cov hr h'] at h
    obtain ⟨_, _, _, h2⟩ := cov_id h'
    exact absurd h (ofId_real h2).1
  · rw [tr_base (fun r hr L' h' => hc ⟨r, hr, L', h'⟩)] at h
    subst hl
    cases L <;> simp_all [baseL]
end labs

/-- The call's labels, and the labels behind it. -/
noncomputable def lcOf (st : St) (W : World) (sh : Sh) (R : List CRow) (lent : Bool) : Nat → Lab := fun b => trL st W sh R lent (sh.lab b)
open Classical in
noncomputable def labOf (st : St) (W : World) (sh : Sh) (R : List CRow) (lent : Bool) (nid : Nat) (lab' : Nat → Lab) : Nat → Lab := fun b =>
  if b < W.heap.size ∧ (lcOf st W sh R lent b = .imm ∨ lcOf st W sh R lent b = .far) then sh.lab b else bkL st W sh R nid (lab' b)

section pre
variable {cx : Cx} {st : St} {sh : Sh} {a : Act} {W : World} {Fr : Nat → Prop} {R : List CRow} {lent : Bool}

theorem imRep_nil {lab : Nat → Lab} {w : Nat} {A : Option Addr} : ImRep W lab w [] (.slice A 0 0) := ⟨A, 0, rfl, by simp, by simp, fun h => absurd rfl h⟩
theorem frz_lift (xs : List Value) : frz (lift xs) = lift xs := by
  unfold frz lift
  rw [List.map_map]
  rfl
theorem frz_length (rows : Rows) : (frz rows).length = rows.length := by simp [frz]
theorem imCell_frz {lab : Nat → Lab} {c : Cell} {v : Value} (h : ImCell W lab c v) : ImCell W lab c.frz v := by
  cases c <;> exact h
theorem imRow_frz {lab : Nat → Lab} {row : List Cell} {b o : Nat} (h : ImRow W lab row b o) : ImRow W lab (row.map Cell.frz) b o := by
  intro j c hj
  simp only [List.getElem?_map, Option.map_eq_some_iff] at hj
  obtain ⟨c0, h0, rfl⟩ := hj
  obtain ⟨v, h1, h2⟩ := h j c0 h0
  exact ⟨v, h1, imCell_frz h2⟩
theorem imRep_frz {lab : Nat → Lab} {w : Nat} {rows : Rows} {v : Value} (h : ImRep W lab w rows v) : ImRep W lab w (frz rows) v := by
  obtain ⟨A, cap, h1, h2, h3, h4⟩ := h
  refine ⟨A, cap, by rw [frz_length]; exact h1, by rw [frz_length]; exact h2, fun r hr => ?_, fun hne => ?_⟩
  · simp only [frz, List.mem_map] at hr
    obtain ⟨r0, hr0, rfl⟩ := hr
    rw [List.length_map]; exact h3 r0 hr0
  · obtain ⟨hw, b, o, e1, e2, e3⟩ := h4 (by rintro rfl; exact hne rfl)
    refine ⟨hw, b, o, e1, e2, fun i r hi => ?_⟩
    simp only [frz, List.getElem?_map, Option.map_eq_some_iff] at hi
    obtain ⟨r0, h0, rfl⟩ := hi
    exact imRow_frz (e3 i r0 h0)
/-- One's own cell, lent. -/
theorem ownCell_lent {lab lc : Nat → Lab} {L : Lab} {c : Cell} {v : Value} (himm : ∀ b, lab b = .imm → lc b = .imm) (hL : ∀ s xs, c = .sl (s + 1) xs → ∀ b, lab b = L → lc b = .imm) (h : OwnCell W lab L c v) : ImCell W lc c.frz v := by
  cases c with
  | sc x => exact h
  | gone => exact h
  | sl s xs => cases s with
    | zero => exact imSl_agree (S := (· = .imm)) (fun b hb => ⟨by rw [himm b hb, hb], rfl⟩) rfl h
    | succ s =>
      rcases h with ⟨A, e, hn⟩ | ⟨b, cap, c, t, e1, e2, e3, e4, e5, e6⟩
      · exact ⟨A, 0, by rw [hn]; exact e, by rw [hn]; simp, fun hne => absurd hn hne⟩
      · refine ⟨_, cap, e1, e2, fun hne => ⟨b, 0, rfl, hL s xs rfl b e3, fun k x hk => ?_⟩⟩
        obtain ⟨z1, z2⟩ := e6 k x hk
        exact ⟨z1, by rw [cell_cells e4, Nat.zero_add]; exact z2⟩
/-- What is read, lent. -/
theorem InvS.lendRows (h : InvS cx st sh a W Fr) {s : SV} {v : Value} (hv : SVRep st W sh s v) {w : Nat} {rows : Rows} (hr : st.rows s = some (w, rows)) {lc : Nat → Lab} (himm : ∀ b, sh.lab b = .imm → lc b = .imm) (hids : ∀ id ∈ s.ids', ∀ b, ofId (sh.lab b) id → lc b = .imm) : ImRep W lc w (frz rows) v := by
  have hag : Agree W sh.lab W lc (· = .imm) := fun b hb => ⟨by rw [himm b hb, hb], rfl⟩
  obtain ⟨A0, cap0, e0, hcap0, hrl, _⟩ := h.rows_read hv hr
  unfold St.rows at hr
  split at hr
  · simp only [Option.some.injEq, Prod.mk.injEq] at hr
    obtain ⟨rfl, rfl⟩ := hr
    exact imRep_frz (imRep_agree hag rfl hv)
  · rename_i id w' off len
    split at hr
    · rename_i w2 rows2 hob
      simp only [Option.some.injEq, Prod.mk.injEq] at hr
      obtain ⟨rfl, rfl⟩ := hr
      obtain ⟨rfl, g2, g3⟩ := hv w2 rows2 hob
      have hlen : ((rows2.drop off).take len).length = len := by simp; omega
      obtain ⟨hw0, hrl2, hc⟩ := h.objs id w2 rows2 hob
      refine ⟨A0, cap0, by rw [frz_length]; exact e0, by rw [frz_length]; exact hcap0, fun r hr => ?_, fun hne => ?_⟩
      · simp only [frz, List.mem_map] at hr
        obtain ⟨r0, hr0, rfl⟩ := hr
        rw [List.length_map]; exact hrl r0 hr0
      · have hlt : 0 < len := by
          rcases Nat.eq_zero_or_pos len with e | e
          · exact absurd (List.length_eq_zero_iff.mp (by rw [frz_length, hlen]; exact e)) hne
          · exact e
        rcases hc with ⟨A, _, hn⟩ | ⟨b, cap, c', t', e1, e2, e3, e4, e5, e6⟩
        · subst hn; simp at g2; omega
        · rcases g3 with g3 | ⟨g3, _⟩
          case inr => omega
          simp only [e1, viewOf, if_neg (show ¬ cap = off by omega), Option.map_some, add_mk] at g3
          rw [e0] at g3
          simp only [Value.slice.injEq] at g3
          refine ⟨hw0, b, 0 + off * w2, g3.1, hids id (by simp [SV.ids']) b (.inl e3), fun i r hi j c hj => ?_⟩
          simp only [frz, List.getElem?_map, Option.map_eq_some_iff] at hi
          obtain ⟨r0, hi, rfl⟩ := hi
          simp only [List.getElem?_map, Option.map_eq_some_iff] at hj
          obtain ⟨c0, hj, rfl⟩ := hj
          have hi' : rows2[off + i]? = some r0 := by
            rw [List.getElem?_take] at hi
            split at hi
            · rwa [List.getElem?_drop] at hi
            · cases hi
          obtain ⟨u, k1, k2⟩ := e6 (off + i) j r0 c0 hi' hj
          refine ⟨u, ?_, ownCell_lent himm (fun s xs _ b' hb' => hids id (by simp [SV.ids']) b' (.inr (.inl ⟨_, _, hb'⟩))) k2⟩
          rw [cell_cells e4, show 0 + off * w2 + i * w2 + j = (off + i) * w2 + j by rw [Nat.add_mul]; omega]; exact k1
    · cases hr
  · rename_i id i0 j0 s0 off len
    split at hr
    · rename_i w2 rows2 hob
      split at hr
      · rename_i s' xs hcell
        split at hr
        · rename_i es
          subst es
          simp only [Option.some.injEq, Prod.mk.injEq] at hr
          obtain ⟨rfl, rfl⟩ := hr
          obtain ⟨g0, g1, hd, g2, g3⟩ := hv.2 w2 rows2 xs hob hcell
          have hlen : (lift ((xs.drop off).take len)).length = len := by rw [lift_length]; simp; omega
          have hfl := frz_lift ((xs.drop off).take len)
          rw [hfl]
          refine ⟨A0, cap0, e0, hcap0, hrl, fun hne => ?_⟩
          have hlt : 0 < len := by
            rcases Nat.eq_zero_or_pos len with e | e
            · exact absurd (List.length_eq_zero_iff.mp (by rw [hlen]; exact e)) hne
            · exact e
          obtain ⟨v', k1, k2⟩ := h.own_head hob hcell g0
          rw [g2] at k1; cases k1
          rcases k2 with ⟨A, _, hn⟩ | ⟨b, cap, c', t', e1, e2, e3, e4, e5, e6⟩
          · subst hn; simp at g1; omega
          · rcases g3 with g3 | ⟨g3, _⟩
            case inr => omega
            simp only [e1, viewOf, if_neg (show ¬ cap = off by omega), Option.map_some, add_mk] at g3
            rw [e0] at g3
            simp only [Value.slice.injEq] at g3
            refine ⟨by omega, b, 0 + off * 1, g3.1, hids id (by simp [SV.ids']) b (.inr (.inl ⟨_, _, e3⟩)), fun i r hi j c hj => ?_⟩
            simp only [lift, List.getElem?_map, Option.map_eq_some_iff] at hi
            obtain ⟨x, hx, rfl⟩ := hi
            have hx' : xs[off + i]? = some x := by
              rw [List.getElem?_take] at hx
              split at hx
              · rwa [List.getElem?_drop] at hx
              · cases hx
            cases j with
            | zero =>
              simp at hj; subst hj
              obtain ⟨z1, z2⟩ := e6 _ x hx'
              refine ⟨x, ?_, rfl, z1⟩
              rw [cell_cells e4, show 0 + off * 1 + i * 1 + 0 = off + i by omega]; exact z2
            | succ j => simp at hj
        · cases hr
      · cases hr
    · cases hr
  · cases hr
end pre
end Go.Proofs.YtedciihjgbkjgacGreatDoor.A

/-! THE ABSTRACT SEMANTICS IS SOUND, nineteenth part: what a call is handed reads as it is told. Conditions: none. -/
namespace Go.Proofs.YtedciihjgbkjgacGreatDoor.A
open Go
set_option linter.unusedSimpArgs false
set_option linter.unusedVariables false

section maps
variable {W : World} {lab lab2 : Nat → Lab}
theorem ownCell_map {L L2 : Lab} {c : Cell} {v : Value} (himm : (∀ b, lab b = .imm → lab2 b = .imm) ∨ c.still = true) (h1 : ∀ s xs, c = .sl (s + 1) xs → ∀ b, lab b = L → lab2 b = L2) (h : OwnCell W lab L c v) : OwnCell W lab2 L2 c v := by
  cases c with
  | sc x => exact h
  | gone => exact h
  | sl s xs => cases s with
    | zero =>
      rcases himm with himm | hs
      · exact imSl_agree (S := (· = .imm)) (fun b hb => ⟨by rw [himm b hb, hb], rfl⟩) rfl h
      · obtain ⟨A, cap, e, hl, _⟩ := h
        have : xs = [] := by simpa [Cell.still] using hs
        exact ⟨A, cap, e, hl, fun hne => absurd this hne⟩
    | succ s =>
      rcases h with ⟨A, e, hn⟩ | ⟨b, cap, c, t, e1, e2, e3, e4⟩
      · exact .inl ⟨A, e, hn⟩
      · exact .inr ⟨b, cap, c, t, e1, e2, h1 s xs rfl b e3, e4⟩
theorem ownRep_map {id id2 w : Nat} {rows : Rows} {v : Value} (himm : (∀ b, lab b = .imm → lab2 b = .imm) ∨ stillRows rows = true) (h1 : ∀ b, lab b = .own id → lab2 b = .own id2) (h2 : ∀ b i j, lab b = .inn id i j → lab2 b = .inn id2 i j)
    (h : OwnRep W lab id w rows v) : OwnRep W lab2 id2 w rows v := by
  obtain ⟨hw, hr, hc⟩ := h
  refine ⟨hw, hr, ?_⟩
  rcases hc with ⟨A, e, hn⟩ | ⟨b, cap, c, t, e1, e2, e3, e4, e5, e6⟩
  · exact .inl ⟨A, e, hn⟩
  · refine .inr ⟨b, cap, c, t, e1, e2, h1 b e3, e4, e5, fun i j r x hi hj => ?_⟩
    obtain ⟨u, k1, k2⟩ := e6 i j r x hi hj
    refine ⟨u, k1, ownCell_map ?_ (fun _ _ _ b' hb' => h2 b' i j hb') k2⟩
    rcases himm with himm | hs
    · exact .inl himm
    · exact .inr (List.all_eq_true.mp (List.all_eq_true.mp hs r (List.mem_of_getElem? hi)) x (List.mem_of_getElem? hj))
theorem ownRep_cells {id w : Nat} {rows : Rows} {v : Value} {f : Cell → Cell} (hf : ∀ (L : Lab) (c : Cell) (u : Value), OwnCell W lab L c u → OwnCell W lab L (f c) u) (h : OwnRep W lab id w rows v) : OwnRep W lab id w (rows.map fun r => r.map f) v := by
  obtain ⟨hw, hr, hc⟩ := h
  refine ⟨hw, fun r hm => ?_, ?_⟩
  · obtain ⟨r0, h0, rfl⟩ := List.mem_map.mp hm
    rw [List.length_map]; exact hr r0 h0
  rcases hc with ⟨A, e, hn⟩ | ⟨b, cap, c, t, e1, e2, e3, e4, e5, e6⟩
  · subst hn; exact .inl ⟨A, e, rfl⟩
  · refine .inr ⟨b, cap, c, t, by rw [List.length_map]; exact e1, by rw [List.length_map]; exact e2, e3, e4, e5, fun i j r x hi hj => ?_⟩
    simp only [List.getElem?_map, Option.map_eq_some_iff] at hi
    obtain ⟨r0, h0, rfl⟩ := hi
    simp only [List.getElem?_map, Option.map_eq_some_iff] at hj
    obtain ⟨c0, h1, rfl⟩ := hj
    obtain ⟨u, k1, k2⟩ := e6 i j r0 c0 h0 h1
    exact ⟨u, k1, hf _ _ _ k2⟩
theorem ownCell_rst (L : Lab) (c : Cell) (u : Value) (h : OwnCell W lab L c u) : OwnCell W lab L c.rst u := by
  cases c with
  | sc x => exact h
  | gone => exact h
  | sl s xs => cases s <;> exact h
theorem ownCell_stm {n : Nat} (hn : 0 < n) (L : Lab) (c : Cell) (u : Value) (h : OwnCell W lab L c u) : OwnCell W lab L (c.stm n) u := by
  obtain ⟨n, rfl⟩ : ∃ m, n = m + 1 := ⟨n - 1, by omega⟩
  cases c with
  | sc x => exact h
  | gone => exact h
  | sl s xs => cases s <;> exact h
theorem ownRep_rst {id w : Nat} {rows : Rows} {v : Value} (h : OwnRep W lab id w rows v) : OwnRep W lab id w (rst rows) v := ownRep_cells ownCell_rst h
theorem ownRep_stm {id w n : Nat} (hn : 0 < n) {rows : Rows} {v : Value} (h : OwnRep W lab id w rows v) : OwnRep W lab id w (stm n rows) v := ownRep_cells (ownCell_stm hn) h
theorem rst_rst (rows : Rows) : rst (rst rows) = rst rows := by
  unfold rst
  rw [List.map_map]
  congr 1
  funext r
  simp only [Function.comp]
  rw [List.map_map]
  congr 1
  funext c
  cases c with
  | sl s xs => cases s <;> rfl
  | _ => rfl
theorem rst_lift (xs : List Value) : rst (lift xs) = lift xs := by
  unfold rst lift
  rw [List.map_map]
  rfl
theorem stm_lift (n : Nat) (xs : List Value) : stm n (lift xs) = lift xs := by
  unfold stm lift
  rw [List.map_map]
  rfl
theorem ownRep_nil {id w : Nat} {A : Option Addr} (hw : 0 < w) : OwnRep W lab id w [] (.slice A 0 0) := ⟨hw, by simp, .inl ⟨A, rfl, rfl⟩⟩
/-- An inner slice as a slice of its own. -/
theorem ownRep_of_sl {L : Lab} {k : Nat} {xs : List Value} {v : Value} (h1 : ∀ b, lab b = L → lab2 b = .own k) (h : OwnSl W lab L xs v) : OwnRep W lab2 k 1 (lift xs) v := by
  refine ⟨by omega, fun r hr => ?_, ?_⟩
  · simp only [lift, List.mem_map] at hr
    obtain ⟨x, _, rfl⟩ := hr; rfl
  rcases h with ⟨A, e, hn⟩ | ⟨b, cap, c, t, e1, e2, e3, e4, e5, e6⟩
  · subst hn; exact .inl ⟨A, e, rfl⟩
  · refine .inr ⟨b, cap, c, t, by rw [lift_length]; exact e1, by rw [lift_length]; exact e2, h1 b e3, e4, by rw [e5, Nat.mul_one], fun i j r x hi hj => ?_⟩
    simp only [lift, List.getElem?_map, Option.map_eq_some_iff] at hi
    obtain ⟨y, hy, rfl⟩ := hi
    cases j with
    | zero =>
      simp at hj; subst hj
      obtain ⟨z1, z2⟩ := e6 i y hy
      exact ⟨y, by simpa using z2, rfl, z1⟩
    | succ j => simp at hj
end maps

section pre
variable {cx : Cx} {st : St} {sh : Sh} {a : Act} {W : World} {Fr : Nat → Prop} {R : List CRow} {lent : Bool}

/-- A variable's fields, lent. -/
theorem InvS.lendFields (h : InvS cx st sh a W Fr) {lc : Nat → Lab} (himm : ∀ b, sh.lab b = .imm → lc b = .imm) {id : Nat} {fs : List Fld} (hf : fldsOf st id fs) (hids : ∀ q ∈ id :: varSVs st id, ∀ b, ofId (sh.lab b) q → lc b = .imm) {v : Value} (hv : SVRep st W sh (.vad id 0) v) : IpRep W lc fs 0 v := by
  unfold fldsOf at hf
  rcases hvar : st.vars id with _ | xs
  · rw [hvar] at hf; exact hf.elim
  · rw [hvar] at hf
    obtain ⟨h1, c, t, h2, h3⟩ := h.vars id xs hvar
    refine ⟨sh.β id, 0, hv xs hvar, hids id (by simp) _ (.inr (.inr h1)), fun k f hk => ?_⟩
    have hkl : k < xs.length := by rw [all2_length hf]; exact (List.getElem?_eq_some_iff.mp hk).1
    obtain ⟨f', g1, g2⟩ := all2_get hf (List.getElem?_eq_getElem hkl)
    rw [hk] at g1; cases g1
    obtain ⟨u, u1, u2⟩ := all2_get h3 (List.getElem?_eq_getElem hkl)
    refine ⟨u, by rw [cell_cells h2, Nat.zero_add]; simpa using u1, ?_⟩
    have hmem : ∀ q ∈ xs[k].ids', ∀ b, ofId (sh.lab b) q → lc b = .imm := by
      intro q hq
      refine hids q ?_
      simp only [varSVs, hvar, List.mem_cons, List.mem_flatMap]
      exact .inr ⟨_, List.getElem_mem hkl, hq⟩
    have key : ∀ s : SV, SVRep st W sh s u → (∀ q ∈ s.ids', ∀ b, ofId (sh.lab b) q → lc b = .imm) → ∀ f, SV.flds st s f → FldRep W lc f u := by
      intro s hs hq f hf
      cases s with
      | sc x =>
        have e : u = x := hs
        subst e
        simp only [SV.flds] at hf
        rcases hf with rfl | ⟨hn, w, rfl⟩
        · rfl
        · rw [isNil_eq hn]; exact imRep_nil
      | _ =>
        cases f with
        | sc y => exact hf.elim
        | im w rows =>
          obtain ⟨rows', e1, e2⟩ := hf
          subst e2
          exact h.lendRows hs e1 himm hq
    exact key _ u2 hmem f g2

theorem InvS.leaf (h : InvS cx st sh a W Fr) (hR : Leaf0 st W sh R) (hl : ∀ r ∈ R, ∀ id ∈ lends st r.s r.l, lent = true ∧ id ∉ R.flatMap fun r => handLeaf r.s r.l) : ∀ r ∈ R, LeafRep W (lcOf st W sh R lent) r.k r.l r.v := by
  intro r hr
  obtain ⟨hrep, hpass, _⟩ := hR.rep r hr
  have himm : ∀ b, sh.lab b = .imm → lcOf st W sh R lent b = .imm := fun b hb => by simp only [lcOf, hb]; exact tr_imm
  have hlend : ∀ id ∈ lends st r.s r.l, ∀ b, ofId (sh.lab b) id → lcOf st W sh R lent b = .imm := by
    intro id hid b hb
    obtain ⟨h1, h2⟩ := hl r hr id hid
    simp only [lcOf]
    rw [tr_rest hb (no_cov_id hb h2), h1]; rfl
  have hcov : ∀ b L', Cov st W sh r (sh.lab b) L' → lcOf st W sh R lent b = L' := fun b L' hc => hR.tr_cov hr hc
  have hag : Agree W sh.lab W (lcOf st W sh R lent) (· = .imm) := fun b hb => ⟨by rw [himm b hb, hb], rfl⟩
  obtain ⟨k, s, l, u, v⟩ := r
  simp only at hrep hpass hlend hcov ⊢
  cases l with
  | sc x => cases s with
    | sc y => have e : x = y := hpass
              have e2 : v = y := hrep
              show v = x
              rw [e, e2]
    | _ => exact hpass.elim
  | im w rows => cases s with
    | sc y =>
      obtain ⟨hn, rfl⟩ := hpass
      have e2 : v = y := hrep
      rw [isNil_eq hn] at e2
      rw [e2]; exact imRep_nil
    | ref id _ _ _ =>
      obtain ⟨rows', e1, rfl⟩ := hpass
      exact h.lendRows hrep e1 himm (fun q hq b hb => hlend q (by simpa [lends, SV.ids'] using hq) b hb)
    | rin id _ _ _ _ _ =>
      obtain ⟨rows', e1, rfl⟩ := hpass
      exact h.lendRows hrep e1 himm (fun q hq b hb => hlend q (by simpa [lends, SV.ids'] using hq) b hb)
    | im w' rows2 =>
      obtain ⟨rows', e1, rfl⟩ := hpass
      exact h.lendRows hrep e1 himm (fun q hq => by simp [SV.ids'] at hq)
    | _ =>
      obtain ⟨rows', e1, _⟩ := hpass
      simp [St.rows] at e1
  | ow w rows => cases s with
    | sc y =>
      obtain ⟨hn, hw, rfl⟩ := hpass
      have e2 : v = y := hrep
      rw [isNil_eq hn] at e2
      rw [e2]; exact ⟨ownRep_nil hw, rfl⟩
    | ref id w' off len =>
      simp only [pass] at hpass
      rcases hob : st.objs id with _ | ⟨w2, rows'⟩
      · simp only [hob] at hpass
      · simp only [hob] at hpass
        obtain ⟨rfl, rfl, rfl, hlen, rfl⟩ := hpass
        refine ⟨?_, rst_rst _⟩
        obtain ⟨_, _, hvi⟩ := hrep _ rows' hob
        obtain ⟨A, cap, e, hcap, hA⟩ := own_shape h hob
        subst hlen
        have hrepO := h.objs id _ _ hob
        rcases view_all hvi e hA with hv' | ⟨hz, A', hv'⟩
        · refine ownRep_rst ?_
          rw [hv']
          refine ownRep_map (.inl himm) (fun b hb => hcov b _ ?_) (fun b i j hb => hcov b _ ?_) hrepO
          · exact ⟨hv', .inl ⟨hb, rfl⟩⟩
          · exact ⟨hv', .inr ⟨i, j, hb, rfl⟩⟩
        · have : rows' = [] := List.length_eq_zero_iff.mp hz
          subst this
          rw [hv']; exact ownRep_nil hrepO.1
    | rin id i j s0 off len =>
      simp only [pass] at hpass
      rcases hob : st.objs id with _ | ⟨w2, rows'⟩
      · simp only [hob] at hpass
      · simp only [hob] at hpass
        rcases hc : Rows.cell rows' i j with _ | ⟨s1, xs⟩ | _
        · simp only [hc] at hpass
        · simp only [hc] at hpass
          obtain ⟨rfl, h0, rfl, rfl, hlen, rfl⟩ := hpass
          refine ⟨?_, rst_lift _⟩
          obtain ⟨_, _, hd, g2, hvi⟩ := hrep.2 _ rows' xs hob hc
          obtain ⟨v', k1, k2⟩ := h.own_head hob hc h0
          rw [g2] at k1; cases k1
          obtain ⟨A, cap, e, hcap, hA⟩ := ownSl_shape k2
          subst hlen
          rcases view_all hvi e hA with hv' | ⟨hz, A', hv'⟩
          · rw [hv']
            refine ownRep_of_sl (lab := sh.lab) (fun b hb => hcov b _ ?_) k2
            exact ⟨⟨_, rows', hob, by rw [hv']; exact g2⟩, hb, rfl⟩
          · have : xs = [] := List.length_eq_zero_iff.mp hz
            subst this
            rw [hv']; exact ownRep_nil (by omega)
        · simp only [hc] at hpass
    | _ => exact hpass.elim
  | gone => trivial
  | ip fs => cases s with
    | vad id j =>
      cases j with
      | zero => exact h.lendFields himm hpass (fun q hq b hb => hlend q (by simpa [lends] using hq) b hb) hrep
      | succ j => exact hpass.elim
    | ipt fs' j =>
      cases j with
      | zero =>
        have e : fs = fs' := hpass
        subst e
        exact ipRep_agree hag rfl hrep
      | succ j => exact hpass.elim
    | _ => exact hpass.elim
  | op fs => cases s with
    | vad id j =>
      cases j with
      | zero =>
        have hvar : st.vars id = some (fs.map Fld.sv) := hpass
        obtain ⟨h1, c, t, h2, h3⟩ := h.vars id _ hvar
        refine ⟨sh.β id, c, t, hrep _ hvar, hcov _ _ ⟨h1, rfl⟩, h2, ?_, fun j f hj => ?_⟩
        · have := all2_length h3; simp at this; omega
        · obtain ⟨u, u1, u2⟩ := all2_get h3 (k := j) (a := f.sv) (by simp [hj])
          refine ⟨u, by simpa using u1, ?_⟩
          cases f with
          | sc x => exact u2
          | im w rows => exact imRep_agree hag rfl u2
      | succ j => exact hpass.elim
    | _ => exact hpass.elim
  | fn f caps => cases s with
    | fnv f' ids =>
      obtain ⟨rfl, hp⟩ := hpass
      obtain ⟨cs, e, hc⟩ := hrep
      refine ⟨cs, e, all2_of_get ?_ fun q fs w hq hw => ?_⟩
      · rw [← all2_length hp, all2_length hc]
      · have hql : q < ids.length := by rw [all2_length hp]; exact (List.getElem?_eq_some_iff.mp hq).1
        obtain ⟨fs', g1, g2⟩ := all2_get hp (List.getElem?_eq_getElem hql)
        rw [hq] at g1; cases g1
        obtain ⟨w', g3, g4⟩ := all2_get hc (List.getElem?_eq_getElem hql)
        rw [hw] at g3; cases g3
        refine h.lendFields himm g2 (fun q' hq' b hb => hlend q' ?_ b hb) (fun fs hfs => g4 fs hfs)
        simp only [lends, List.mem_append, List.mem_flatMap]
        rcases List.mem_cons.mp hq' with rfl | hq'
        · exact .inl (List.getElem_mem hql)
        · exact .inr ⟨_, List.getElem_mem hql, hq'⟩
    | fni f' caps' =>
      obtain ⟨rfl, rfl⟩ := hpass
      obtain ⟨cs, e, hc⟩ := hrep
      exact ⟨cs, e, all2_mono (fun _ _ _ g => ipRep_agree hag rfl g) hc⟩
    | _ => exact hpass.elim
end pre
end Go.Proofs.YtedciihjgbkjgacGreatDoor.A

/-! THE ABSTRACT SEMANTICS IS SOUND, twentieth part: what a call leaves of what it was handed. Conditions: none. -/
namespace Go.Proofs.YtedciihjgbkjgacGreatDoor.A
open Go
set_option linter.unusedSimpArgs false
set_option linter.unusedVariables false

theorem upd_get {α : Type} (f : Nat → Option α) (id : Nat) : ∀ l : List (Nat × Option α), ((∀ x, (id, x) ∉ l) ∧ upd f l id = f id) ∨ ∃ x, (id, x) ∈ l ∧ upd f l id = x
  | [] => .inl ⟨by simp, rfl⟩
  | (i, y) :: r => by
    by_cases e : id = i
    · subst e; exact .inr ⟨y, by simp, by simp [upd]⟩
    · rcases upd_get f id r with ⟨h1, h2⟩ | ⟨x, h1, h2⟩
      · refine .inl ⟨fun x hm => ?_, by simp only [upd, if_neg e]; exact h2⟩
        rcases List.mem_cons.mp hm with hm | hm
        · simp only [Prod.mk.injEq] at hm; exact e hm.1
        · exact h1 x hm
      · exact .inr ⟨x, by simp [h1], by simp only [upd, if_neg e]; exact h2⟩

section post
variable {cx : Cx} {st : St} {sh : Sh} {a : Act} {W W' : World} {Fr : Nat → Prop} {R : List CRow} {lent : Bool} {nid : Nat} {lab' : Nat → Lab}

theorem lab_stay (h : InvS cx st sh a W Fr) (hext : Ext W (lcOf st W sh R lent) W' lab') {b : Nat} (hd : sh.lab b ≠ .dead) (hn : ∀ r ∈ R, ∀ L', ¬ Cov st W sh r (sh.lab b) L') : labOf st W sh R lent nid lab' b = sh.lab b ∧ W'.heap[b]? = W.heap[b]? := by
  have hb := h.below hd
  have hlc : lcOf st W sh R lent b = .imm ∨ lcOf st W sh R lent b = .far := by
    simp only [lcOf]
    rw [tr_base hn]
    rcases hL : sh.lab b with _ | _ | id | ⟨id, i, j⟩ | id | _
    · exact absurd hL hd
    · exact .inl rfl
    · cases lent <;> simp [baseL]
    · cases lent <;> simp [baseL]
    · cases lent <;> simp [baseL]
    · exact .inr rfl
  exact ⟨by unfold labOf; rw [if_pos ⟨hb, hlc⟩], (hext.same b hb hlc).2⟩
theorem lab_bk (h : InvS cx st sh a W Fr) (hext : Ext W (lcOf st W sh R lent) W' lab') {b : Nat} (hl : lab' b ≠ .imm ∧ lab' b ≠ .far) : labOf st W sh R lent nid lab' b = bkL st W sh R nid (lab' b) := by
  unfold labOf
  rw [if_neg]
  rintro ⟨h1, h2⟩
  have := (hext.same b h1 h2).1
  rw [this] at hl
  rcases h2 with h2 | h2
  · exact hl.1 h2
  · exact hl.2 h2
theorem Leafs.lab_cov (hR : Leafs st W sh R) (h : InvS cx st sh a W Fr) (hext : Ext W (lcOf st W sh R lent) W' lab') {r : CRow} (hr : r ∈ R) {b : Nat} {L : Lab} (hc : Cov st W sh r L (lab' b)) : labOf st W sh R lent nid lab' b = L := by
  obtain ⟨_, _, _, h2⟩ := cov_id hc
  obtain ⟨a1, _, a3⟩ := ofId_real h2
  rw [lab_bk h hext ⟨a1, a3⟩, hR.bk_cov hr hc]
theorem Leafs.lab_new (hR : Leafs st W sh R) (h : InvS cx st sh a W Fr) (hext : Ext W (lcOf st W sh R lent) W' lab') {b k : Nat} (hk : 960 ≤ k) (ho : ofId (lab' b) k) : labOf st W sh R lent nid lab' b = nextL nid (lab' b) := by
  obtain ⟨a1, _, a3⟩ := ofId_real ho
  rw [lab_bk h hext ⟨a1, a3⟩, bk_next (hR.no_cov_key ho hk)]
theorem no_bk {L' : Lab} (h : L' = .imm ∨ L' = .dead) : ∀ r ∈ R, ∀ L, ¬ Cov st W sh r L L' := by
  intro r _ L hc
  obtain ⟨_, _, _, h2⟩ := cov_id hc
  obtain ⟨a1, a2, _⟩ := ofId_real h2
  rcases h with h | h
  · exact a1 h
  · exact a2 h
theorem Leafs.lab_imm (hR : Leafs st W sh R) (hext : Ext W (lcOf st W sh R lent) W' lab') (hl : lent = false) : ∀ b, lab' b = .imm → labOf st W sh R lent nid lab' b = .imm := by
  intro b hb
  unfold labOf
  split
  · rename_i hc
    have := (hext.same b hc.1 hc.2).1
    rw [hb] at this
    exact hR.tr_imm_of hl this.symm
  · rw [hb, bk_next (no_bk (.inl rfl))]; rfl
theorem ext_call (h : InvS cx st sh a W Fr) (hext : Ext W (lcOf st W sh R lent) W' lab') : Ext cx.W0 cx.lab0 W' (labOf st W sh R lent nid lab') := by
  obtain ⟨h1, h2, h3, h4, h5, h6⟩ := h.ext
  obtain ⟨g1, g2, g3, g4, g5, g6⟩ := hext
  refine ⟨g1.trans h1, g2.trans h2, g3.trans h3, Nat.le_trans h4 g4, fun b hb hl => ?_, fun b hb => ?_⟩
  · obtain ⟨k1, k2⟩ := h5 b hb hl
    have hl' : sh.lab b = .imm ∨ sh.lab b = .far := by rw [k1]; exact hl
    obtain ⟨m1, m2⟩ := lab_stay (nid := nid) h ⟨g1, g2, g3, g4, g5, g6⟩ (R := R) (lent := lent) (b := b) (by rcases hl' with e | e <;> rw [e] <;> simp) (no_cov_of (by rcases hl' with e | e <;> simp [e]))
    exact ⟨m1.trans k1, m2.trans k2⟩
  · unfold labOf
    rw [if_neg (by rintro ⟨q, _⟩; omega), g6 b hb, bk_next (no_bk (.inr rfl))]; rfl

theorem mem_hand {r : CRow} (hr : r ∈ R) {id : Nat} (h : id ∈ handLeaf r.s r.l) : id ∈ R.flatMap fun r => handLeaf r.s r.l := List.mem_flatMap.mpr ⟨r, hr, h⟩
/-- What covers a label is the leaf with its id. -/
theorem Leafs.cov_row (hR : Leafs st W sh R) {r r' : CRow} (hr : r ∈ R) (hr' : r' ∈ R) {id : Nat} (hid : id ∈ handLeaf r.s r.l) {L L' : Lab} (ho : ofId L id) (hc : Cov st W sh r' L L') : r' = r := by
  obtain ⟨id', h1, h2, _⟩ := cov_id hc
  have := ofId_inj ho h2
  subst this
  exact nodup_flatMap hR.hand r' hr' r hr id h1 hid
theorem own_len {lab : Nat → Lab} {k w : Nat} {rows : Rows} {A : Option Addr} {n cap : Nat} (h : OwnRep W lab k w rows (.slice A n cap)) : rows.length = n := by
  obtain ⟨_, _, ⟨A', e, hn⟩ | ⟨b, cap', c, t, e, _⟩⟩ := h
  · simp only [Value.slice.injEq] at e; subst hn; rw [e.2.1]; rfl
  · simp only [Value.slice.injEq] at e; exact e.2.1.symm
theorem stm_length (n : Nat) (rows : Rows) : (stm n rows).length = rows.length := by simp [stm]
theorem stm_cell {n : Nat} (hn : 0 < n) {rows : Rows} {i j s : Nat} {xs : List Value} (h : Rows.cell (stm n rows) i j = .sl s xs) : s = 0 ∨ s = n := by
  obtain ⟨r, hi, hj⟩ := cell_get h (by simp)
  simp only [stm, List.getElem?_map, Option.map_eq_some_iff] at hi
  obtain ⟨r0, _, rfl⟩ := hi
  simp only [List.getElem?_map, Option.map_eq_some_iff] at hj
  obtain ⟨c0, _, e⟩ := hj
  cases c0 with
  | sl s0 ys => cases s0 with
    | zero => simp only [Cell.stm, Cell.sl.injEq] at e; exact .inl e.1.symm
    | succ s0 => simp only [Cell.stm, Cell.sl.injEq] at e; exact .inr e.1.symm
  | _ => simp [Cell.stm] at e

/-- What is known behind the call of a slice of one's own. -/
theorem call_obj (h : InvS cx st sh a W Fr) (hR : Leafs st W sh R) {n : Nat} (hn0 : 0 < n) (hext : Ext W (lcOf st W sh R lent) W' lab') (hback : ∀ r ∈ R, LeafRep W' lab' r.k r.u r.v) (hstill : lent = false ∨ ∀ r ∈ R, r.u.still = true) {id w : Nat} {rows' : Rows}
    (ho : upd st.objs (R.flatMap fun r => updLeafO n st r.s r.l r.u) id = some (w, rows')) :
    OwnRep W' (labOf st W sh R lent nid lab') id w rows' (sh.μ id) ∧ ∃ rows, st.objs id = some (w, rows) ∧ rows.length = rows'.length ∧
      ∀ i j s xs', s ≠ n → 0 < s → Rows.cell rows' i j = .sl s xs' → ∃ xs, Rows.cell rows i j = .sl s xs ∧ xs.length = xs'.length ∧ headAt W' (sh.μ id) w i j = headAt W (sh.μ id) w i j := by
  have himm : ∀ r ∈ R, ∀ (w : Nat) (rows : Rows), r.u = .ow w rows → (∀ b, lab' b = .imm → labOf st W sh R lent nid lab' b = .imm) ∨ stillRows rows = true := by
    intro r hr w rows e
    rcases hstill with hl | hs
    · exact .inl (hR.lab_imm hext hl)
    · have := hs r hr; rw [e] at this; exact .inr this
  rcases upd_get st.objs id (R.flatMap fun r => updLeafO n st r.s r.l r.u) with ⟨hno, he⟩ | ⟨x, hmem, he⟩
  · rw [he] at ho
    have hnc : ∀ b, (sh.lab b = .own id ∨ ∃ i j, sh.lab b = .inn id i j) → ∀ r ∈ R, ∀ L', ¬ Cov st W sh r (sh.lab b) L' := by
      intro b hb r hr L' hc
      have hof : ofId (sh.lab b) id := by rcases hb with e | e <;> first | exact .inl e | exact .inr (.inl e)
      obtain ⟨id', h1, h2, _⟩ := cov_id hc
      have := ofId_inj hof h2
      subst this
      unfold Cov at hc
      split at hc
      · rename_i q _ _ _ _ _ e1 e2
        rw [e1, e2] at h1
        simp only [handLeaf, List.mem_singleton] at h1
        subst h1
        have : ∃ x, (id, x) ∈ updLeafO n st r.s r.l r.u := by
          rw [e1, e2]
          cases r.u <;> exact ⟨_, by simp [updLeafO]; rfl⟩
        obtain ⟨x, hx⟩ := this
        exact hno x (List.mem_flatMap.mpr ⟨r, hr, hx⟩)
      · rename_i q _ _ _ _ _ _ _ e1 e2
        rw [e1, e2] at h1
        simp only [handLeaf, List.mem_singleton] at h1
        subst h1
        have : ∃ x, (id, x) ∈ updLeafO n st r.s r.l r.u := by
          rw [e1, e2]
          cases r.u <;> exact ⟨_, by simp [updLeafO, ho]; rfl⟩
        obtain ⟨x, hx⟩ := this
        exact hno x (List.mem_flatMap.mpr ⟨r, hr, hx⟩)
      · rcases hb with e | ⟨i, j, e⟩ <;> rw [e] at hc <;> cases hc.1
      · exact hc
    have hag : Agree W sh.lab W' (labOf st W sh R lent nid lab') (fun L => L = .imm ∨ L = .own id ∨ ∃ i j, L = .inn id i j) := by
      intro b hb
      rcases hb with e | e
      · exact lab_stay h hext (by rw [e]; simp) (no_cov_of (.inl e))
      · exact lab_stay h hext (by rcases e with e | ⟨i, j, e⟩ <;> rw [e] <;> simp) (hnc b e)
    refine ⟨ownRep_agree hag (.inl rfl) (.inr (.inl rfl)) (fun i j => .inr (.inr ⟨i, j, rfl⟩)) (h.objs id w rows' ho), rows', ho, rfl, fun i j s xs' _ _ hc => ⟨xs', hc, rfl, headAt_agree fun b L n e => ?_⟩⟩
    have hne : rows' ≠ [] := by
      intro e; rw [e] at hc; have := (cell_ne hc).1; simp at this
    exact (hag b (.inr (.inl (h.own_block ho e hne)))).2
  · rw [he] at ho
    obtain ⟨r, hr, hx⟩ := List.mem_flatMap.mp hmem
    obtain ⟨hrep, hpass, hfit⟩ := hR.rep r hr
    have hb := hback r hr
    have him := himm r hr
    have hcov : ∀ b L, Cov st W sh r L (lab' b) → labOf st W sh R lent nid lab' b = L := fun b L hc => hR.lab_cov h hext hr hc
    have hrow : ∀ r' ∈ R, ∀ L L', ofId L id → id ∈ handLeaf r.s r.l → Cov st W sh r' L L' → r' = r := fun r' hr' L L' ho hid hc => hR.cov_row hr hr' hid ho hc
    obtain ⟨k, s, l, u, v⟩ := r
    simp only at hrep hpass hfit hb him hx hrow
    cases s with
    | ref q w0 off len => cases l with
      | ow wl rowsl =>
        simp only [pass] at hpass
        rcases hob : st.objs q with _ | ⟨w2, rows0⟩
        · simp only [hob] at hpass
        · simp only [hob] at hpass
          obtain ⟨rfl, rfl, rfl, hlen, _⟩ := hpass
          cases u with
          | ow wu rowsu =>
            simp only [updLeafO, List.mem_singleton, Prod.mk.injEq] at hx
            obtain ⟨rfl, rfl⟩ := hx
            simp only [Option.some.injEq, Prod.mk.injEq] at ho
            obtain ⟨rfl, rfl⟩ := ho
            have hw : w2 = wu := hfit
            subst hw
            obtain ⟨_, _, hvi⟩ := hrep _ rows0 hob
            obtain ⟨A, cap, e, hcap, hA⟩ := own_shape h hob
            subst hlen
            have hrows : rowsu.length = rows0.length := by
              rcases view_all hvi e hA with hv' | ⟨hz, A', hv'⟩
              · have h1 := hb.1
                rw [hv', e] at h1
                exact own_len h1
              · have h1 := hb.1
                rw [hv'] at h1
                rw [hz]; exact own_len h1
            refine ⟨ownRep_stm hn0 ?_, rows0, hob, by rw [stm_length, hrows], fun i j s xs' hs hs0 hc => ?_⟩
            · by_cases hv' : v = sh.μ id
              · rw [← hv']
                exact ownRep_map (lab := lab') (him _ _ rfl) (fun b hb' => hcov b _ ⟨hv', .inl ⟨rfl, hb'⟩⟩) (fun b i j hb' => hcov b _ ⟨hv', .inr ⟨i, j, rfl, hb'⟩⟩) hb.1
              · rcases view_all hvi e hA with hv2 | ⟨hz, A', _⟩
                · exact absurd hv2 hv'
                · have hr0 : rows0 = [] := List.length_eq_zero_iff.mp hz
                  subst hr0
                  have hru : rowsu = [] := List.length_eq_zero_iff.mp hrows
                  subst hru
                  have hag : Agree W sh.lab W' (labOf st W sh R lent nid lab') (fun L => L = .imm ∨ L = .own id ∨ ∃ i j, L = .inn id i j) := by
                    intro b hb'
                    rcases hb' with e | e
                    · exact lab_stay h hext (by rw [e]; simp) (no_cov_of (.inl e))
                    · refine lab_stay h hext (by rcases e with e | ⟨i, j, e⟩ <;> rw [e] <;> simp) fun r' hr' L' hc => ?_
                      have hof : ofId (sh.lab b) id := by rcases e with e | e <;> first | exact .inl e | exact .inr (.inl e)
                      have := hrow r' hr' _ L' hof (by simp [handLeaf]) hc
                      subst this
                      exact hv' hc.1
                  exact ownRep_agree hag (.inl rfl) (.inr (.inl rfl)) (fun i j => .inr (.inr ⟨i, j, rfl⟩)) (h.objs id _ [] hob)
            · rcases stm_cell hn0 hc with rfl | rfl
              · omega
              · exact absurd rfl hs
          | _ =>
            simp only [updLeafO, List.mem_singleton, Prod.mk.injEq] at hx
            rw [hx.2] at ho; cases ho
      | _ => simp [updLeafO] at hx
    | rin q i0 j0 s0 off len => cases l with
      | ow wl rowsl =>
        simp only [pass] at hpass
        rcases hob : st.objs q with _ | ⟨w2, rows0⟩
        · simp only [hob] at hpass
        · simp only [hob] at hpass
          rcases hc : Rows.cell rows0 i0 j0 with _ | ⟨s1, xs⟩ | _
          · simp only [hc] at hpass
          · simp only [hc] at hpass
            obtain ⟨rfl, h0, rfl, rfl, hlen, _⟩ := hpass
            obtain ⟨_, _, hd, g2, hvi⟩ := hrep.2 _ rows0 xs hob hc
            obtain ⟨v', k1, k2⟩ := h.own_head hob hc h0
            rw [g2] at k1; cases k1
            obtain ⟨A, cap, e, hcap, hA⟩ := ownSl_shape k2
            obtain ⟨sq, rfl⟩ : ∃ sq, s1 = sq + 1 := ⟨s1 - 1, by omega⟩
            subst hlen
            have hq : q = id := by
              cases u <;> simp only [updLeafO, hob, List.mem_singleton, Prod.mk.injEq] at hx <;> exact hx.1.symm
            subst hq
            obtain ⟨hw0, hrl, hcs⟩ := h.objs q w2 rows0 hob
            have hne0 : rows0 ≠ [] := by rintro rfl; have := (cell_ne hc).1; simp at this
            rcases hcs with ⟨A2, _, hn⟩ | ⟨b, cap2, c, t, q1, q2, q3, q4, q5, q6⟩
            · exact absurd hn hne0
            · have hagI : ∀ b', sh.lab b' = .imm → labOf st W sh R lent nid lab' b' = sh.lab b' ∧ W'.heap[b']? = W.heap[b']? := fun b' e => lab_stay h hext (by rw [e]; simp) (no_cov_of (.inl e))
              have hstayO : labOf st W sh R lent nid lab' b = sh.lab b ∧ W'.heap[b]? = W.heap[b]? := by
                refine lab_stay h hext (by rw [q3]; simp) fun r' hr' L' hcc => ?_
                have := hrow r' hr' _ L' (.inl q3) (by simp [handLeaf]) hcc
                subst this
                obtain ⟨_, e, _⟩ := hcc
                rw [q3] at e; cases e
              have hstayI : ∀ b' i j, sh.lab b' = .inn q i j → (¬ (i = i0 ∧ j = j0) ∨ v ≠ hd) → labOf st W sh R lent nid lab' b' = sh.lab b' ∧ W'.heap[b']? = W.heap[b']? := by
                intro b' i j e hor
                refine lab_stay h hext (by rw [e]; simp) fun r' hr' L' hcc => ?_
                have := hrow r' hr' _ L' (.inr (.inl ⟨i, j, e⟩)) (by simp [handLeaf]) hcc
                subst this
                obtain ⟨⟨w9, rows9, e9, hh⟩, e2, _⟩ := hcc
                rw [e] at e2
                cases e2
                rcases hor with hor | hor
                · exact hor ⟨rfl, rfl⟩
                · rw [hob] at e9; cases e9
                  rw [g2] at hh; cases hh
                  exact hor rfl
              have hhead : headAt W' (sh.μ q) w2 = headAt W (sh.μ q) w2 := by
                funext p p'
                refine headAt_agree fun b2 L n e2 => ?_
                rw [q1] at e2; cases e2
                exact hstayO.2
              -- the outer slice with another cell at (i0, j0)
              have build : ∀ cnew : Cell, (∀ u0, headAt W (sh.μ q) w2 i0 j0 = some u0 → OwnCell W' (labOf st W sh R lent nid lab') (.inn q i0 j0) cnew u0) → OwnRep W' (labOf st W sh R lent nid lab') q w2 (Rows.setCell rows0 i0 j0 cnew) (sh.μ q) := by
                intro cnew hcnew
                obtain ⟨hl1, hl2⟩ := setCell_len (i := i0) (j := j0) (c := cnew) hrl
                refine ⟨hw0, hl2, .inr ⟨b, cap2, c, t, by rw [hl1]; exact q1, by rw [hl1]; exact q2, by rw [hstayO.1, q3], by rw [hstayO.2, q4], q5, fun p p' r x hp hp' => ?_⟩⟩
                rcases setCell_get hp hp' with ⟨rfl, rfl, rfl⟩ | ⟨hnot, r0, z1, z2⟩
                · obtain ⟨r1, y1, y2⟩ := cell_get hc (by simp)
                  obtain ⟨u0, u1, u2⟩ := q6 p p' r1 _ y1 y2
                  refine ⟨u0, u1, hcnew u0 ?_⟩
                  rw [q1]; simp only [headAt]; rw [cell_cells q4]; exact u1
                · obtain ⟨u0, u1, u2⟩ := q6 p p' r0 x z1 z2
                  refine ⟨u0, u1, ?_⟩
                  refine ownCell_agree (S := fun L => L = .imm ∨ L = .inn q p p') ?_ (.inl rfl) (.inr rfl) u2
                  rintro b' (e | e)
                  · exact hagI b' e
                  · exact hstayI b' p p' e (.inl hnot)
              have keepc : ∀ cnew : Cell, (∀ s xs', cnew = .sl s xs' → 0 < s → s = sq + 1 ∧ xs.length = xs'.length) → ∀ i j s xs', s ≠ n → 0 < s → Rows.cell (Rows.setCell rows0 i0 j0 cnew) i j = .sl s xs' → ∃ xs, Rows.cell rows0 i j = .sl s xs ∧ xs.length = xs'.length ∧ headAt W' (sh.μ q) w2 i j = headAt W (sh.μ q) w2 i j := by
                intro cnew hcnew i j s xs' _ hs0 hcc
                obtain ⟨r1, hp, hp'⟩ := cell_get hcc (by simp)
                rw [hhead]
                rcases setCell_get hp hp' with ⟨rfl, rfl, e2⟩ | ⟨hnot, r0, z1, z2⟩
                · obtain ⟨rfl, hxl⟩ := hcnew s xs' e2.symm hs0
                  exact ⟨xs, hc, hxl, rfl⟩
                · exact ⟨xs', by simp [Rows.cell, List.getD_eq_getElem?_getD, z1, z2], rfl, rfl⟩
              have hheadone : ∀ u0, headAt W (sh.μ q) w2 i0 j0 = some u0 → u0.oneCell' = true := by
                intro u0 hu0
                rw [g2] at hu0; cases hu0
                rw [e]; rfl
              cases u with
              | ow wu rowsu =>
                simp only [updLeafO, hob, List.mem_singleton, Prod.mk.injEq, true_and] at hx
                rw [hx] at ho
                simp only [Option.some.injEq, Prod.mk.injEq] at ho
                obtain ⟨rfl, rfl⟩ := ho
                obtain ⟨hw1, hul⟩ := hfit
                subst hw1
                have hb1 := hb.1
                rw [← hul] at hb1
                have hxl : (unlift rowsu).length = xs.length := by
                  rcases view_all hvi e hA with hv' | ⟨hz, A', hv'⟩
                  · rw [hv', e] at hb1
                    have := own_len hb1
                    rwa [lift_length] at this
                  · rw [hv'] at hb1
                    have := own_len hb1
                    rw [lift_length] at this
                    omega
                refine ⟨build _ fun u0 hu0 => ?_, rows0, hob, by simp [Rows.setCell], keepc _ fun s xs' e2 _ => by cases e2; exact ⟨rfl, hxl.symm⟩⟩
                rw [g2] at hu0; cases hu0
                by_cases hv' : v = hd
                · subst hv'
                  have h1 := ownSl_of_rep (lab := lab') (π := fun L => L) rfl hb1
                  rcases h1 with ⟨A3, m1, m2⟩ | ⟨b3, cap3, c3, t3, m1, m2, m3, m4⟩
                  · exact .inl ⟨A3, m1, m2⟩
                  · exact .inr ⟨b3, cap3, c3, t3, m1, m2, hcov b3 _ ⟨⟨w2, rows0, hob, g2⟩, rfl, m3⟩, m4⟩
                · rcases view_all hvi e hA with hv2 | ⟨hz, A', _⟩
                  · exact absurd hv2 hv'
                  · have hx0 : xs = [] := List.length_eq_zero_iff.mp hz
                    subst hx0
                    have hu0' : unlift rowsu = [] := List.length_eq_zero_iff.mp (by rw [hxl]; rfl)
                    rw [hu0']
                    refine ownSl_agree (S := fun L => L = .inn q i0 j0) (fun b' e' => hstayI b' i0 j0 e' (.inr hv')) rfl k2
              | _ =>
                simp only [updLeafO, hob, List.mem_singleton, Prod.mk.injEq, true_and] at hx
                rw [hx] at ho
                simp only [Option.some.injEq, Prod.mk.injEq] at ho
                obtain ⟨rfl, rfl⟩ := ho
                exact ⟨build _ fun u0 hu0 => hheadone u0 hu0, rows0, hob, by simp [Rows.setCell], keepc _ fun s xs' e2 _ => by cases e2⟩
          · simp only [hc] at hpass
      | _ => simp [updLeafO] at hx
    | _ => simp [updLeafO] at hx
end post
end Go.Proofs.YtedciihjgbkjgacGreatDoor.A

/-! THE ABSTRACT SEMANTICS IS SOUND, twenty-first part: the frame behind a call. Conditions: none. -/
namespace Go.Proofs.YtedciihjgbkjgacGreatDoor.A
open Go
set_option linter.unusedSimpArgs false
set_option linter.unusedVariables false

section post
variable {cx : Cx} {st : St} {sh : Sh} {a : Act} {W W' : World} {Fr : Nat → Prop} {R : List CRow} {lent : Bool} {n : Nat} {lab' : Nat → Lab}

/-- What is known behind the call of a variable. -/
theorem call_var (h : InvS cx st sh a W Fr) (hR : Leafs st W sh R) (hext : Ext W (lcOf st W sh R lent) W' lab') (hback : ∀ r ∈ R, LeafRep W' lab' r.k r.u r.v) (hstill : lent = false ∨ ∀ r ∈ R, r.u.still = true) {id : Nat} {fs : List SV} {nid : Nat}
    (ho : upd st.vars (R.flatMap fun r => updLeafV r.s r.l r.u) id = some fs) :
    st.vars id ≠ none ∧ labOf st W sh R lent nid lab' (sh.β id) = .var id ∧ ((st.vars id = some fs ∧ W'.heap[sh.β id]? = W.heap[sh.β id]?) ∨
      ∃ (c : Array Value) (t : TypeId) (gs : List Fld), fs = gs.map Fld.sv ∧ W'.heap[sh.β id]? = some (.cells c t (0, 0)) ∧ All2 (FldRep W' (labOf st W sh R lent nid lab')) gs c.toList) := by
  rcases upd_get st.vars id (R.flatMap fun r => updLeafV r.s r.l r.u) with ⟨hno, he⟩ | ⟨x, hmem, he⟩
  · rw [he] at ho
    obtain ⟨h1, _⟩ := h.vars id fs ho
    obtain ⟨m1, m2⟩ := lab_stay (nid := nid) h hext (b := sh.β id) (by rw [h1]; simp) (fun r hr L' hc => by
      rw [h1] at hc
      unfold Cov at hc
      split at hc
      · rcases hc with ⟨_, ⟨e, _⟩ | ⟨i, j, e, _⟩⟩ <;> cases e
      · cases hc.2.1
      · rename_i q j fs' e1 e2
        obtain ⟨e, _⟩ := hc
        cases e
        have : ∃ x, (id, x) ∈ updLeafV r.s r.l r.u := by
          rw [e1, e2]
          cases r.u <;> exact ⟨_, by simp [updLeafV]; rfl⟩
        obtain ⟨x, hx⟩ := this
        exact hno x (List.mem_flatMap.mpr ⟨r, hr, hx⟩)
      · exact hc)
    exact ⟨by rw [ho]; simp, m1.trans h1, .inl ⟨ho, m2⟩⟩
  · rw [he] at ho
    obtain ⟨r, hr, hx⟩ := List.mem_flatMap.mp hmem
    obtain ⟨hrep, hpass, hfit⟩ := hR.rep r hr
    have hb := hback r hr
    have hcov : ∀ b L, Cov st W sh r L (lab' b) → labOf st W sh R lent nid lab' b = L := fun b L hc => hR.lab_cov h hext hr hc
    have hst : lent = false ∨ r.u.still = true := by rcases hstill with e | e; exact .inl e; exact .inr (e r hr)
    obtain ⟨k, s, l, u, v⟩ := r
    simp only at hrep hpass hfit hb hx hst
    cases s with
    | vad q j => cases l with
      | op fs0 => cases u with
        | op gs =>
          simp only [updLeafV, List.mem_singleton, Prod.mk.injEq] at hx
          obtain ⟨rfl, rfl⟩ := hx
          simp only [Option.some.injEq] at ho
          subst ho
          cases j with
          | succ j => exact hpass.elim
          | zero =>
            have hvar : st.vars id = some (fs0.map Fld.sv) := hpass
            have e := hrep _ hvar
            obtain ⟨b, c, t, e2, e3, e4, e5, e6⟩ := hb
            rw [e] at e2; cases e2
            refine ⟨by rw [hvar]; simp, hcov _ _ ⟨rfl, e3⟩, .inr ⟨c, t, gs, rfl, e4, all2_of_get (by simp [e5]) fun j f u hj hu => ?_⟩⟩
            obtain ⟨u', u1, u2⟩ := e6 j f hj
            have : u' = u := by
              have hu' : c[j]? = some u := by simpa using hu
              rw [hu'] at u1; cases u1; rfl
            subst this
            cases f with
            | sc x => exact u2
            | im w rows =>
              rcases hst with hl | hs
              · exact imRep_agree (S := (· = .imm)) (fun b hb => ⟨by rw [hR.lab_imm hext hl b hb, hb], rfl⟩) rfl u2
              · have hf := List.all_eq_true.mp hs _ (List.mem_of_getElem? hj)
                have hr0 : rows = [] := by simpa [Fld.still] using hf
                subst hr0
                obtain ⟨A, cap, q1, q2, q3, q4⟩ := u2
                exact ⟨A, cap, q1, q2, q3, fun hne => absurd rfl hne⟩
        | _ =>
          simp only [updLeafV, List.mem_singleton, Prod.mk.injEq] at hx
          rw [hx.2] at ho; cases ho
      | _ => simp [updLeafV] at hx
    | _ => simp [updLeafV] at hx

theorem hand_fresh (h : InvS cx st sh a W Fr) {id : Nat} (hf : Fr id) {r : CRow} (hids : ∀ q ∈ r.s.ids', ¬ Fr q) : id ∉ handLeaf r.s r.l := by
  intro hm
  obtain ⟨k, s, l, u, v⟩ := r
  cases s <;> cases l <;> simp [handLeaf] at hm <;> exact hids _ (by simp [SV.ids', hm]) hf
theorem updO_ids {st : St} {n : Nat} {s : SV} {l u : Leaf} {id : Nat} {x : Option Obj'} (h : (id, x) ∈ updLeafO n st s l u) : id ∈ handLeaf s l := by
  cases s with
  | ref q _ _ _ => cases l with
    | ow _ _ => cases u <;> simp [updLeafO] at h <;> simp [handLeaf, h.1]
    | _ => simp [updLeafO] at h
  | rin q _ _ _ _ _ => cases l with
    | ow _ _ =>
      rcases hq : st.objs q with _ | ⟨w, old⟩ <;> cases u <;> simp [updLeafO, hq] at h <;> simp [handLeaf, h.1]
    | _ => simp [updLeafO] at h
  | _ => simp [updLeafO] at h
theorem updV_ids {s : SV} {l u : Leaf} {id : Nat} {x : Option (List SV)} (h : (id, x) ∈ updLeafV s l u) : id ∈ handLeaf s l := by
  cases s with
  | vad q _ => cases l with
    | op _ => cases u <;> simp [updLeafV] at h <;> simp [handLeaf, h.1]
    | _ => simp [updLeafV] at h
  | _ => simp [updLeafV] at h

/-- The frame behind a call, without what comes back. -/
theorem InvS.after (h : InvS cx st sh a W Fr) (hpins : ∀ q ∈ cx.pins, q.1 < 1000) (hR : Leafs st W sh R) (hn : Fr n) (hids : ∀ r ∈ R, ∀ q ∈ r.s.ids', ¬ Fr q) (hext : Ext W (lcOf st W sh R lent) W' lab') (hback : ∀ r ∈ R, LeafRep W' lab' r.k r.u r.v)
    (hstill : lent = false ∨ ∀ r ∈ R, r.u.still = true) (nid : Nat) {Fr' : Nat → Prop} (hF : ∀ q, Fr' q → Fr q ∧ q ≠ n) :
    InvS cx ⟨st.slots, upd st.vars (R.flatMap fun r => updLeafV r.s r.l r.u), upd st.objs (R.flatMap fun r => updLeafO n st r.s r.l r.u), st.next⟩ ⟨labOf st W sh R lent nid lab', sh.μ, sh.β⟩ a W' Fr' := by
  have hlo := h.low n hn
  have hn0 : 0 < n := by omega
  -- labels with another base number read the same for what is kept
  have hobj : ∀ id w rows', upd st.objs (R.flatMap fun r => updLeafO n st r.s r.l r.u) id = some (w, rows') → OwnRep W' (labOf st W sh R lent nid lab') id w rows' (sh.μ id) ∧ ∃ rows, st.objs id = some (w, rows) ∧ rows.length = rows'.length ∧
      ∀ i j s xs', s ≠ n → 0 < s → Rows.cell rows' i j = .sl s xs' → ∃ xs, Rows.cell rows i j = .sl s xs ∧ xs.length = xs'.length ∧ headAt W' (sh.μ id) w i j = headAt W (sh.μ id) w i j :=
    fun id w rows' ho => call_obj h hR hn0 hext hback hstill ho
  have k : Keeps st W sh ⟨st.slots, upd st.vars (R.flatMap fun r => updLeafV r.s r.l r.u), upd st.objs (R.flatMap fun r => updLeafO n st r.s r.l r.u), st.next⟩ W' ⟨labOf st W sh R lent nid lab', sh.μ, sh.β⟩ (· = n) := by
    refine ⟨fun b hb => ?_, fun id _ hv => ?_, fun id w rows' _ hs => ?_⟩
    · exact lab_stay h hext (by rw [hb]; simp) (no_cov_of (.inl hb))
    · obtain ⟨fs, hfs⟩ := Option.ne_none_iff_exists'.mp hv
      exact ⟨(call_var (nid := nid) h hR hext hback hstill hfs).1, rfl⟩
    · obtain ⟨_, rows, h1, h2, h3⟩ := hobj id w rows' hs
      exact ⟨rfl, rows, h1, h2, fun i j s xs' hns h0 hc => h3 i j s xs' hns h0 hc⟩
  have hfr : ∀ id, Fr' id → ∀ r ∈ R, id ∉ handLeaf r.s r.l := fun id hf r hr => hand_fresh h (hF id hf).1 (hids r hr)
  refine h.move k (by rintro _ rfl; exact hn) (fun q hq => (hF q hq).1) (ext_call h hext) (fun id fs hf => ?_) (fun id w rows hs => (hobj id w rows hs).1) (fun id hf => ?_) (fun id w rows' i j s xs hs hc hq => ?_) (fun id _ hs => ⟨?_, rfl⟩) (fun id _ hv => ⟨?_, rfl⟩) hpins
  · obtain ⟨h1, h2, h3⟩ := call_var (nid := nid) h hR hext hback hstill hf
    rcases h3 with ⟨h3, h4⟩ | ⟨c, t, gs, rfl, h4, h5⟩
    · obtain ⟨_, c, t, g2, g3⟩ := h.vars id fs h3
      refine ⟨⟨h2, c, t, by rw [← g2]; exact h4, all2_mono (fun s u m g => svRep_keeps k (fun id' hi e' => ?_) g) g3⟩, fun id' hf' s m => (h.fresh id' (hF id' hf').1).2.2.2 id fs h3 s m⟩
      subst e'
      exact (h.fresh id' hn).2.2.2 id fs h3 s m hi
    · refine ⟨⟨h2, c, t, h4, all2_of_get (by rw [List.length_map]; exact all2_length h5) fun q s u hq hu => ?_⟩, fun id' _ s m hi => ?_⟩
      · simp only [List.getElem?_map, Option.map_eq_some_iff] at hq
        obtain ⟨f, hf', rfl⟩ := hq
        obtain ⟨u', u1, u2⟩ := all2_get h5 hf'
        rw [hu] at u1; cases u1
        cases f with
        | sc x => exact u2
        | im w rows => exact u2
      · obtain ⟨f, _, rfl⟩ := List.mem_map.mp m
        exact fsv_ids f id' hi
  · obtain ⟨g1, g2, _⟩ := h.fresh id (hF id hf).1
    constructor
    · show upd st.vars _ id = none
      rcases upd_get st.vars id (R.flatMap fun r => updLeafV r.s r.l r.u) with ⟨_, he⟩ | ⟨x, hmem, _⟩
      · rw [he]; exact g1
      · obtain ⟨r, hr, hx⟩ := List.mem_flatMap.mp hmem
        exact absurd (updV_ids hx) (hfr id hf r hr)
    · show upd st.objs _ id = none
      rcases upd_get st.objs id (R.flatMap fun r => updLeafO n st r.s r.l r.u) with ⟨_, he⟩ | ⟨x, hmem, _⟩
      · rw [he]; exact g2
      · obtain ⟨r, hr, hx⟩ := List.mem_flatMap.mp hmem
        exact absurd (updO_ids hx) (hfr id hf r hr)
  · obtain ⟨_, rows, h1, h2, h3⟩ := hobj id w rows' hs
    by_cases e : s = n
    · exact (hF s hq).2 e
    · rcases Nat.eq_zero_or_pos s with e0 | e0
      · subst e0
        have := h.low 0 (hF 0 hq).1
        omega
      · obtain ⟨xs0, c1, _⟩ := h3 i j s xs e e0 hc
        exact h.stamps id w rows i j s xs0 h1 c1 (hF s hq).1
  · rcases hs' : upd st.objs (R.flatMap fun r => updLeafO n st r.s r.l r.u) id with _ | ⟨w, rows'⟩
    · exact absurd hs' hs
    · obtain ⟨_, rows, h1, _⟩ := hobj id w rows' hs'
      rw [h1]; simp
  · obtain ⟨fs, hfs⟩ := Option.ne_none_iff_exists'.mp hv
    exact (call_var (nid := nid) h hR hext hback hstill hfs).1
end post
end Go.Proofs.YtedciihjgbkjgacGreatDoor.A

/-! THE ABSTRACT SEMANTICS IS SOUND, twenty-second part: what a call brings back. Conditions: none. -/
namespace Go.Proofs.YtedciihjgbkjgacGreatDoor.A
open Go
set_option linter.unusedSimpArgs false
set_option linter.unusedVariables false

section res
variable {cx : Cx} {st : St} {sh : Sh} {a : Act} {W : World} {Fr : Nat → Prop} {lab' : Nat → Lab} {nid : Nat}

theorem keeps_trans {st1 st2 : St} {W1 W2 : World} {sh1 sh2 : Sh} {new1 new2 new : Nat → Prop} (k1 : Keeps st W sh st1 W1 sh1 new1) (k2 : Keeps st1 W1 sh1 st2 W2 sh2 new2) (h1 : ∀ q, new1 q → new q) (h2 : ∀ q, new2 q → new q) : Keeps st W sh st2 W2 sh2 new := by
  refine ⟨fun b hb => ?_, fun id hn hv => ?_, fun id w rows' hn hs => ?_⟩
  · obtain ⟨a1, a2⟩ := k1.imm b hb
    obtain ⟨b1, b2⟩ := k2.imm b (a1.trans hb)
    exact ⟨b1.trans a1, b2.trans a2⟩
  · obtain ⟨a1, a2⟩ := k2.vars id (fun h => hn (h2 id h)) hv
    obtain ⟨b1, b2⟩ := k1.vars id (fun h => hn (h1 id h)) a1
    exact ⟨b1, a2.trans b2⟩
  · obtain ⟨a1, rows1, a2, a3, a4⟩ := k2.objs id w rows' (fun h => hn (h2 id h)) hs
    obtain ⟨b1, rows0, b2, b3, b4⟩ := k1.objs id w rows1 (fun h => hn (h1 id h)) a2
    refine ⟨a1.trans b1, rows0, b2, b3.trans a3, fun i j s xs' hns h0 hc => ?_⟩
    obtain ⟨xs1, c1, c2, c3⟩ := a4 i j s xs' (fun h => hns (h2 s h)) h0 hc
    obtain ⟨xs0, d1, d2, d3⟩ := b4 i j s xs1 (fun h => hns (h1 s h)) h0 c1
    exact ⟨xs0, d1, d2.trans c2, c3.trans d3⟩
theorem keeps_addObj (st : St) (W : World) (sh : Sh) (nid w : Nat) (rows : Rows) (hd : Value) :
    Keeps st W sh ⟨st.slots, st.vars, upd st.objs [(nid, some (w, rows))], st.next⟩ W ⟨sh.lab, fun id => if id = nid then hd else sh.μ id, sh.β⟩ (· = nid) := by
  refine ⟨fun b _ => ⟨rfl, rfl⟩, fun id _ hv => ⟨hv, rfl⟩, fun id w' rows' hn hs => ?_⟩
  simp only [upd, if_neg hn] at hs ⊢
  exact ⟨trivial, rows', hs, rfl, fun i j s xs' _ _ hc => ⟨xs', hc, rfl, trivial⟩⟩
theorem keeps_addVar (st : St) (W : World) (sh : Sh) (nid : Nat) (fs : List SV) (b : Nat) :
    Keeps st W sh ⟨st.slots, upd st.vars [(nid, some fs)], st.objs, st.next⟩ W ⟨sh.lab, sh.μ, fun id => if id = nid then b else sh.β id⟩ (· = nid) := by
  refine ⟨fun b _ => ⟨rfl, rfl⟩, fun id hn hv => ?_, fun id w' rows' hn hs => ⟨rfl, rows', hs, rfl, fun i j s xs' _ _ hc => ⟨xs', hc, rfl, rfl⟩⟩⟩
  simp only [upd, if_neg hn] at hv ⊢
  exact ⟨hv, trivial⟩
/-- A variable that lies in memory already. -/
theorem InvS.addVar (h : InvS cx st sh a W Fr) (hpins : ∀ q ∈ cx.pins, q.1 < 1000) {nid b : Nat} (hid : Fr nid) {fs : List SV} {c : Array Value} {t : TypeId} (hlab : sh.lab b = .var nid) (hblk : W.heap[b]? = some (.cells c t (0, 0))) (hfs : All2 (SVRep st W sh) fs c.toList)
    (hmen : ∀ id, Fr id → ∀ s ∈ fs, id ∉ s.ids) {Fr' : Nat → Prop} (hF : ∀ id, Fr' id → Fr id ∧ id ≠ nid) :
    InvS cx ⟨st.slots, upd st.vars [(nid, some fs)], st.objs, st.next⟩ ⟨sh.lab, sh.μ, fun id => if id = nid then b else sh.β id⟩ a W Fr' := by
  have hlo := h.low nid hid
  have k := keeps_addVar st W sh nid fs b
  refine h.move k (by rintro _ rfl; exact hid) (fun id hf => (hF id hf).1) h.ext (fun id gs hg => ?_) (fun id w rows ho => h.objs id w rows ho) (fun id hf => ?_) (fun id w rows i j s xs ho hc hf => h.stamps id w rows i j s xs ho hc (hF s hf).1) (fun id _ ho => ⟨ho, rfl⟩) (fun id hl hv => ?_) hpins
  · by_cases e : id = nid
    · subst e
      simp only [upd, if_true, Option.some.injEq] at hg
      subst hg
      exact ⟨⟨by simpa using hlab, c, t, by simpa using hblk, all2_mono (fun s u m g => svRep_keeps k (fun id' hi e => hmen id hid s m (by rw [← e]; exact hi)) g) hfs⟩, fun id' hf s m => hmen id' (hF id' hf).1 s m⟩
    · simp only [upd, if_neg e] at hg
      obtain ⟨h1, c', t', h2, h3⟩ := h.vars id gs hg
      refine ⟨⟨by simpa only [if_neg e] using h1, c', t', by simpa only [if_neg e] using h2, all2_mono (fun s u m g => svRep_keeps k (fun id' hi e' => ?_) g) h3⟩, fun id' hf s m => (h.fresh id' (hF id' hf).1).2.2.2 id gs hg s m⟩
      subst e'
      exact (h.fresh id' hid).2.2.2 id gs hg s m hi
  · obtain ⟨h1, h2, _⟩ := h.fresh id (hF id hf).1
    exact ⟨by simp only [upd, if_neg (hF id hf).2]; exact h1, h2⟩
  · simp only [upd] at hv ⊢
    rw [if_neg (by omega)] at hv
    exact ⟨hv, by rw [if_neg (by omega)]⟩

/-- The labels behind a call, as they stand to those of the call's own. -/
structure Back (sh : Sh) (lab' : Nat → Lab) (nid : Nat) (still : Bool) : Prop where
  new : ∀ b m, 4096 ≤ m → ofId (lab' b) m → sh.lab b = nextL nid (lab' b)
  imm : still = false → ∀ b, lab' b = .imm → sh.lab b = .imm

theorem InvS.addLeaf (h : InvS cx st sh a W Fr) (hpins : ∀ q ∈ cx.pins, q.1 < 1000) {still : Bool} (hb : Back sh lab' nid still) {k id : Nat} (hk : 4096 ≤ k) (hid : id = nid + (k - 4096)) (hF : Fr id) {l : Leaf} {v : Value} (hl : LeafRep W lab' k l v) (hs : still = true → l.still = true) :
    ∃ sh', sh'.lab = sh.lab ∧ InvS cx ⟨st.slots, upd st.vars (resLeafV id l), upd st.objs (resLeafO id l), st.next⟩ sh' a W (fun q => Fr q ∧ q ≠ id) ∧ SVRep ⟨st.slots, upd st.vars (resLeafV id l), upd st.objs (resLeafO id l), st.next⟩ W sh' (resLeaf id l) v ∧
      Keeps st W sh ⟨st.slots, upd st.vars (resLeafV id l), upd st.objs (resLeafO id l), st.next⟩ W sh' (· = id) ∧ (∀ q ∈ (resLeaf id l).ids, q = id) := by
  have hlo := h.low id hF
  have hless : ∀ st' : St, st' = st → InvS cx st' sh a W (fun q => Fr q ∧ q ≠ id) := fun st' e => by rw [e]; exact h.less fun q hq => hq.1
  have hsame : Keeps st W sh ⟨st.slots, st.vars, st.objs, st.next⟩ W sh (· = id) := ⟨fun b _ => ⟨rfl, rfl⟩, fun _ _ hv => ⟨hv, rfl⟩, fun _ _ rows' _ hs => ⟨rfl, rows', hs, rfl, fun _ _ _ xs' _ _ hc => ⟨xs', hc, rfl, rfl⟩⟩⟩
  have hag : still = false → Agree W lab' W sh.lab (· = .imm) := fun e b hb' => ⟨by rw [hb.imm e b hb', hb'], rfl⟩
  cases l with
  | sc x => exact ⟨sh, rfl, hless _ rfl, hl, hsame, by simp [resLeaf, SV.ids]⟩
  | gone => exact ⟨sh, rfl, hless _ rfl, trivial, hsame, by simp [resLeaf, SV.ids]⟩
  | im w rows =>
    refine ⟨sh, rfl, hless _ rfl, ?_, hsame, by simp [resLeaf, SV.ids]⟩
    cases still with
    | false => exact imRep_agree (hag rfl) rfl hl
    | true =>
      have hr : rows = [] := by simpa [Leaf.still] using hs rfl
      subst hr
      obtain ⟨A, cap, q1, q2, q3, q4⟩ := hl
      exact ⟨A, cap, q1, q2, q3, fun hne => absurd rfl hne⟩
  | ip fs =>
    refine ⟨sh, rfl, hless _ rfl, ?_, hsame, by simp [resLeaf, SV.ids]⟩
    cases still with
    | false => exact ipRep_agree (hag rfl) rfl hl
    | true => have := hs rfl; simp [Leaf.still] at this
  | fn f caps =>
    refine ⟨sh, rfl, hless _ rfl, ?_, hsame, by simp [resLeaf, SV.ids]⟩
    obtain ⟨cs, e, hc⟩ := hl
    cases still with
    | false => exact ⟨cs, e, all2_mono (fun _ _ _ g => ipRep_agree (hag rfl) rfl g) hc⟩
    | true =>
      have hr : caps = [] := by simpa [Leaf.still] using hs rfl
      subst hr
      refine ⟨cs, e, ?_⟩
      rcases hcs : cs.toList with _ | ⟨y, ys⟩
      · trivial
      · rw [hcs] at hc; exact hc.elim
  | ow w rows =>
    obtain ⟨hrep, hrst⟩ := hl
    have hrep' : OwnRep W sh.lab id w rows v := by
      refine ownRep_map (lab := lab') ?_ (fun b hb' => ?_) (fun b i j hb' => ?_) hrep
      · cases still with
        | false => exact .inl (hb.imm rfl)
        | true => exact .inr (hs rfl)
      · rw [hb.new b k hk (.inl hb'), hb', hid]; rfl
      · rw [hb.new b k hk (.inr (.inl ⟨i, j, hb'⟩)), hb', hid]; rfl
    refine ⟨⟨sh.lab, fun q => if q = id then v else sh.μ q, sh.β⟩, rfl, h.addObj hpins hF hrep' (fun q hq => hq) (fun i j s xs hc => ?_), ?_, keeps_addObj st W sh id w rows v, by simp [resLeaf, SV.ids]⟩
    · rintro ⟨hf, _⟩
      have hlow := h.low s hf
      obtain ⟨r, hi, hj⟩ := cell_get hc (by simp)
      rw [← hrst] at hi
      simp only [rst, List.getElem?_map, Option.map_eq_some_iff] at hi
      obtain ⟨r0, _, rfl⟩ := hi
      simp only [List.getElem?_map, Option.map_eq_some_iff] at hj
      obtain ⟨c0, _, e⟩ := hj
      cases c0 with
      | sl s0 ys => cases s0 <;> simp only [Cell.rst, Cell.sl.injEq] at e <;> omega
      | _ => simp [Cell.rst] at e
    · intro w' rows' ho
      simp only [resLeafO, upd, if_true, Option.some.injEq, Prod.mk.injEq] at ho
      obtain ⟨rfl, rfl⟩ := ho
      refine ⟨rfl, by omega, ?_⟩
      simp only [if_true]
      obtain ⟨_, _, ⟨A, e, hn⟩ | ⟨b, cap, c, t, e, _⟩⟩ := hrep'
      · subst hn; exact .inr ⟨rfl, A, e⟩
      · left
        rw [e, viewOf_full]
        intro ad ha; cases ha; rfl
  | op fs =>
    obtain ⟨b, c, t, e, hlab, hblk, hsz, hf⟩ := hl
    have hlab' : sh.lab b = .var id := by
      rw [hb.new b k hk (.inr (.inr hlab)), hlab, hid]; rfl
    have hfs : All2 (SVRep st W sh) (fs.map Fld.sv) c.toList := by
      refine all2_of_get (by simp [hsz]) fun j s u hj hu => ?_
      simp only [List.getElem?_map, Option.map_eq_some_iff] at hj
      obtain ⟨f, hj, rfl⟩ := hj
      obtain ⟨u', u1, u2⟩ := hf j f hj
      have hu' : c[j]? = some u := by simpa using hu
      rw [hu'] at u1; cases u1
      cases f with
      | sc x => exact u2
      | im w rows =>
        cases still with
        | false => exact imRep_agree (hag rfl) rfl u2
        | true =>
          have := List.all_eq_true.mp (hs rfl) _ (List.mem_of_getElem? hj)
          have hr : rows = [] := by simpa [Fld.still] using this
          subst hr
          obtain ⟨A, cap, q1, q2, q3, q4⟩ := u2
          exact ⟨A, cap, q1, q2, q3, fun hne => absurd rfl hne⟩
    refine ⟨⟨sh.lab, sh.μ, fun q => if q = id then b else sh.β q⟩, rfl, h.addVar hpins hF hlab' hblk hfs (fun q _ s m hi => ?_) (fun q hq => hq), ?_, keeps_addVar st W sh id _ b, by simp [resLeaf, SV.ids]⟩
    · obtain ⟨f, _, rfl⟩ := List.mem_map.mp m
      exact fsv_ids f q hi
    · intro fs' hf'
      simpa using e

theorem InvS.addLeaves (hpins : ∀ q ∈ cx.pins, q.1 < 1000) {still : Bool} : ∀ {ls : List Leaf} {vs : List Value} {st : St} {sh : Sh} {Fr : Nat → Prop} {k id : Nat}, InvS cx st sh a W Fr → Back sh lab' nid still → 4096 ≤ k → id = nid + (k - 4096) → (∀ j, j < ls.length → Fr (id + j)) → LeavesRep W lab' k ls vs → (still = true → ls.all Leaf.still = true) →
    ∃ sh', sh'.lab = sh.lab ∧ InvS cx ⟨st.slots, upd st.vars (leavesEff resLeafV id ls), upd st.objs (leavesEff resLeafO id ls), st.next⟩ sh' a W (fun q => Fr q ∧ ¬ (id ≤ q ∧ q < id + ls.length)) ∧
      All2 (SVRep ⟨st.slots, upd st.vars (leavesEff resLeafV id ls), upd st.objs (leavesEff resLeafO id ls), st.next⟩ W sh') (resLeaves id ls) vs ∧
      Keeps st W sh ⟨st.slots, upd st.vars (leavesEff resLeafV id ls), upd st.objs (leavesEff resLeafO id ls), st.next⟩ W sh' (fun q => id ≤ q ∧ q < id + ls.length) ∧ (∀ s ∈ resLeaves id ls, ∀ q ∈ s.ids, id ≤ q ∧ q < id + ls.length)
  | [], [], st, sh, Fr, k, id, h, _, _, _, _, _, _ => ⟨sh, rfl, h.less fun q hq => hq.1, trivial, ⟨fun b _ => ⟨rfl, rfl⟩, fun _ _ hv => ⟨hv, rfl⟩, fun _ _ rows' _ hs => ⟨rfl, rows', hs, rfl, fun _ _ _ xs' _ _ hc => ⟨xs', hc, rfl, rfl⟩⟩⟩, by simp [resLeaves]⟩
  | l :: ls, v :: vs, st, sh, Fr, k, id, h, hb, hk, hid, hF, ⟨h1, h2⟩, hs => by
    obtain ⟨sh1, e1, i1, r1, k1, d1⟩ := InvS.addLeaves (k := k + 1) (id := id + 1) hpins h hb (by omega) (by omega) (fun j hj => by rw [show id + 1 + j = id + (j + 1) by omega]; exact hF (j + 1) (by simpa using hj)) h2 (fun e => by have := hs e; simp at this; simpa using this.2)
    have hF0 := hF 0 (by simp)
    obtain ⟨sh2, e2, i2, r2, k2, d2⟩ := i1.addLeaf (lab' := lab') (nid := nid) (still := still) hpins ⟨fun b m hm ho => by rw [e1]; exact hb.new b m hm ho, fun e b hb' => by rw [e1]; exact hb.imm e b hb'⟩ hk hid ⟨by simpa using hF0, by omega⟩ h1 (fun e => by have := hs e; simp at this; exact this.1)
    have ev : upd (upd st.vars (leavesEff resLeafV (id + 1) ls)) (resLeafV id l) = upd st.vars (leavesEff resLeafV id (l :: ls)) := (upd_append _ _ _).symm
    have eo : upd (upd st.objs (leavesEff resLeafO (id + 1) ls)) (resLeafO id l) = upd st.objs (leavesEff resLeafO id (l :: ls)) := (upd_append _ _ _).symm
    simp only [ev, eo] at i2 r2 k2
    refine ⟨sh2, e2.trans e1, i2.less fun q hq => ⟨⟨hq.1, fun h' => hq.2 ⟨by omega, by simp only [List.length_cons]; omega⟩⟩, fun h' => hq.2 ⟨by omega, by simp only [List.length_cons]; omega⟩⟩, ⟨r2, ?_⟩, keeps_trans k1 k2 (fun q hq => ⟨by omega, by simp only [List.length_cons]; omega⟩) (fun q hq => ⟨by omega, by simp only [List.length_cons]; omega⟩), ?_⟩
    · exact all2_mono (fun s u m g => svRep_keeps k2 (fun q hi e => by have := d1 s m q hi; omega) g) r1
    · intro s m q hi
      simp only [List.length_cons]
      rcases List.mem_cons.mp m with rfl | m
      · have := d2 q hi; omega
      · have := d1 s m q hi; omega
  | [], _ :: _, _, _, _, _, _, _, _, _, _, _, h, _ => h.elim
  | _ :: _, [], _, _, _, _, _, _, _, _, _, _, h, _ => h.elim

theorem InvS.addPk (hpins : ∀ q ∈ cx.pins, q.1 < 1000) {still : Bool} (h : InvS cx st sh a W Fr) (hb : Back sh lab' nid still) {k id : Nat} (hk : 4096 ≤ k) (hid : id = nid + (k - 4096)) {l : LV} {v : Value} (hF : ∀ j, j < l.leaves.length → Fr (id + j)) (hl16 : l.leaves.length ≤ 16) (hl : LVRep W lab' k l v) (hs : still = true → l.still = true) :
    ∃ sh', sh'.lab = sh.lab ∧ InvS cx ⟨st.slots, upd st.vars (leavesEff resLeafV id l.leaves), upd st.objs (leavesEff resLeafO id l.leaves), st.next⟩ sh' a W (fun q => Fr q ∧ ¬ (id ≤ q ∧ q < id + 16)) ∧
      PkRep ⟨st.slots, upd st.vars (leavesEff resLeafV id l.leaves), upd st.objs (leavesEff resLeafO id l.leaves), st.next⟩ W sh' (resPk id l) v ∧
      Keeps st W sh ⟨st.slots, upd st.vars (leavesEff resLeafV id l.leaves), upd st.objs (leavesEff resLeafO id l.leaves), st.next⟩ W sh' (fun q => id ≤ q ∧ q < id + 16) ∧ (∀ s ∈ (resPk id l).svs, ∀ q ∈ s.ids, id ≤ q ∧ q < id + 16) := by
  cases l with
  | one l =>
    obtain ⟨sh', e, i, r, kk, d⟩ := InvS.addLeaves (ls := [l]) (vs := [v]) (k := k) (id := id) hpins h hb hk hid (fun j hj => hF j hj) ⟨hl, trivial⟩ hs
    refine ⟨sh', e, i.less fun q hq => ⟨hq.1, fun h' => hq.2 ⟨h'.1, by simp at h'; omega⟩⟩, r.1, keeps_trans kk (Keeps.same rfl rfl) (fun q hq => ⟨hq.1, by have := hq.2; simp at this; omega⟩) (fun _ h => h.elim), fun s m q hi => ?_⟩
    have := d s (by simpa [resPk, Pk.svs, resLeaves] using m) q hi
    simp at this; omega
  | agg ls =>
    obtain ⟨cs, rfl, hls⟩ := hl
    have hl16' : ls.length ≤ 16 := hl16
    obtain ⟨sh', e, i, r, kk, d⟩ := InvS.addLeaves (k := k) (id := id) hpins h hb hk hid (fun j hj => hF j hj) hls hs
    refine ⟨sh', e, i.less fun q hq => ⟨hq.1, fun h' => hq.2 ⟨h'.1, by omega⟩⟩, ⟨cs, rfl, r⟩, keeps_trans kk (Keeps.same rfl rfl) (fun q hq => ⟨hq.1, by omega⟩) (fun _ h => h.elim), fun s m q hi => ?_⟩
    have := d s m q hi
    omega

theorem InvS.addPks (hpins : ∀ q ∈ cx.pins, q.1 < 1000) {still : Bool} : ∀ {ls : List LV} {vs : List Value} {st : St} {sh : Sh} {Fr : Nat → Prop} {k id : Nat}, InvS cx st sh a W Fr → Back sh lab' nid still → 4096 ≤ k → id = nid + (k - 4096) → (∀ (m : Nat) (l : LV) (j : Nat), ls[m]? = some l → j < l.leaves.length → Fr (id + 16 * m + j)) → (∀ l ∈ ls, l.leaves.length ≤ 16) → LVsRep W lab' k ls vs → (still = true → ls.all LV.still = true) →
    ∃ sh', sh'.lab = sh.lab ∧ InvS cx ⟨st.slots, upd st.vars (resEff resLeafV id ls), upd st.objs (resEff resLeafO id ls), st.next⟩ sh' a W (fun q => Fr q ∧ ¬ (id ≤ q ∧ q < id + 16 * ls.length)) ∧
      All2 (PkRep ⟨st.slots, upd st.vars (resEff resLeafV id ls), upd st.objs (resEff resLeafO id ls), st.next⟩ W sh') (resPks id ls) vs ∧
      Keeps st W sh ⟨st.slots, upd st.vars (resEff resLeafV id ls), upd st.objs (resEff resLeafO id ls), st.next⟩ W sh' (fun q => id ≤ q ∧ q < id + 16 * ls.length) ∧ (∀ p ∈ resPks id ls, ∀ s ∈ p.svs, ∀ q ∈ s.ids, id ≤ q ∧ q < id + 16 * ls.length)
  | [], [], st, sh, Fr, k, id, h, _, _, _, _, _, _, _ => ⟨sh, rfl, h.less fun q hq => hq.1, trivial, ⟨fun b _ => ⟨rfl, rfl⟩, fun _ _ hv => ⟨hv, rfl⟩, fun _ _ rows' _ hs => ⟨rfl, rows', hs, rfl, fun _ _ _ xs' _ _ hc => ⟨xs', hc, rfl, rfl⟩⟩⟩, by simp [resPks]⟩
  | l :: ls, v :: vs, st, sh, Fr, k, id, h, hb, hk, hid, hF, h16, ⟨h1, h2⟩, hs => by
    obtain ⟨sh1, e1, i1, r1, k1, d1⟩ := InvS.addPks (k := k + 16) (id := id + 16) hpins h hb (by omega) (by omega) (fun m l' j hm hj => by rw [show id + 16 + 16 * m + j = id + 16 * (m + 1) + j by omega]; exact hF (m + 1) l' j (by simpa using hm) hj) (fun l m => h16 l (by simp [m])) h2 (fun e => by have := hs e; simp at this; simpa using this.2)
    obtain ⟨sh2, e2, i2, r2, k2, d2⟩ := i1.addPk (lab' := lab') (nid := nid) (still := still) hpins ⟨fun b m hm ho => by rw [e1]; exact hb.new b m hm ho, fun e b hb' => by rw [e1]; exact hb.imm e b hb'⟩ hk hid (fun j hj => ⟨by have := hF 0 l j rfl hj; simpa using this, by have := h16 l (by simp); omega⟩) (h16 l (by simp)) h1 (fun e => by have := hs e; simp at this; exact this.1)
    have ev : upd (upd st.vars (resEff resLeafV (id + 16) ls)) (leavesEff resLeafV id l.leaves) = upd st.vars (resEff resLeafV id (l :: ls)) := (upd_append _ _ _).symm
    have eo : upd (upd st.objs (resEff resLeafO (id + 16) ls)) (leavesEff resLeafO id l.leaves) = upd st.objs (resEff resLeafO id (l :: ls)) := (upd_append _ _ _).symm
    simp only [ev, eo] at i2 r2 k2
    refine ⟨sh2, e2.trans e1, i2.less fun q hq => ⟨⟨hq.1, fun h' => hq.2 ⟨by omega, by simp only [List.length_cons]; omega⟩⟩, fun h' => hq.2 ⟨by omega, by simp only [List.length_cons]; omega⟩⟩, ⟨r2, ?_⟩, keeps_trans k1 k2 (fun q hq => ⟨by omega, by simp only [List.length_cons]; omega⟩) (fun q hq => ⟨by omega, by simp only [List.length_cons]; omega⟩), ?_⟩
    · exact all2_mono (fun p u m g => pkRep_keeps k2 (fun q hi e => by
        obtain ⟨s, m1, m2⟩ := List.mem_flatMap.mp hi
        have := d1 p m s m1 q m2; omega) g) r1
    · intro p m s ms q hi
      simp only [List.length_cons]
      rcases List.mem_cons.mp m with rfl | m
      · have := d2 s ms q hi; omega
      · have := d1 p m s ms q hi; omega
  | [], _ :: _, _, _, _, _, _, _, _, _, _, _, _, h, _ => h.elim
  | _ :: _, [], _, _, _, _, _, _, _, _, _, _, _, h, _ => h.elim
end res
end Go.Proofs.YtedciihjgbkjgacGreatDoor.A
