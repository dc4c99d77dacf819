/- THE ABSTRACT SEMANTICS IS SOUND, twelfth part: append. Conditions: none. -/
import Derived.Test.YtkcbnbbbijlhcaiA15
import Derived.Laws.AppendOwn
namespace Go.Proofs.Ytkcbnbbbijlhcai.A
open Go
set_option linter.unusedSimpArgs false
set_option linter.unusedVariables false

/-- What is appended, as append reads it. -/
structure Src (P : Program) (W : World) (w n : Nat) (v : Value) (cells : List Value) : Prop where
  len : ∀ W', (Builtin.lenOf v).run P W' = .ok n W'
  get : ∀ W', W'.heap = W.heap → (Builtin.firstCells w n v).run P W' = .ok cells.toArray W'

/-- Rows that lie in cells, from row L on. -/
def AtRep (W : World) (lab : Nat → Lab) (nid w L : Nat) (rows : Rows) (cells : List Value) : Prop :=
  (∀ r ∈ rows, r.length = w) ∧ ∀ (i j : Nat) (r : List Cell) (x : Cell), rows[i]? = some r → r[j]? = some x → ∃ v, cells[i * w + j]? = some v ∧ OwnCell W lab (.inn nid (L + i) j) x v

def shiftL (id nid L : Nat) : Lab → Lab
  | .inn q i j => if q = id then .inn nid (L + i) j else .inn q i j
  | l => l

section app
variable {P : Program} {cx : Cx} {st : St} {sh : Sh} {a : Act} {W : World} {Fr : Nat → Prop} {nid : Nat} {o : Oper} {K : Eff → Prop} {Q : Exit → Act → World → Prop}

theorem atRep_relab {lab : Nat → Lab} {π : Lab → Lab} (hπ : goodπ π) (hm : ∀ L, mine nid L → π L = L) {w L : Nat} {rows : Rows} {cells : List Value} (h : AtRep W lab nid w L rows cells) : AtRep W (fun b => π (lab b)) nid w L rows cells := by
  refine ⟨h.1, fun i j r x hi hj => ?_⟩
  obtain ⟨v, h1, h2⟩ := h.2 i j r x hi hj
  exact ⟨v, h1, ownCell_relab hπ (fun _ _ _ => hm _ (.inr ⟨_, _, rfl⟩)) h2⟩
theorem cell_heap {W W' : World} (h : W'.heap = W.heap) (ad : Addr) : W'.cell? ad = W.cell? ad := by
  simp only [World.cell?, h]
/-- The cells of a slice. -/
theorem src_slice {A : Option Addr} {n cap w : Nat} (hc : n * w ≠ 0 → ∃ b o, A = some ⟨b, o, none⟩ ∧ ∀ k, k < n * w → ∃ u, W.cell? ⟨b, o + k, none⟩ = some u) :
    ∃ cells : List Value, cells.length = n * w ∧ Src P W w n (.slice A n cap) cells ∧ ∀ b o, A = some ⟨b, o, none⟩ → ∀ k, k < n * w → cells[k]? = W.cell? ⟨b, o + k, none⟩ := by
  by_cases h0 : n * w = 0
  · refine ⟨[], by simp [h0], ⟨fun W' => by simp [Builtin.lenOf, Sem.run_pure], fun W' hW => ?_⟩, fun b off _ k hk => by omega⟩
    cases A with
    | none => simp [Builtin.firstCells, Sem.run_pure]
    | some ad => exact run_firstCells_some W' w n ad n cap [] (by simp [h0]) (by simp)
  · obtain ⟨b, off, rfl, hcell⟩ := hc h0
    have hg : ∀ k, k < n * w → ((List.range (n * w)).map fun k => (W.cell? ⟨b, off + k, none⟩).getD undef)[k]? = W.cell? ⟨b, off + k, none⟩ := fun k hk => by
      obtain ⟨u, hu⟩ := hcell k hk
      simp [List.getElem?_range hk, hu]
    refine ⟨(List.range (n * w)).map fun k => (W.cell? ⟨b, off + k, none⟩).getD undef, by simp, ⟨fun W' => by simp [Builtin.lenOf, Sem.run_pure], fun W' hW => ?_⟩, fun b' off' e k hk => ?_⟩
    · refine run_firstCells_some W' w n _ n cap _ (by simp) fun j v hj => ?_
      have hjl : j < n * w := by simpa using (List.getElem?_eq_some_iff.mp hj).1
      rw [hg j hjl] at hj
      rw [add_mk, cell_heap hW]; exact hj
    · cases e; exact hg k hk
theorem rows_index {rows : Rows} {w : Nat} (hr : ∀ r ∈ rows, r.length = w) {k : Nat} (hk : k < rows.length * w) : ∃ i j r c, rows[i]? = some r ∧ r[j]? = some c ∧ k = i * w + j := by
  have hw : 0 < w := by
    rcases Nat.eq_zero_or_pos w with e | e
    · subst e; simp at hk
    · exact e
  have hi : k / w < rows.length := (Nat.div_lt_iff_lt_mul hw).mpr hk
  have hj : k % w < rows[k / w].length := by rw [hr _ (List.getElem_mem hi)]; exact Nat.mod_lt _ hw
  exact ⟨k / w, k % w, rows[k / w], rows[k / w][k % w], List.getElem?_eq_getElem hi, List.getElem?_eq_getElem hj, by rw [Nat.mul_comm]; exact (Nat.div_add_mod k w).symm⟩
theorem index_lt {rows : Rows} {w i j : Nat} {r : List Cell} {c : Cell} (hr : ∀ r ∈ rows, r.length = w) (hi : rows[i]? = some r) (hj : r[j]? = some c) : i * w + j < rows.length * w := by
  have h1 := (List.getElem?_eq_some_iff.mp hi).1
  have h2 := (List.getElem?_eq_some_iff.mp hj).1
  rw [hr r (List.mem_of_getElem? hi)] at h2
  have := Nat.mul_le_mul_right w (show i + 1 ≤ rows.length from h1)
  rw [Nat.succ_mul] at this; omega

/-- A slice that only reads, as what is appended. -/
theorem src_flat (h : InvS cx st sh a W Fr) {s : SV} {v : Value} (hv : SVRep st W sh s v) {w : Nat} {rows : Rows} (hr : st.rows s = some (w, rows)) (hf : flatB rows = true) (L : Nat) :
    ∃ cells : List Value, cells.length = rows.length * w ∧ Src P W w rows.length v cells ∧ AtRep W sh.lab nid w L rows cells := by
  obtain ⟨A, cap, e, hcap, hrl, hc⟩ := h.rows_read hv hr
  have hne : rows.length * w ≠ 0 → rows ≠ [] := by rintro hn rfl; simp at hn
  obtain ⟨cells, h1, h2, h3⟩ := src_slice (P := P) (W := W) (A := A) (n := rows.length) (cap := cap) (w := w) (fun hn => by
    obtain ⟨b, off, eA, _, hcell⟩ := hc (hne hn)
    refine ⟨b, off, eA, fun k hk => ?_⟩
    obtain ⟨i, j, r, c, hi, hj, rfl⟩ := rows_index hrl hk
    obtain ⟨u, g1, _⟩ := hcell i j r c hi hj
    exact ⟨u, by rw [← Nat.add_assoc]; exact g1⟩)
  subst e
  refine ⟨cells, h1, h2, hrl, fun i j r x hi hj => ?_⟩
  have hlt := index_lt hrl hi hj
  obtain ⟨b, off, eA, _, hcell⟩ := hc (hne (by omega))
  obtain ⟨u, g1, g2⟩ := hcell i j r x hi hj
  refine ⟨u, by rw [h3 b off eA _ hlt, ← Nat.add_assoc]; exact g1, g2 ?_ _⟩
  have := List.all_eq_true.mp (List.all_eq_true.mp hf r (List.mem_of_getElem? hi)) x (List.mem_of_getElem? hj)
  cases x with
  | sc _ => trivial
  | gone => trivial
  | sl q xs => exact (show q = 0 by simpa [Cell.flatB] using this)
theorem flat_stamps {rows : Rows} (hf : flatB rows = true) {r : List Cell} (hr : r ∈ rows) {s : Nat} {xs : List Value} (hs : Cell.sl s xs ∈ r) : s = 0 := by
  have := List.all_eq_true.mp (List.all_eq_true.mp hf r hr) _ hs
  simpa [Cell.flatB] using this
theorem lift_flatB (xs : List Value) : flatB (lift xs) = true := by
  simp [flatB, lift, Cell.flatB]

/-- What is appended. -/
theorem src_rep (h : InvS cx st sh a W Fr) (hpins : ∀ q ∈ cx.pins, q.1 < 1000) (hnid : st.objs nid = none) {x : AV} {v : Value} (hv : AVRep st W sh x v) {w : Nat} (hw : 0 < w) (L : Nat) {K : Rows → List (Nat × Option Obj') → Prop} (hK : srcK st w x K) :
    ∃ more ws π cells, K more ws ∧ Grafted cx st sh a W Fr nid ws π ∧ cells.length = more.length * w ∧ Src P W w more.length v cells ∧ AtRep W (fun b => π (sh.lab b)) nid w L more cells ∧ ∀ r ∈ more, ∀ s xs, Cell.sl s xs ∈ r → s = 0 ∨ ¬ Fr s := by
  unfold srcK at hK
  split at hK
  · rename_i s
    obtain ⟨rfl, hK⟩ := hK
    have e : v = .string s := hv
    subst e
    refine ⟨_, _, _, s.data.toList.map fun b => .int .u8 b.toNat, hK, grafted_nil h nid, by simp [lift], ⟨fun W' => ?_, fun W' _ => ?_⟩, ⟨?_, fun i j r x hi hj => ?_⟩, ?_⟩
    · simp [Builtin.lenOf, Sem.run_pure, lift]
    · have hs : (lift (s.data.toList.map fun b => Value.int .u8 b.toNat)).length = s.size := by rw [lift_length, List.length_map, Array.length_toList]; rfl
      rw [hs]
      simp only [Builtin.firstCells, Sem.run_pure]
      congr 1
      apply Array.ext'
      simp only [Array.toList_map]
      congr 1
      have : (s.extract 0 s.size) = s := by
        apply ByteArray.ext
        simp
      rw [this]
    · intro r hr
      simp only [lift, List.mem_map] at hr
      obtain ⟨y, _, rfl⟩ := hr; rfl
    · simp only [lift, List.getElem?_map, Option.map_eq_some_iff] at hi
      obtain ⟨y, ⟨b, hb, rfl⟩, rfl⟩ := hi
      cases j with
      | zero => simp at hj; subst hj; exact ⟨.int .u8 b.toNat, by simp [hb], rfl, rfl⟩
      | succ j => simp at hj
    · intro r hr s' xs hs
      exact .inl (flat_stamps (lift_flatB _) hr hs)
  · rename_i u hu
    obtain ⟨hn, hK⟩ := hK
    have e : v = u := hv
    rw [isNil_eq hn] at e
    subst e
    refine ⟨_, _, _, [], hK, grafted_nil h nid, by simp, ⟨fun W' => by simp [Builtin.lenOf, Sem.run_pure], fun W' _ => by simp [Builtin.firstCells, Sem.run_pure]⟩, ⟨by simp, by simp⟩, by simp⟩
  · rename_i w' rows
    obtain ⟨rfl, hf, hK⟩ := hK
    obtain ⟨cells, h1, h2, h3⟩ := src_flat (P := P) (nid := nid) h (s := .im w' rows) hv rfl hf L
    exact ⟨_, _, _, cells, hK, grafted_nil h nid, h1, h2, h3, fun r hr s xs hs => .inl (flat_stamps hf hr hs)⟩
  · rename_i id w' off len
    split at hK
    · rename_i w2 rows hob
      obtain ⟨rfl, hK⟩ := hK
      obtain ⟨rfl, hle, hvi⟩ := hv w2 rows hob
      split at hK
      · rename_i hf
        obtain ⟨cells, h1, h2, h3⟩ := src_flat (P := P) (nid := nid) h (s := .ref id w2 off len) hv (w := w2) (by simp only [St.rows, hob]) hf L
        exact ⟨_, _, _, cells, hK, grafted_nil h nid, h1, h2, h3, fun r hr s xs hs => .inl (flat_stamps hf hr hs)⟩
      · obtain ⟨rfl, rfl, hK⟩ := hK
        have hne : id ≠ nid := by rintro rfl; rw [hnid] at hob; cases hob
        have hπ : goodπ (shiftL id nid L) := ⟨rfl, rfl, fun _ => rfl, rfl⟩
        have hobj : ∀ id' w rows', upd st.objs [(id, none)] id' = some (w, rows') → ∃ rows, st.objs id' = some (w, rows) ∧ Shrinks rows rows' ∧ (shiftL id nid L) (.own id') = .own id' ∧ ∀ i' j' s xs, Rows.cell rows' i' j' = .sl (s + 1) xs → (shiftL id nid L) (.inn id' i' j') = .inn id' i' j' := by
          intro id' w3 rows' ho'
          simp only [upd] at ho'
          split at ho'
          · cases ho'
          · rename_i hne'
            exact ⟨rows', ho', shrinks_refl _, rfl, fun i' j' s xs _ => by simp only [shiftL, if_neg hne']⟩
        have g : Grafted cx st sh a W Fr nid [(id, none)] (shiftL id nid L) := by
          refine ⟨hπ, h.relab hpins hπ hobj, relab_keeps st W sh hπ (fun id' w2 rows' ho' => ?_), ?_, fun id' hn => ?_⟩
          · obtain ⟨rows, k1, k2, _⟩ := hobj id' w2 rows' ho'
            exact ⟨rows, k1, k2⟩
          · rintro L' (rfl | ⟨i', j', rfl⟩)
            · rfl
            · simp only [shiftL, if_neg hne.symm]
          · simp only [upd]; split
            · rfl
            · exact hn
        obtain ⟨hw0, hrl, hc⟩ := h.objs id w2 rows hob
        obtain ⟨A0, cap0, e0, hcap0⟩ := h.rows_len (s := .ref id w2 0 rows.length) hv (w := w2) (rows := (rows.drop 0).take rows.length) (by simp only [St.rows, hob])
        simp only [List.drop_zero, List.take_length] at e0 hcap0
        rcases hc with ⟨A, _, hn⟩ | ⟨b, cap, c', t', e1, e2, e3, e4, e5, e6⟩
        · subst hn
          obtain ⟨cells, h1, h2, h3⟩ := src_slice (P := P) (W := W) (A := A0) (n := 0) (cap := cap0) (w := w2) (fun hn => by simp at hn)
          refine ⟨_, _, shiftL id nid L, cells, hK, g, h1, by rw [e0]; exact h2, ⟨by simp, by simp⟩, by simp⟩
        · by_cases hne0 : rows = []
          · subst hne0
            obtain ⟨cells, h1, h2, h3⟩ := src_slice (P := P) (W := W) (A := A0) (n := 0) (cap := cap0) (w := w2) (fun hn => by simp at hn)
            refine ⟨_, _, shiftL id nid L, cells, hK, g, h1, by rw [e0]; exact h2, ⟨by simp, by simp⟩, by simp⟩
          · have hpos : 0 < rows.length := List.length_pos_iff.mpr hne0
            rcases hvi with hvi | ⟨hz, _⟩
            case inr => omega
            have hA : A0 = some ⟨b, 0, none⟩ := by
              rw [e1] at hvi
              simp only [viewOf, if_neg (show ¬ cap = 0 by omega), Option.map_some, add_mk, Nat.zero_mul, Nat.add_zero] at hvi
              rw [e0] at hvi
              simp only [Value.slice.injEq] at hvi
              exact hvi.1
            subst hA
            have hin : ∀ k, k < rows.length * w2 → ∃ u, c'[k]? = some u := fun k hk => by
              have : k < c'.size := by rw [e5]; exact Nat.lt_of_lt_of_le hk (Nat.mul_le_mul_right w2 e2)
              exact ⟨_, Array.getElem?_eq_getElem this⟩
            obtain ⟨cells, h1, h2, h3⟩ := src_slice (P := P) (W := W) (A := some ⟨b, 0, none⟩) (n := rows.length) (cap := cap0) (w := w2) (fun _ => ⟨b, 0, rfl, fun k hk => by
              rw [cell_cells e4, Nat.zero_add]; exact hin k hk⟩)
            refine ⟨_, _, shiftL id nid L, cells, hK, g, h1, by rw [e0]; exact h2, ⟨hrl, fun i j r x hi hj => ?_⟩, fun r hr s xs hs => ?_⟩
            · obtain ⟨u, k1, k2⟩ := e6 i j r x hi hj
              refine ⟨u, ?_, ownCell_to hπ (fun s xs _ => by simp [shiftL]) k2⟩
              rw [h3 b 0 rfl _ (index_lt hrl hi hj), cell_cells e4, Nat.zero_add]; exact k1
            · obtain ⟨i, hi⟩ := List.getElem?_of_mem hr
              obtain ⟨j, hj⟩ := List.getElem?_of_mem hs
              exact .inr (h.stamps id w2 rows i j s xs hob (by simp [Rows.cell, List.getD_eq_getElem?_getD, hi, hj]))
    · exact hK.elim
  · rename_i id i j s off len
    split at hK
    · rename_i w' rows hr
      obtain ⟨rfl, hK⟩ := hK
      have hf : flatB rows = true := by
        simp only [St.rows] at hr
        split at hr
        · split at hr
          · split at hr
            · simp only [Option.some.injEq, Prod.mk.injEq] at hr
              rw [← hr.2]; exact lift_flatB _
            · cases hr
          · cases hr
        · cases hr
      obtain ⟨cells, h1, h2, h3⟩ := src_flat (P := P) (nid := nid) h (s := .rin id i j s off len) hv hr hf L
      exact ⟨_, _, _, cells, hK, grafted_nil h nid, h1, h2, h3, fun r hr s xs hs => .inl (flat_stamps hf hr hs)⟩
    · exact hK.elim
  · exact hK.elim
end app
end Go.Proofs.Ytkcbnbbbijlhcai.A
