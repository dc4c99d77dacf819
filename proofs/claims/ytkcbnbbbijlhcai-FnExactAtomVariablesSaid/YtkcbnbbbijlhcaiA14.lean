/- THE ABSTRACT SEMANTICS IS SOUND, tenth part: slices of one's own are made. Conditions: none. -/
import Derived.Test.YtkcbnbbbijlhcaiA13
import Derived.Test.YtkcbnbbbijlhcaiA4
import Derived.Laws.MakeOwn
import Derived.Laws.Tables
import Derived.Laws.Append
namespace Go.Proofs.Ytkcbnbbbijlhcai.A
open Go
set_option linter.unusedSimpArgs false
set_option linter.unusedVariables false

theorem setRange_length {α : Type} {l xs : List α} {j : Nat} (h : j + xs.length ≤ l.length) : (setRange l j xs).length = l.length := by
  simp [setRange]; omega
theorem setRange_get {α : Type} {l xs : List α} {j : Nat} (h : j + xs.length ≤ l.length) (k : Nat) : (setRange l j xs)[k]? = if k < j then l[k]? else if k < j + xs.length then xs[k - j]? else l[k]? := by
  have hl : (l.take j).length = j := by simp; omega
  unfold setRange
  by_cases h1 : k < j
  · rw [if_pos h1, List.append_assoc, List.getElem?_append_left (by omega), List.getElem?_take, if_pos h1]
  · rw [if_neg h1, List.append_assoc, List.getElem?_append_right (by omega), hl]
    by_cases h2 : k < j + xs.length
    · rw [if_pos h2, List.getElem?_append_left (by omega)]
    · rw [if_neg h2, List.getElem?_append_right (by omega), List.getElem?_drop]
      congr 1; omega
theorem foldl_put (off : Nat) : ∀ (vs : List Value) (k : Nat) (cs : Array Value), off + k + vs.length ≤ cs.size →
    ((vs.zipIdx k).foldl (fun cs (p : Value × Nat) => cs.setIfInBounds (off + p.2) p.1) cs).toList = setRange cs.toList (off + k) vs
  | [], k, cs, _ => by simp [setRange]
  | v :: vs, k, cs, h => by
    simp only [List.length_cons] at h
    have ih := foldl_put off vs (k + 1) (cs.setIfInBounds (off + k) v) (by rw [Array.size_setIfInBounds]; omega)
    simp only [List.zipIdx_cons, List.foldl_cons]
    rw [ih]
    have hcs : cs.toList.length = cs.size := Array.length_toList
    apply List.ext_getElem?
    intro q
    rw [setRange_get (by simp; omega), setRange_get (by simp; omega)]
    simp only [Array.toList_setIfInBounds, List.getElem?_set, List.length_cons]
    by_cases h1 : q < off + k
    · rw [if_pos (by omega), if_neg (by omega), if_pos h1]
    · by_cases h2 : q = off + k
      · subst h2
        rw [if_pos (by omega), if_pos rfl, if_pos (by omega), if_neg h1, if_pos (by omega)]
        simp
      · rw [if_neg (by omega), if_neg h1]
        by_cases h3 : q < off + k + (vs.length + 1)
        · rw [if_pos (by omega), if_pos h3]
          rw [show q - (off + k) = (q - (off + (k + 1))) + 1 by omega, List.getElem?_cons_succ]
        · rw [if_neg (by omega), if_neg (by omega), if_neg h3]
theorem fill_cons {place : Nat → Option (Nat × Nat)} {cells : Array Value} {i : Nat} {v : Value} {rest : List (Nat × Value)} {off n : Nat} (hp : place i = some (off, n)) (h1 : v.cells.size = n) (h2 : off + n ≤ cells.size) :
    ∃ cells' : Array Value, cells'.toList = setRange cells.toList off v.cells.toList ∧ Instr.fill place cells ((i, v) :: rest) = Instr.fill place cells' rest := by
  refine ⟨v.cells.zipIdx.foldl (fun cs (c, j) => cs.setIfInBounds (off + j) c) cells, ?_, ?_⟩
  · have := foldl_put off v.cells.toList 0 cells (by rw [Array.length_toList]; omega)
    rw [Nat.add_zero] at this
    rw [← this, ← Array.foldl_toList, Array.toList_zipIdx]
  · conv => lhs; unfold Instr.fill
    have h3 : ¬ off + v.cells.size > cells.size := by omega
    simp [hp, h1, h3]
    omega

section make
variable {P : Program} {cx : Cx} {st : St} {sh : Sh} {a : Act} {W : World} {Fr : Nat → Prop} {nid : Nat} {o : Oper} {K : Eff → Prop} {Q : Exit → Act → World → Prop}

/-- The cells of a slice that is being made. -/
def RowsRep (W : World) (lab : Nat → Lab) (nid w : Nat) (rows : Rows) (cells : List Value) : Prop :=
  (∀ r ∈ rows, r.length = w) ∧ ∀ (i j : Nat) (r : List Cell) (x : Cell), rows[i]? = some r → r[j]? = some x → ∃ v, cells[i * w + j]? = some v ∧ OwnCell W lab (.inn nid i j) x v

theorem ownCell_agree' {W W' : World} {lab lab' : Nat → Lab} {S : Lab → Prop} (h : Agree W lab W' lab' S) (hS : S .imm) {L : Lab} (hL : S L) {c : Cell} {v : Value} : OwnCell W lab L c v → OwnCell W' lab' L c v := ownCell_agree h hS hL
theorem rowsRep_relab {lab : Nat → Lab} {π : Lab → Lab} (hπ : goodπ π) (hm : ∀ L, mine nid L → π L = L) {w : Nat} {rows : Rows} {cells : List Value} (h : RowsRep W lab nid w rows cells) : RowsRep W (fun b => π (lab b)) nid w rows cells := by
  refine ⟨h.1, fun i j r x hi hj => ?_⟩
  obtain ⟨v, h1, h2⟩ := h.2 i j r x hi hj
  exact ⟨v, h1, ownCell_relab hπ (fun _ _ _ => hm _ (.inr ⟨_, _, rfl⟩)) h2⟩

/-- A new block for a slice of one's own. -/
theorem good_newObj (h : InvS cx st sh a W Fr) (hd : ∀ d', o.dst = some d' → d' < cx.n) (hnid : ∀ k, k < 64 → Fr (nid + k)) (hpins : ∀ q ∈ cx.pins, q.1 < 1000) {ws : List (Nat × Option Obj')} {π : Lab → Lab} (g : Grafted cx st sh a W Fr nid ws π)
    {w n cap : Nat} {rows : Rows} {c : Array Value} {t : TypeId} {W1 : World} (hw1 : W1.heap = W.heap ∧ W1.os = W.os ∧ W1.tape = W.tape ∧ W1.output = W.output) (hr : (execOp a.eval o).run P W = .ok (.value (.slice (some ⟨W.heap.size, 0, none⟩) n cap)) (W1.alloc (.cells c t)))
    (hw : 0 < w) (hn : rows.length = n) (hcap : n ≤ cap) (hsz : c.size = cap * w) (hrep : RowsRep W (fun b => π (sh.lab b)) nid w rows c.toList) (hst : ∀ r ∈ rows, ∀ s xs, Cell.sl s xs ∈ r → ¬ (Fr s ∧ ¬ (nid ≤ s ∧ s < nid + 64)))
    (hK : K ⟨.one (.ref nid w 0 n), (nid, some (w, rows)) :: ws, []⟩) : Good P cx st Fr nid o a W K Q := by
  unfold Good Oper.wp
  rw [hr]
  have hF0 : Fr nid := by simpa using hnid 0 (by omega)
  have h1 := g.inv
  have h2 := h1.sameHeap hpins hw1.1 hw1.2.1 hw1.2.2.1 hw1.2.2.2
  have h3 := h2.alloc hpins (.cells c t) (.own nid)
  have hsize : W1.heap.size = W.heap.size := by rw [hw1.1]
  have ag := h2.agree_alloc (.cells c t) (.own nid)
  have hrep' : OwnRep (W1.alloc (.cells c t)) ((⟨fun b => π (sh.lab b), sh.μ, sh.β⟩ : Sh).add W1.heap.size (.own nid)) nid w rows (.slice (some ⟨W.heap.size, 0, none⟩) n cap) := by
    refine ⟨hw, hrep.1, .inr ⟨W.heap.size, cap, c, t, by rw [hn], by rw [hn]; exact hcap, by simp [Sh.add, hsize], by rw [alloc_get, if_pos hsize.symm], hsz, fun i j r x hi hj => ?_⟩⟩
    obtain ⟨v, k1, k2⟩ := hrep.2 i j r x hi hj
    refine ⟨v, by simpa using k1, ownCell_agree ag (by simp) (by simp) ?_⟩
    exact ownCell_agree (S := fun _ => True) (fun b _ => ⟨rfl, by rw [hw1.1]⟩) trivial trivial k2
  have h4 := h3.addObj hpins hF0 hrep' (Fr' := fun id => Fr id ∧ ¬ (nid ≤ id ∧ id < nid + 64)) (fun id hf => ⟨hf.1, by rintro rfl; exact hf.2 ⟨by omega, by omega⟩⟩)
    (fun i j s xs hc => by
      obtain ⟨r, m1, m2⟩ := cell_get hc (by simp)
      exact hst r (List.mem_of_getElem? m1) s xs (List.mem_of_getElem? m2))
  have e : upd (upd st.objs ws) [(nid, some (w, rows))] = upd st.objs ((nid, some (w, rows)) :: ws) := rfl
  refine ⟨⟨.one (.ref nid w 0 n), (nid, some (w, rows)) :: ws, []⟩, _, hK, InvS.put h4 hd (av := .one (.ref nid w 0 n)) (v := .slice (some ⟨W.heap.size, 0, none⟩) n cap) ?_ ?_⟩
  · intro w' rows' ho
    simp only [upd, if_true, Option.some.injEq, Prod.mk.injEq] at ho
    obtain ⟨rfl, rfl⟩ := ho
    refine ⟨rfl, by omega, .inl ?_⟩
    simp only [if_true]
    rw [viewOf_full]
    intro ad ha; cases ha; rfl
  · intro id hf hm
    rw [one_ids] at hm
    simp only [SV.ids, List.mem_singleton] at hm
    subst hm
    exact hf.2 ⟨by omega, by omega⟩

theorem madeCells_get (z : Array Value) {n w i j m : Nat} (hz : z.size = w) (hj : j < w) (hi : i < m) (hn : n = m * w) : (madeCells z n)[i * w + j]? = some (z.toList.getD j default) := by
  have hlt : i * w + j < n := by
    subst hn
    calc i * w + j < i * w + w := by omega
      _ = (i + 1) * w := by rw [Nat.add_mul]; omega
      _ ≤ m * w := Nat.mul_le_mul_right w hi
  have hmod : (i * w + j) % w = j := by rw [Nat.mul_comm, Nat.mul_add_mod, Nat.mod_eq_of_lt hj]
  simp only [madeCells, Array.getElem?_map, Array.getElem?_range, hlt, if_true, Option.map_some, hz, hmod]
  congr 1
  have hj' : j < z.size := by omega
  rw [getElem!_pos z j hj', List.getD_eq_getElem?_getD, List.getElem?_eq_getElem (by simpa using hj')]
  simp
theorem zero_rows {lab : Nat → Lab} {z : Array Value} {n w m : Nat} (hone : ∀ v ∈ z.toList, v.oneCell' = true) (hn0 : 0 < nid) (hz : z.size = w) (hm : n ≤ m) : RowsRep W lab nid w (List.replicate n (z.toList.map (zeroCell nid))) (madeCells z (m * w)).toList := by
  refine ⟨fun r hr => by rw [List.eq_of_mem_replicate hr]; simpa using hz, fun i j r x hi hj => ?_⟩
  rw [List.getElem?_replicate] at hi
  split at hi
  · rename_i hlt
    simp only [Option.some.injEq] at hi
    subst hi
    simp only [List.getElem?_map, Option.map_eq_some_iff] at hj
    obtain ⟨v, hv, rfl⟩ := hj
    have hjl : j < z.toList.length := (List.getElem?_eq_some_iff.mp hv).1
    refine ⟨v, ?_, ?_⟩
    · rw [Array.getElem?_toList, madeCells_get z hz (by simpa [← hz] using hjl) (show i < m by omega) rfl, List.getD_eq_getElem?_getD, hv]; rfl
    · unfold zeroCell
      split
      · rename_i hnil
        rw [isNil_eq hnil]
        obtain ⟨q, rfl⟩ : ∃ q, nid = q + 1 := ⟨nid - 1, by omega⟩
        exact ownSl_empty
      · exact ⟨rfl, hone v (List.mem_of_getElem? hv)⟩
  · cases hi
theorem zero_stamps {z : List Value} {n : Nat} {r : List Cell} (hr : r ∈ List.replicate n (z.map (zeroCell nid))) {s : Nat} {xs : List Value} (hs : Cell.sl s xs ∈ r) : s = nid := by
  rw [List.eq_of_mem_replicate hr] at hs
  obtain ⟨v, _, e⟩ := List.mem_map.mp hs
  unfold zeroCell at e
  split at e
  · cases e; rfl
  · cases e

theorem good_makeSlice (h : InvS cx st sh a W Fr) (hd : ∀ d', o.dst = some d' → d' < cx.n) (hnid : ∀ k, k < 64 → Fr (nid + k)) (hpins : ∀ q ∈ cx.pins, q.1 < 1000) {t : TypeId} {l c : Operand} (ho : o.op = .makeSlice t l c) {w bytes : Nat} {z : List Value} (ht : elemOf' P t = some (w, bytes, z))
    (hK : asNat (st.ev l) fun n => asNat (st.ev c) fun m => n ≤ m ∧ m * bytes ≤ 140737488355328 ∧ K ⟨.one (.ref nid w 0 n), [(nid, some (w, List.replicate n (z.map (zeroCell nid))))], []⟩) : Good P cx st Fr nid o a W K Q := by
  obtain ⟨el, info, hu, hin, hsz, hby, hz, hzl, hw0, hb0, hb1⟩ := elemOf_some ht
  obtain ⟨il, nl, el1, l0, hK⟩ := asNat_eq hK
  obtain ⟨ic, nc, ec1, c0, hle, hbound, hK1⟩ := asNat_eq hK
  have ev := h.ev l
  rw [el1] at ev
  have ev : a.eval l = .int il nl := ev
  have ev' := h.ev c
  rw [ec1] at ev'
  have ev' : a.eval c = .int ic nc := ev'
  unfold zeroOf at hz
  rw [hin] at hz
  simp only [Option.map_eq_some_iff] at hz
  obtain ⟨zv, hzv, rfl⟩ := hz
  have hzs : zv.cells.size = w := by simpa using hzl
  have hF0 : Fr nid := by simpa using hnid 0 (by omega)
  have hlo := h.low nid hF0
  subst hby
  have hmul : nc.toNat * 1 ≤ nc.toNat * info.bytes := Nat.mul_le_mul_left _ hb0
  have hr := run_make (P := P) W t el info zv hu hin hzv il ic nl nc l0 (by omega) (by
    have : ((nc.toNat * info.bytes : Nat) : Int) ≤ 140737488355328 := by omega
    rw [Int.natCast_mul, Int.toNat_of_nonneg c0, Int.mul_comm] at this
    omega) (by omega)
  rw [hsz] at hr
  refine good_newObj h hd hnid hpins (grafted_nil h nid) (W1 := W) ⟨rfl, rfl, rfl, rfl⟩ (c := madeCells zv.cells (nc.toNat * w)) (t := el) (n := nl.toNat) (cap := nc.toNat) ?_ hw0 (by simp) hle (by simp [size_madeCells]) (zero_rows (elemOf_zero ht) (by omega) hzs hle) ?_ hK1
  · simp [execOp, ho, Sem.run_bind, ev, ev', hr, Result.andThen, Sem.run_pure]
  · intro r hm s xs hs
    have := zero_stamps hm hs
    subst this
    rintro ⟨_, hq⟩
    exact hq ⟨by omega, by omega⟩
end make
end Go.Proofs.Ytkcbnbbbijlhcai.A
