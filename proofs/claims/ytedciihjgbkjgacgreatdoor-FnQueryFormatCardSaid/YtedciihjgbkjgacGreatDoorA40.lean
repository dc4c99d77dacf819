/- FROM A FUNCTION'S CONTRACT TO A LAW'S STATEMENT: how a law's arguments read. Conditions: none. -/
import Derived.Test.YtedciihjgbkjgacGreatDoorA38
import Derived.WalkKit
import Derived.ProofKit
import Derived.OpenShut
import Derived.ShutString
import Derived.ChangeOld
import Derived.Below
import Derived.SizedLaws
import Derived.ReadAgain
import Derived.ChangeSame
import Derived.Deep.Slices
import Derived.Lib.SmallJoins
namespace Go.Proofs.YtedciihjgbkjgacGreatDoor.A
open Go
open Go.ChangeShapes Go.WideShapes Go.ChangeAt Go.RowKit Go.Deep
set_option linter.unusedSimpArgs false
set_option linter.unusedVariables false

/-- Behind a law's entry all that there is is only read. -/
def lab0 (W : World) : Nat → Lab := fun b => if b < W.heap.size then .imm else .dead

section law
variable {H : Type} {enc : TypeId × Value → H}

theorem trodAll_carry {P : Program} {W W' : World} {base : Nat} {spare : Nat → Bool} {held : Bool} : ∀ {ts : List TypeId} {vs : List Value} {ds : List (DataW H)} {ps : List MemPlace}, DataW.TrodAll enc P W base spare held ts vs ds ps → (∀ p ∈ ps, W.sameAt W' p) → DataW.TrodAll enc P W' base spare held ts vs ds ps
  | [], [], [], _, h, _ => h
  | _ :: _, _ :: _, _ :: _, _, ⟨p, q, ⟨n, h1⟩, h2, e⟩, hs => ⟨p, q, ⟨n, DataW.trod_carry n _ _ _ h1 fun x hx => hs x (by rw [e]; exact List.mem_append_left _ hx)⟩, trodAll_carry h2 (fun x hx => hs x (by rw [e]; exact List.mem_append_right _ hx)), e⟩

/-- A LAW'S CONTRACT, from what its function does. -/
theorem law_calls {P : Program} (hl : laidOutB P = true) (hm : mapsRowed P = true) (hz : ((List.range P.types.size).all fun t => match P.underlying t with | some (.slice e) => decide (0 < P.cellsOf e) | _ => true) = true)
    {f : FuncId} {fn : Func} {c : Code} (hf : P.funcs[f]? = some fn) (hb : fn.body = some c) (hn : (fn.name == "runtime.NumGoroutine") = false) {s : ChangeSpec} (hvars : s.vars = []) {ts : List TypeId} (hts : fn.params.toList = ts) (hT : (ts.all fun t => decide (t < P.types.size)) = true)
    {tb : TypeId} (hres : fn.resultTypes = #[tb]) (htb : P.underlying tb = some .bool) {W : World} {args : Array Value} {ds gs : List (DataW H)} {before : List MemPlace}
    (hW : DataW.Whole enc P fn.params.toList s.vars false W args.toList ds gs before) {lvs upd' : List LV} (hsat : Sat P f lvs [.one (.sc (.bool true))] upd') (hrep : LVsRep W (lab0 W) 0 lvs args.toList)
    (h1 : (s.fn H (ds ++ gs)).results = [.lit (.bool true)]) (h2 : (s.fn H (ds ++ gs)).args = ds) (h3 : (s.fn H (ds ++ gs)).vars = []) :
    Calls P f args W fun e W' => ∃ v, e = .returned v ∧ s.post enc P fn false true false false W args v W' := by
  have hcall := hsat.2.2 W (lab0 W) args.toList (fun b hb => by simp [lab0]; omega) hrep
  have hcf : (callFunc f args.toList.toArray).run P W = .ok (.enter f args.toList.toArray) W := by
    have h1 : fn.name ≠ "runtime.NumGoroutine" := by simpa using hn
    simp [callFunc, hf, h1, hb, Sem.run, program]
  unfold CallF at hcall
  rw [hcf] at hcall
  simp only [Array.toArray_toList] at hcall
  refine Calls.mono hcall ?_
  rintro e W' ⟨v, rfl, lab', hr, _, hext⟩
  have hv : v = .bool true := hr
  subst hv
  have hbel : Below W.heap.size W W' := ⟨hext.os, hext.tape, hext.output, hext.size, fun k hk => (hext.same k hk (.inl (by simp [lab0, hk]))).2⟩
  have hW0 := hW
  obtain ⟨p, q, hA, hV, rfl, hfz, hnd⟩ := hW
  have hlt := DataW.TrodAll.lt hA
  have hK := kids_rows hl hm
  have hsame : ∀ x ∈ p, W.sameAt W' x := by
    intro x hx
    have := hlt x hx
    cases x with
    | cell b off =>
      show W'.cell? ⟨b, off, none⟩ = W.cell? ⟨b, off, none⟩
      simp only [World.cell?, hbel.block b this]
    | map b => exact hbel.block b this
  have hA' := trodAll_carry hA hsame
  have hA2 : DataW.TrodAll enc P W' 0 (fun b => decide (b < W.heap.size)) true fn.params.toList args.toList ds p :=
    DataW.TrodAll.respare hK (slices_full_of P hz) (fun t ht => by
      rw [hts] at ht
      simpa using List.all_eq_true.mp hT t ht) hA' (fun x hx => by simpa using hlt x hx)
  refine ⟨_, rfl, ds, gs, p ++ q, [], p, [], hW0, ?_, by rw [h2]; exact hA2, ?_, hbel.frame _, fun h => by cases h⟩
  · rw [h1, hres]
    exact trodAll_mk1 (shut_bool htb _)
  · rw [h3, hvars]
    rfl

/-! #### how data read -/
section read
variable {P : Program} {W : World}
/-- Cells of a row. -/
def ReadsC (enc : TypeId × Value → H) (P : Program) (W : World) (t : TypeId) {α : Type} (row : α → List Cell) (good : α → Prop) : Prop :=
  ∀ n cs x, DataW.trod enc P W 0 (fun _ => true) true n t cs = some x → ∃ a : α, good a ∧ All2 (ImCell W (lab0 W)) (row a) cs
/-- One value, as a leaf. -/
def ReadsL (enc : TypeId × Value → H) (P : Program) (W : World) (t : TypeId) {α : Type} (leaf : α → Leaf) (good : α → Prop) : Prop :=
  ∀ n v x, DataW.trod enc P W 0 (fun _ => true) true n t [v] = some x → ∃ a : α, good a ∧ ∀ k, LeafRep W (lab0 W) k (leaf a) v

theorem trod_int {t : TypeId} {k : IntKind} (ht : P.underlying t = some (.int k)) {n : Nat} {cs : List Value} {x : DataW H × List MemPlace} (h : DataW.trod enc P W 0 (fun _ => true) true n t cs = some x) : ∃ z, cs = [.int k z] := by
  cases n with
  | zero => simp [DataW.trod] at h
  | succ n =>
    unfold DataW.trod at h
    rw [ht] at h
    split at h <;> simp_all
theorem trod_str {t : TypeId} (ht : P.underlying t = some .string) {n : Nat} {cs : List Value} {x : DataW H × List MemPlace} (h : DataW.trod enc P W 0 (fun _ => true) true n t cs = some x) : ∃ s, cs = [.string s] ∧ s.size ≤ 9223372036854775807 := by
  cases n with
  | zero => simp [DataW.trod] at h
  | succ n =>
    unfold DataW.trod at h
    rw [ht] at h
    split at h <;> simp_all
    rename_i s
    by_cases hs : s.size ≤ maxLen
    · exact hs
    · simp [hs] at h
theorem readsC_int {t : TypeId} (ht : P.underlying t = some (.int .i64)) : ReadsC enc P W t (fun z : Int => [Cell.sc (.int .i64 z)]) (fun _ => True) := by
  intro n cs x h
  obtain ⟨z, rfl⟩ := trod_int ht h
  exact ⟨z, trivial, ⟨rfl, rfl⟩, trivial⟩
theorem readsL_int {t : TypeId} (ht : P.underlying t = some (.int .i64)) : ReadsL enc P W t (fun z : Int => Leaf.sc (.int .i64 z)) (fun _ => True) := by
  intro n v x h
  obtain ⟨z, e⟩ := trod_int ht h
  cases e
  exact ⟨z, trivial, fun _ => rfl⟩
theorem readsC_str {t : TypeId} (ht : P.underlying t = some .string) : ReadsC enc P W t (fun s : ByteArray => [Cell.sc (.string s)]) (fun s => s.size ≤ 9223372036854775807) := by
  intro n cs x h
  obtain ⟨z, rfl, hs⟩ := trod_str ht h
  exact ⟨z, hs, ⟨rfl, rfl⟩, trivial⟩
theorem readsL_str {t : TypeId} (ht : P.underlying t = some .string) : ReadsL enc P W t (fun s : ByteArray => Leaf.sc (.string s)) (fun s => s.size ≤ 9223372036854775807) := by
  intro n v x h
  obtain ⟨z, e, hs⟩ := trod_str ht h
  cases e
  exact ⟨z, hs, fun _ => rfl⟩

/-- A slice. -/
theorem read_slice {t e : TypeId} (ht : P.underlying t = some (.slice e)) {w : Nat} (hc : P.cellsOf e = w) (hw : 0 < w) {α : Type} {row : α → List Cell} {good : α → Prop} (hrow : ∀ a, (row a).length = w) (he : ReadsC enc P W e row good)
    {n : Nat} {v : Value} {x : DataW H × List MemPlace} (h : DataW.trod enc P W 0 (fun _ => true) true n t [v] = some x) :
    ∃ l : List α, (l.length ≤ 9223372036854775807 ∧ ∀ a ∈ l, good a) ∧ ImRep W (lab0 W) w (l.map row) v := by
  rcases open_slice ht h with ⟨h0, _⟩ | ⟨ad, len, cap, m, n', D, Pl, h0, _, hl, hm, hmm, _, hx⟩
  · simp only [List.cons.injEq, and_true] at h0
    subst h0
    exact ⟨[], ⟨by simp, by simp⟩, imRep_nil⟩
  · simp only [List.cons.injEq, and_true] at h0
    subst h0
    simp only [if_true] at hmm
    obtain rfl : cap = m := hmm.symm
    rw [hc] at hx
    have each : ∀ i, i < len → ∃ a : α, good a ∧ ∀ j c, (row a)[j]? = some c → ∃ u, W.cell? ((ad.add (i * w)).add j) = some u ∧ ImCell W (lab0 W) c u := by
      intro i hi
      obtain ⟨cs', h1, h2⟩ := hx i (by omega)
      obtain ⟨_, hlen, hcell⟩ := World.cells?_some h1
      obtain ⟨a, g1, g2⟩ := he _ _ _ h2
      refine ⟨a, g1, fun j c hj => ?_⟩
      obtain ⟨u, u1, u2⟩ := all2_get g2 hj
      refine ⟨u, ?_, u2⟩
      rw [hcell j (by have := (List.getElem?_eq_some_iff.mp u1).1; omega)]
      exact u1
    have build : ∀ k, k ≤ len → ∃ l : List α, l.length = k ∧ (∀ a ∈ l, good a) ∧ ∀ i a, l[i]? = some a → ∀ j c, (row a)[j]? = some c → ∃ u, W.cell? ((ad.add (i * w)).add j) = some u ∧ ImCell W (lab0 W) c u := by
      intro k
      induction k with
      | zero => intro _; exact ⟨[], rfl, by simp, by simp⟩
      | succ k ih =>
        intro hk
        obtain ⟨l, h1, h2, h3⟩ := ih (by omega)
        obtain ⟨a, g1, g2⟩ := each k (by omega)
        refine ⟨l ++ [a], by simp [h1], fun b hb => ?_, fun i b hb => ?_⟩
        · rcases List.mem_append.mp hb with hb | hb
          · exact h2 b hb
          · simp at hb; rw [hb]; exact g1
        · by_cases hik : i < l.length
          · rw [List.getElem?_append_left hik] at hb
            exact h3 i b hb
          · have hil : i = l.length := by
              have := (List.getElem?_eq_some_iff.mp hb).1
              simp at this; omega
            subst hil
            simp at hb
            subst hb
            rw [h1]; exact g2
    obtain ⟨l, h1, h2, h3⟩ := build len (Nat.le_refl _)
    refine ⟨l, ⟨by unfold maxLen at hm; omega, h2⟩, some ad, cap, by rw [List.length_map, h1], by rw [List.length_map, h1]; exact hl, fun r hr => ?_, fun hne => ⟨hw, ?_⟩⟩
    · obtain ⟨a, _, rfl⟩ := List.mem_map.mp hr
      exact hrow a
    · have hl0 : 0 < l.length := by
        rcases Nat.eq_zero_or_pos l.length with e | e
        · exact absurd (by rw [List.length_eq_zero_iff.mp e]; rfl) hne
        · exact e
      have ha0 : l[0]? = some l[0] := List.getElem?_eq_getElem hl0
      have hr0 : 0 < (row l[0]).length := by rw [hrow]; exact hw
      obtain ⟨u, u1, _⟩ := h3 0 _ ha0 0 _ (List.getElem?_eq_getElem hr0)
      simp only [Nat.zero_mul, Addr.add, if_true] at u1
      obtain ⟨b, o, sp⟩ := ad
      have hsp : sp = none := by
        cases sp with
        | none => rfl
        | some y => simp [World.cell?] at u1; split at u1 <;> simp at u1
      subst hsp
      have hb : b < W.heap.size := by
        rcases Nat.lt_or_ge b W.heap.size with g | g
        · exact g
        · simp only [World.cell?, Array.getElem?_eq_none g] at u1; cases u1
      refine ⟨b, o, rfl, by simp [lab0, hb], fun i r hi j c hj => ?_⟩
      rw [List.getElem?_map] at hi
      simp only [Option.map_eq_some_iff] at hi
      obtain ⟨a, ha, rfl⟩ := hi
      obtain ⟨u, v1, v2⟩ := h3 i a ha j c hj
      rw [add_mk, add_mk] at v1
      exact ⟨u, v1, v2⟩
theorem readsL_slice {t e : TypeId} (ht : P.underlying t = some (.slice e)) {w : Nat} (hc : P.cellsOf e = w) (hw : 0 < w) {α : Type} {row : α → List Cell} {good : α → Prop} (hrow : ∀ a, (row a).length = w) (he : ReadsC enc P W e row good) :
    ReadsL enc P W t (fun l : List α => Leaf.im w (l.map row)) (fun l => l.length ≤ 9223372036854775807 ∧ ∀ a ∈ l, good a) := by
  intro n v x h
  obtain ⟨l, h1, h2⟩ := read_slice ht hc hw hrow he h
  exact ⟨l, h1, fun _ => h2⟩
/-- An inner slice of numbers. -/
theorem readsC_ints {t e : TypeId} (ht : P.underlying t = some (.slice e)) (hc : P.cellsOf e = 1) (he : P.underlying e = some (.int .i64)) : ReadsC enc P W t (fun a : List Int => [Cell.sl 0 (a.map (.int .i64))]) (fun a => a.length ≤ 9223372036854775807) := by
  intro n cs x h
  have hone : ∃ v, cs = [v] := by
    rcases open_slice ht h with ⟨h0, _⟩ | ⟨ad, len, cap, m, n', D, Pl, h0, _⟩ <;> exact ⟨_, h0⟩
  obtain ⟨v, rfl⟩ := hone
  obtain ⟨l, h1, h2⟩ := read_slice ht hc (by omega) (fun _ => rfl) (readsC_int he) h
  refine ⟨l, h1.1, imSl_of_lift ?_, trivial⟩
  have : lift (l.map (Value.int .i64)) = l.map fun z => [Cell.sc (.int .i64 z)] := by simp [lift]
  rw [this]
  exact h2

/-! #### structs whose fields are one cell each -/
def oneCells (P : Program) (fs : List Field) : Bool := (List.range fs.length).all fun j => match nth fs j with
  | some f => f.offset == j && P.cellsOf f.type == 1
  | none => true
theorem struct_cells {t : TypeId} {fs : Array Field} (ht : P.underlying t = some (.struct fs)) (hone : oneCells P fs.toList = true) (hsz : P.cellsOf t = fs.toList.length) {n : Nat} {cs : List Value} {x : DataW H × List MemPlace} (h : DataW.trod enc P W 0 (fun _ => true) true n t cs = some x) :
    cs.length = fs.toList.length ∧ ∃ n', ∀ (j : Nat) (f : Field), fs.toList[j]? = some f → ∃ v y, cs[j]? = some v ∧ DataW.trod enc P W 0 (fun _ => true) true n' f.type [v] = some y := by
  obtain ⟨xs, n', _, rfl, hl, hlen, hf⟩ := DataW.trod_struct ht h
  refine ⟨by omega, n', fun j f hj => ?_⟩
  have hjl : j < fs.toList.length := (List.getElem?_eq_some_iff.mp hj).1
  have h1 := hf j f (by rw [← Array.getElem?_toList]; exact hj)
  have h2 := List.all_eq_true.mp hone j (by simpa using hjl)
  rw [nth_eq, hj] at h2
  simp only [Bool.and_eq_true, beq_iff_eq] at h2
  rw [h2.1, h2.2] at h1
  have hc : j < cs.length := by omega
  have h3 : (cs.drop j).take 1 = [cs[j]] := by rw [List.drop_eq_getElem_cons hc]; rfl
  rw [h3] at h1
  have hx : ∃ y, xs[j]? = some y := ⟨_, List.getElem?_eq_getElem (show j < xs.length by simp at hlen hjl ⊢; omega)⟩
  obtain ⟨y, hy⟩ := hx
  exact ⟨cs[j], y, List.getElem?_eq_getElem hc, by rw [h1]; exact hy⟩
theorem readsC_pair {t : TypeId} {f0 f1 : Field} (ht : P.underlying t = some (.struct #[f0, f1])) (hone : oneCells P [f0, f1] = true) (hsz : P.cellsOf t = 2) {α β : Type} {r0 : α → Cell} {r1 : β → Cell} {g0 : α → Prop} {g1 : β → Prop} (h0 : ReadsC enc P W f0.type (fun a => [r0 a]) g0) (h1 : ReadsC enc P W f1.type (fun a => [r1 a]) g1) :
    ReadsC enc P W t (fun x : α × β => [r0 x.1, r1 x.2]) (fun x => g0 x.1 ∧ g1 x.2) := by
  intro n cs x h
  obtain ⟨hl, n', hf⟩ := struct_cells ht hone hsz h
  obtain ⟨v0, y0, a0, b0⟩ := hf 0 f0 rfl
  obtain ⟨v1, y1, a1, b1⟩ := hf 1 f1 rfl
  have hcs : cs = [v0, v1] := by
    match cs, hl with
    | [u0, u1], _ => simp at a0 a1; rw [a0, a1]
  subst hcs
  obtain ⟨z0, q0, c0⟩ := h0 _ _ _ b0
  obtain ⟨z1, q1, c1⟩ := h1 _ _ _ b1
  exact ⟨(z0, z1), ⟨q0, q1⟩, c0.1, c1.1, trivial⟩
theorem readsC_three {t : TypeId} {f0 f1 f2 : Field} (ht : P.underlying t = some (.struct #[f0, f1, f2])) (hone : oneCells P [f0, f1, f2] = true) (hsz : P.cellsOf t = 3) {α β γ : Type} {r0 : α → Cell} {r1 : β → Cell} {r2 : γ → Cell} {g0 : α → Prop} {g1 : β → Prop} {g2 : γ → Prop}
    (h0 : ReadsC enc P W f0.type (fun a => [r0 a]) g0) (h1 : ReadsC enc P W f1.type (fun a => [r1 a]) g1) (h2 : ReadsC enc P W f2.type (fun a => [r2 a]) g2) :
    ReadsC enc P W t (fun x : α × β × γ => [r0 x.1, r1 x.2.1, r2 x.2.2]) (fun x => g0 x.1 ∧ g1 x.2.1 ∧ g2 x.2.2) := by
  intro n cs x h
  obtain ⟨hl, n', hf⟩ := struct_cells ht hone hsz h
  obtain ⟨v0, y0, a0, b0⟩ := hf 0 f0 rfl
  obtain ⟨v1, y1, a1, b1⟩ := hf 1 f1 rfl
  obtain ⟨v2, y2, a2, b2⟩ := hf 2 f2 rfl
  have hcs : cs = [v0, v1, v2] := by
    match cs, hl with
    | [u0, u1, u2], _ => simp at a0 a1 a2; rw [a0, a1, a2]
  subst hcs
  obtain ⟨z0, q0, c0⟩ := h0 _ _ _ b0
  obtain ⟨z1, q1, c1⟩ := h1 _ _ _ b1
  obtain ⟨z2, q2, c2⟩ := h2 _ _ _ b2
  exact ⟨(z0, z1, z2), ⟨q0, q1, q2⟩, c0.1, c1.1, c2.1, trivial⟩
/-- A struct, handed over whole. -/
theorem arg_struct {t : TypeId} {fs : Array Field} (ht : P.underlying t = some (.struct fs)) (hone : oneCells P fs.toList = true) (hsz : P.cellsOf t = fs.toList.length) {base : Nat} {v : Value} (hv : Value.okWide P W .any base t v) {d : DataW H} {ps : List MemPlace} (h : DataW.Trod enc P W 0 (fun _ => true) true t v d ps) :
    ∃ cs : Array Value, v = .agg cs ∧ cs.toList.length = fs.toList.length ∧ ∃ n', ∀ (j : Nat) (f : Field), fs.toList[j]? = some f → ∃ v y, cs.toList[j]? = some v ∧ DataW.trod enc P W 0 (fun _ => true) true n' f.type [v] = some y := by
  obtain ⟨cs, rfl, hcs⟩ := okWide_struct ht hv
  obtain ⟨n, hn⟩ := h
  obtain ⟨h1, h2⟩ := struct_cells ht hone hsz hn
  exact ⟨cs, rfl, h1, h2⟩
theorem arg_pair {t : TypeId} {f0 f1 : Field} (ht : P.underlying t = some (.struct #[f0, f1])) (hone : oneCells P [f0, f1] = true) (hsz : P.cellsOf t = 2) {α β : Type} {r0 : α → Leaf} {r1 : β → Leaf} {g0 : α → Prop} {g1 : β → Prop} (h0 : ReadsL enc P W f0.type r0 g0) (h1 : ReadsL enc P W f1.type r1 g1)
    {base : Nat} {v : Value} (hv : Value.okWide P W .any base t v) {d : DataW H} {ps : List MemPlace} (h : DataW.Trod enc P W 0 (fun _ => true) true t v d ps) : ∃ a b, g0 a ∧ g1 b ∧ ∀ k, LVRep W (lab0 W) k (.agg [r0 a, r1 b]) v := by
  obtain ⟨cs, rfl, hl, n', hf⟩ := arg_struct ht hone hsz hv h
  obtain ⟨v0, y0, a0, b0⟩ := hf 0 f0 rfl
  obtain ⟨v1, y1, a1, b1⟩ := hf 1 f1 rfl
  have hcs : cs.toList = [v0, v1] := by
    revert hl a0 a1
    generalize cs.toList = l
    intro hl a0 a1
    match l, hl with
    | [u0, u1], _ => simp at a0 a1; rw [a0, a1]
  obtain ⟨z0, q0, c0⟩ := h0 _ _ _ b0
  obtain ⟨z1, q1, c1⟩ := h1 _ _ _ b1
  refine ⟨z0, z1, q0, q1, fun k => ⟨cs, rfl, ?_⟩⟩
  rw [hcs]
  exact ⟨c0 _, c1 _, trivial⟩
theorem arg_three {t : TypeId} {f0 f1 f2 : Field} (ht : P.underlying t = some (.struct #[f0, f1, f2])) (hone : oneCells P [f0, f1, f2] = true) (hsz : P.cellsOf t = 3) {α β γ : Type} {r0 : α → Leaf} {r1 : β → Leaf} {r2 : γ → Leaf} {g0 : α → Prop} {g1 : β → Prop} {g2 : γ → Prop} (h0 : ReadsL enc P W f0.type r0 g0) (h1 : ReadsL enc P W f1.type r1 g1) (h2 : ReadsL enc P W f2.type r2 g2)
    {base : Nat} {v : Value} (hv : Value.okWide P W .any base t v) {d : DataW H} {ps : List MemPlace} (h : DataW.Trod enc P W 0 (fun _ => true) true t v d ps) : ∃ a b c, g0 a ∧ g1 b ∧ g2 c ∧ ∀ k, LVRep W (lab0 W) k (.agg [r0 a, r1 b, r2 c]) v := by
  obtain ⟨cs, rfl, hl, n', hf⟩ := arg_struct ht hone hsz hv h
  obtain ⟨v0, y0, a0, b0⟩ := hf 0 f0 rfl
  obtain ⟨v1, y1, a1, b1⟩ := hf 1 f1 rfl
  obtain ⟨v2, y2, a2, b2⟩ := hf 2 f2 rfl
  have hcs : cs.toList = [v0, v1, v2] := by
    revert hl a0 a1 a2
    generalize cs.toList = l
    intro hl a0 a1 a2
    match l, hl with
    | [u0, u1, u2], _ => simp at a0 a1 a2; rw [a0, a1, a2]
  obtain ⟨z0, q0, c0⟩ := h0 _ _ _ b0
  obtain ⟨z1, q1, c1⟩ := h1 _ _ _ b1
  obtain ⟨z2, q2, c2⟩ := h2 _ _ _ b2
  refine ⟨z0, z1, z2, q0, q1, q2, fun k => ⟨cs, rfl, ?_⟩⟩
  rw [hcs]
  exact ⟨c0 _, c1 _, c2 _, trivial⟩
theorem arg_one {t : TypeId} {α : Type} {r0 : α → Leaf} {g0 : α → Prop} (h0 : ReadsL enc P W t r0 g0) {v : Value} (hv : ∀ cs, v ≠ .agg cs) {d : DataW H} {ps : List MemPlace} (h : DataW.Trod enc P W 0 (fun _ => true) true t v d ps) : ∃ a, g0 a ∧ ∀ k, LVRep W (lab0 W) k (.one (r0 a)) v := by
  obtain ⟨n, hn⟩ := h
  have e : v.cells.toList = [v] := by
    cases v <;> first | rfl | exact absurd rfl (hv _)
  rw [e] at hn
  exact h0 _ _ _ hn
end read
end law
end Go.Proofs.YtedciihjgbkjgacGreatDoor.A
