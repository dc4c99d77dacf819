/- THE ABSTRACT SEMANTICS IS SOUND, twenty-eighth part: a frame at its entry is as its start says. Conditions: none. -/
import Derived.Test.YtkcbnbbbijlhcaiA31
namespace Go.Proofs.Ytkcbnbbbijlhcai.A
open Go
set_option linter.unusedSimpArgs false
set_option linter.unusedVariables false

section entry
variable {W : World} {lab : Nat → Lab} {args : List LV} {vs : List Value}

def pinsOf (args : List LV) (vs : List Value) : List (Nat × Value) := (aAll 0 args vs).map fun r => (r.k, r.v)

theorem argSV_ids (k : Nat) (l : Leaf) : ∀ q ∈ (argSV k l).ids, q = k := by
  cases l <;> simp [argSV, SV.ids]
theorem argLeaves_ids : ∀ {k : Nat} {ls : List Leaf}, ∀ s ∈ argLeaves k ls, ∀ q ∈ s.ids, k ≤ q ∧ q < k + ls.length
  | _, [], s, hs, _, _ => by cases hs
  | k, l :: ls, s, hs, q, hq => by
    simp only [argLeaves, List.mem_cons] at hs
    simp only [List.length_cons]
    rcases hs with rfl | hs
    · have := argSV_ids k l q hq; omega
    · have := argLeaves_ids s hs q hq; omega
theorem argSlots_ids : ∀ {t0 k : Nat} {ls : List LV} (t : Nat), (∀ l ∈ ls, l.leaves.length ≤ 16) → ∀ q ∈ (argSlots t0 k ls t).ids, q < k + 16 * ls.length
  | _, _, [], t, _, q, hq => by simp [argSlots, AV.ids, AV.svs, Pk.svs, SV.ids] at hq
  | t0, k, l :: ls, t, hl, q, hq => by
    unfold argSlots at hq
    simp only [List.length_cons]
    split at hq
    · have h16 := hl l (by simp)
      obtain ⟨s, m1, m2⟩ := List.mem_flatMap.mp hq
      cases l with
      | one l =>
        simp only [argPk, AV.svs, Pk.svs, List.mem_singleton] at m1
        subst m1
        have := argSV_ids k l q m2; omega
      | agg ls' =>
        have := argLeaves_ids s m1 q m2
        simp only [LV.leaves] at h16
        omega
    · have := argSlots_ids t (fun l m => hl l (by simp [m])) q hq
      omega

theorem start_inv (hargs : LVok args 60 = true) (hrep : LVsRep W lab 0 args vs) (hdead : ∀ b, W.heap.size ≤ b → lab b = .dead) {n : Nat} (hn : vs.length ≤ n) {a : Act} (ha : a.tmps.size = n) (hd : a.defers = []) (htm : ∀ t, (a.tmps.getD t undef = undef ∧ vs[t]? = none) ∨ vs[t]? = some (a.tmps.getD t undef)) :
    InvS ⟨W, lab, n, pinsOf args vs⟩ (startOf args) (sh0 lab args vs) a W (fun id => 1000 ≤ id) := by
  obtain ⟨h60, h16⟩ := lvok_all hargs
  obtain ⟨hk1, hk2⟩ := aAll_keys (k := 0) (ls := args) (vs := vs) h16
  have hlow : ∀ r ∈ aAll 0 args vs, r.k < 960 := fun r hr => by have := hk1 r hr; omega
  have hleaf := aAll_rep hrep
  refine ⟨hd, ha, ⟨rfl, rfl, rfl, Nat.le_refl _, fun b _ _ => ⟨rfl, rfl⟩, hdead⟩, fun t => ?_, fun id fs hf => ?_, fun id w rows ho => ?_, fun id hf => ⟨?_, ?_, fun t hq => ?_, fun k fs hv s hs hq => ?_⟩, fun id h => h, fun id w rows i j s xs ho hc hf => ?_, fun k v hm hne => ?_, fun k v hm hne => ?_⟩
  · refine argSlots_rep hk2 hrep hrep (fun r hr => hr) t _ fun _ => ?_
    rw [Nat.sub_zero]
    rcases htm t with ⟨_, h⟩ | h
    · exact .inr h
    · exact .inl h
  · obtain ⟨r, hr, e1, gs, e2, rfl⟩ := start_var hrep hf
    have hl := hleaf r hr
    rw [e2] at hl
    obtain ⟨b, c, t, e, hlab, hblk, hsz, hfs⟩ := hl
    have hb := block_row hk2 hr e
    rw [e1] at hb hlab
    show lab (blockOf (aAll 0 args vs) id) = .var id ∧ _
    rw [hb]
    refine ⟨hlab, c, t, by show W.heap[blockOf (aAll 0 args vs) id]? = _; rw [hb]; exact hblk, all2_of_get (by simp [hsz]) fun q s u hq hu => ?_⟩
    simp only [List.getElem?_map, Option.map_eq_some_iff] at hq
    obtain ⟨f, hq, rfl⟩ := hq
    obtain ⟨u', u1, u2⟩ := hfs q f hq
    have hu' : c[q]? = some u := by simpa using hu
    rw [hu'] at u1; cases u1
    cases f with
    | sc x => exact u2
    | im w rows => exact u2
  · obtain ⟨r, hr, e1, e2⟩ := start_obj hrep ho
    have hl := hleaf r hr
    have hh := header_row hk2 hr
    rw [e2] at hl
    rw [e1] at hl hh
    show OwnRep W lab id w rows (headerOf (aAll 0 args vs) id)
    rw [hh]; exact hl.1
  · rcases h : (startOf args).vars id with _ | fs
    · rfl
    · obtain ⟨r, hr, e1, _⟩ := start_var hrep h
      have := hlow r hr
      have hf : 1000 ≤ id := hf
      omega
  · rcases h : (startOf args).objs id with _ | ⟨w, rows⟩
    · rfl
    · obtain ⟨r, hr, e1, _⟩ := start_obj hrep h
      have := hlow r hr
      have hf : 1000 ≤ id := hf
      omega
  · have := argSlots_ids t h16 id hq
    have hf : 1000 ≤ id := hf
    omega
  · obtain ⟨r, hr, e1, gs, _, rfl⟩ := start_var hrep hv
    obtain ⟨f, _, rfl⟩ := List.mem_map.mp hs
    exact fsv_ids f id hq
  · obtain ⟨r, hr, e1, e2⟩ := start_obj hrep ho
    have hl := hleaf r hr
    rw [e2] at hl
    obtain ⟨r1, hi, hj⟩ := cell_get hc (by simp)
    have hrst := hl.2
    have hf : 1000 ≤ s := hf
    rw [← hrst] at hi
    simp only [rst, List.getElem?_map, Option.map_eq_some_iff] at hi
    obtain ⟨r0, _, rfl⟩ := hi
    simp only [List.getElem?_map, Option.map_eq_some_iff] at hj
    obtain ⟨c0, _, e⟩ := hj
    cases c0 with
    | sl s0 ys => cases s0 <;> simp only [Cell.rst, Cell.sl.injEq] at e <;> omega
    | _ => simp [Cell.rst] at e
  · obtain ⟨r, hr, e⟩ := List.mem_map.mp hm
    simp only [Prod.mk.injEq] at e
    obtain ⟨rfl, rfl⟩ := e
    exact header_row hk2 hr
  · obtain ⟨r, hr, e⟩ := List.mem_map.mp hm
    simp only [Prod.mk.injEq] at e
    obtain ⟨rfl, rfl⟩ := e
    obtain ⟨fs, hfs⟩ := Option.ne_none_iff_exists'.mp hne
    obtain ⟨r', hr', e1, gs, e2, _⟩ := start_var hrep hfs
    have := nodup_map hk2 r' hr' r hr e1
    subst this
    have hl := hleaf r' hr
    rw [e2] at hl
    obtain ⟨b, c, t, e, _⟩ := hl
    show r'.v = .pointer (some ⟨blockOf (aAll 0 args vs) r'.k, 0, none⟩)
    rw [block_row hk2 hr e]; exact e
end entry
end Go.Proofs.Ytkcbnbbbijlhcai.A
