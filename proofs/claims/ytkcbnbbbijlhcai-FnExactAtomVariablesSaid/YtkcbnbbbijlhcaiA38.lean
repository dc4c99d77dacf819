/- THE ABSTRACT SEMANTICS IS SOUND: a function does what its code comes to. Conditions: none. -/
import Derived.Test.YtkcbnbbbijlhcaiA37
namespace Go.Proofs.Ytkcbnbbbijlhcai.A
open Go
set_option linter.unusedSimpArgs false
set_option linter.unusedVariables false

theorem start_tmps {n : Nat} {vs : List Value} (h : vs.length ≤ n) (t : Nat) : ((vs.toArray ++ Array.replicate (n - vs.length) undef).getD t undef = undef ∧ vs[t]? = none) ∨ vs[t]? = some ((vs.toArray ++ Array.replicate (n - vs.length) undef).getD t undef) := by
  rcases Nat.lt_or_ge t vs.length with ht | ht
  · right
    rw [Array.getD_eq_getD_getElem?, Array.getElem?_append_left (by simpa using ht)]
    simp [ht]
  · left
    refine ⟨?_, by simp [ht]⟩
    rw [Array.getD_eq_getD_getElem?, Array.getElem?_append_right (by simpa using ht), Array.getElem?_replicate]
    split <;> rfl

theorem lvsRep_length {W : World} {lab : Nat → Lab} : ∀ {k : Nat} {ls : List LV} {vs : List Value}, LVsRep W lab k ls vs → ls.length = vs.length
  | _, [], [], _ => rfl
  | k, l :: ls, v :: vs, ⟨_, h⟩ => by simp [lvsRep_length h]
  | _, [], _ :: _, h => h.elim
  | _, _ :: _, [], h => h.elim

/-- A FUNCTION'S CONTRACT FROM ITS CODE. -/
theorem sat_of_body {P : Program} (hm : P.follows .mixedOrders = true) {f : FuncId} {fn : Func} {c : Code} {args res upd' : List LV} (hf : P.funcs[f]? = some fn) (hb : fn.body = some c)
    (hn : (fn.name == "runtime.NumGoroutine") = false) (hok : okCode fn.ntmps c = true) {rs : List ResultVar} (hr : fn.results.toList = rs) (hargs : (LVok args 60 && decide (args.length ≤ fn.ntmps)) = true) (hres : LVok res 3 = true)
    (h : Awp P c (endQ P rs args res upd') (startOf args)) : Sat P f args res upd' := by
  simp only [Bool.and_eq_true, decide_eq_true_eq] at hargs
  obtain ⟨hargs, hlen⟩ := hargs
  refine ⟨hargs, hres, fun W lab vs hdead hrep => ?_⟩
  have hvl := lvsRep_length hrep
  have hbody : fn.body.isNone = false := by rw [hb]; rfl
  have hcf : (callFunc f vs.toArray).run P W = .ok (.enter f vs.toArray) W := by
    have h1 : fn.name ≠ "runtime.NumGoroutine" := by simpa using hn
    simp [callFunc, hf, h1, hb, Sem.run, program]
  unfold CallF
  rw [hcf]
  simp only
  refine calls_of_wp hf hb ?_
  have hinv : InvS ⟨W, lab, fn.ntmps, pinsOf args vs⟩ (startOf args) (sh0 lab args vs) ⟨vs.toArray ++ Array.replicate (fn.ntmps - vs.toArray.size) undef, []⟩ W (fun id => 1000 ≤ id) :=
    start_inv hargs hrep hdead (by omega) (by simp; omega) rfl (by simpa using start_tmps (by omega))
  have hp960 : ∀ q ∈ pinsOf args vs, q.1 < 960 := by
    obtain ⟨h60, h16⟩ := lvok_all hargs
    obtain ⟨hk1, _⟩ := aAll_keys (k := 0) (ls := args) (vs := vs) h16
    intro q hq
    obtain ⟨r, hr, rfl⟩ := List.mem_map.mp hq
    have := hk1 r hr
    show r.k < 960
    omega
  refine awp_sound (cx := ⟨W, lab, fn.ntmps, pinsOf args vs⟩) hp960 (fun hok hst => draw_sound hm (fun q hq => by have := hp960 q hq; omega) hok hst) c hok ⟨_, hinv⟩ h ?_
  rintro e st' a' W' hE ⟨sh', hi⟩
  have fin : endsK P rs args res upd' st' → a'.defers = [] ∧ ∃ v, (results fn a'.tmps).run P W' = .ok v W' ∧ ∃ v_1, Ending.returned v = .returned v_1 ∧ ∃ lab', ResRep W' lab' res v_1 ∧ LVsRep W' lab' 0 upd' vs ∧ Ext W lab W' lab' := by
    intro hE
    obtain ⟨v, h1, h2⟩ := frame_end hi hr hargs hres hrep rfl hE
    exact ⟨hi.defers, v, h1, v, rfl, h2⟩
  cases e with
  | normal => exact fin hE
  | ret => exact fin hE
  | _ => exact hE.elim
end Go.Proofs.Ytkcbnbbbijlhcai.A
