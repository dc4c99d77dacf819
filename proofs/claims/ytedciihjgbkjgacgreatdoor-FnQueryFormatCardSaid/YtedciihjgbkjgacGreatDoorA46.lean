/- LIBRARY FUNCTIONS OF SCALARS, as contracts of the abstract semantics. Conditions: none (the shelf's contracts are proved; this text carries them over). -/
import Derived.Test.YtedciihjgbkjgacGreatDoorA41
import Derived.Shelf.Small.Strs
import Derived.Shelf.Strconv.Itoa3
namespace Go.Proofs.YtedciihjgbkjgacGreatDoor.A
open Go
set_option linter.unusedSimpArgs false
set_option linter.unusedVariables false

theorem pure1_sat {P : Program} {f : FuncId} {fn : Func} {c : Code} (hf : P.funcs[f]? = some fn) (hb : fn.body = some c) (hn : (fn.name == "runtime.NumGoroutine") = false) (v1 v : Value)
    (h : ∀ w : World, Calls P f #[v1] w fun e w' => e = .returned v ∧ w' = w) : Sat P f [.one (.sc v1)] [.one (.sc v)] [.one .gone] := by
  refine ⟨rfl, rfl, fun W lab vs hdead hrep => ?_⟩
  unfold CallF
  rw [enters_plain hf hb hn]
  simp only
  obtain ⟨u, rfl, hu⟩ := one_of hrep
  obtain rfl : u = v1 := hu
  refine (h W).mono ?_
  rintro e w' ⟨rfl, rfl⟩
  exact ⟨_, rfl, lab, rfl, ⟨trivial, trivial⟩, ⟨rfl, rfl, rfl, Nat.le_refl _, fun _ _ _ => ⟨rfl, rfl⟩, hdead⟩⟩
theorem pure2_sat {P : Program} {f : FuncId} {fn : Func} {c : Code} (hf : P.funcs[f]? = some fn) (hb : fn.body = some c) (hn : (fn.name == "runtime.NumGoroutine") = false) (v1 v2 v : Value)
    (h : ∀ w : World, Calls P f #[v1, v2] w fun e w' => e = .returned v ∧ w' = w) : Sat P f [.one (.sc v1), .one (.sc v2)] [.one (.sc v)] [.one .gone, .one .gone] := by
  refine ⟨rfl, rfl, fun W lab vs hdead hrep => ?_⟩
  unfold CallF
  rw [enters_plain hf hb hn]
  simp only
  obtain ⟨u1, vs, rfl⟩ : ∃ v vs', vs = v :: vs' := by
    cases vs
    · exact hrep.elim
    · exact ⟨_, _, rfl⟩
  obtain ⟨hu1, hrep⟩ := hrep
  obtain ⟨u2, vs, rfl⟩ : ∃ v vs', vs = v :: vs' := by
    cases vs
    · exact hrep.elim
    · exact ⟨_, _, rfl⟩
  obtain ⟨hu2, hrep⟩ := hrep
  obtain rfl : vs = [] := by
    cases vs
    · rfl
    · exact hrep.elim
  obtain rfl : u1 = v1 := hu1
  obtain rfl : u2 = v2 := hu2
  refine (h W).mono ?_
  rintro e w' ⟨rfl, rfl⟩
  exact ⟨_, rfl, lab, rfl, ⟨trivial, trivial, trivial⟩, ⟨rfl, rfl, rfl, Nat.le_refl _, fun _ _ _ => ⟨rfl, rfl⟩, hdead⟩⟩
end Go.Proofs.YtedciihjgbkjgacGreatDoor.A
