/- THE LIBRARY'S JOIN OF STRINGS, as a contract of the abstract semantics. Conditions: none (the shelf's contract is proved; this text carries it over). -/
import Derived.Test.YtedciihjgbkjgacGreatDoorA41
import Derived.Shelf.Strings.OnBuilder
namespace Go.Proofs.YtedciihjgbkjgacGreatDoor.A
open Go
set_option linter.unusedSimpArgs false
set_option linter.unusedVariables false

abbrev strs (xs : List ByteArray) : Rows := lift (xs.map Value.string)
theorem strs_length (xs : List ByteArray) : (strs xs).length = xs.length := by simp [lift]
theorem strs_get {xs : List ByteArray} {i : Nat} {x : ByteArray} (h : xs[i]? = some x) : (strs xs)[i]? = some [Cell.sc (.string x)] := by
  simp [lift, h]
def joinB (xs : List ByteArray) (sep : ByteArray) : ByteArray := ⟨(Lib.join (xs.map (·.data.toList)) sep.data.toList).toArray⟩
theorem join_sat {P : Program} {f : FuncId} {fn : Func} {c : Code} (hf : P.funcs[f]? = some fn) (hb : fn.body = some c) (hn : (fn.name == "runtime.NumGoroutine") = false)
    (h0 : ∀ (a : Option Addr) (c : Nat) (sep : ByteArray) (w : World), Calls P f #[.slice a 0 c, .string sep] w fun e w' => e = .returned (.string ⟨#[]⟩) ∧ w' = w)
    (h1 : ∀ (bk o c : Nat) (xs : List ByteArray) (sep : ByteArray) (w : World), (∀ (j : Nat) x, xs[j]? = some x → w.cell? ⟨bk, o + j, none⟩ = some (.string x)) → bk < w.heap.size → xs.length ≤ 140737488355328 → xs.length ≤ c →
      (Lib.join (xs.map (·.data.toList)) sep.data.toList).length ≤ 140737488355328 →
      Calls P f #[.slice (some ⟨bk, o, none⟩) xs.length c, .string sep] w fun e w' => e = .returned (.string ⟨(Lib.join (xs.map (·.data.toList)) sep.data.toList).toArray⟩) ∧ RowKit.Below w.heap.size w w')
    (xs : List ByteArray) (sep : ByteArray) (hx : xs.length ≤ 140737488355328) (hl : (joinB xs sep).size ≤ 140737488355328) :
    Sat P f [.one (.im 1 (strs xs)), .one (.sc (.string sep))] [.one (.sc (.string (joinB xs sep)))] [.one .gone, .one .gone] := by
  refine ⟨rfl, rfl, fun W lab vs hdead hrep => ?_⟩
  unfold CallF
  rw [enters_plain hf hb hn]
  simp only
  obtain ⟨v, vs, rfl⟩ : ∃ v vs', vs = v :: vs' := by
    cases vs
    · exact hrep.elim
    · exact ⟨_, _, rfl⟩
  obtain ⟨hv, hrep⟩ := hrep
  obtain ⟨u, vs, rfl⟩ : ∃ v vs', vs = v :: vs' := by
    cases vs
    · exact hrep.elim
    · exact ⟨_, _, rfl⟩
  obtain ⟨hu, hrep⟩ := hrep
  obtain rfl : vs = [] := by
    cases vs
    · rfl
    · exact hrep.elim
  obtain rfl : u = .string sep := hu
  obtain ⟨A, cap, rfl, hcap, hrow, hne⟩ := hv
  rw [strs_length]
  have hcap' : xs.length ≤ cap := by rw [strs_length] at hcap; exact hcap
  by_cases hxn : xs = []
  · subst hxn
    refine (h0 A cap sep W).mono ?_
    rintro e w' ⟨rfl, rfl⟩
    refine ⟨_, rfl, lab, ?_, ⟨trivial, trivial, trivial⟩, ⟨rfl, rfl, rfl, Nat.le_refl _, fun _ _ _ => ⟨rfl, rfl⟩, hdead⟩⟩
    rfl
  · obtain ⟨hw0, b, o, ha, hlab, hrows⟩ := hne (by
      intro h
      apply hxn
      have := congrArg List.length h
      rw [strs_length] at this
      exact List.length_eq_zero_iff.mp this)
    cases ha
    have hcell : ∀ (j : Nat) x, xs[j]? = some x → W.cell? ⟨b, o + j, none⟩ = some (.string x) := by
      intro j x hj
      obtain ⟨u, hu, hu', -⟩ := hrows j _ (strs_get hj) 0 _ rfl
      rw [show o + j * 1 + 0 = o + j by omega] at hu
      rw [hu, hu']
    have hbs : b < W.heap.size := by
      rcases Nat.lt_or_ge b W.heap.size with h | h
      · exact h
      · obtain ⟨x, xs', rfl⟩ := List.exists_cons_of_ne_nil hxn
        have := hcell 0 x rfl
        simp [World.cell?, Array.getElem?_eq_none h] at this
    refine (h1 b o cap xs sep W hcell hbs hx hcap' (by rw [joinB] at hl; simpa [ByteArray.size] using hl)).mono ?_
    rintro e w' ⟨rfl, hbel⟩
    refine ⟨_, rfl, farLab W w' lab, rfl, ⟨trivial, trivial, trivial⟩, ⟨hbel.os, hbel.tape, hbel.output, hbel.size, fun k hk _ => ⟨by simp [farLab, hk], hbel.block k hk⟩, fun k hk => ?_⟩⟩
    simp only [farLab]
    rw [if_neg (by have := hbel.size; omega), if_neg (by omega)]
end Go.Proofs.YtedciihjgbkjgacGreatDoor.A
