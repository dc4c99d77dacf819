
/- WHAT A LAW READS: reading into structures of mine. Conditions: none. -/
import Derived.Test.YtbalifgacjmbpabGreatA40
import Derived.Test.YtbalifgacjmbpabGreatAF3
namespace Go.Proofs.YtbalifgacjmbpabGreat.A
open Go Go.ChangeShapes Go.WideShapes Go.ChangeAt Go.RowKit
set_option linter.unusedVariables false
variable {H : Type} {enc : TypeId × Value → H} {P : Program} {W : World}
theorem okWide_slice_ne {t e : TypeId} (ht : P.underlying t = some (.slice e)) {r : Reach} {base : Nat} {v : Value} (h : Value.okWide P W r base t v) : ∀ cs, v ≠ .agg cs := by
  obtain ⟨a, l, c, rfl⟩ := okWide_slice ht h
  intro cs h
  cases h
theorem readsC_map {t : TypeId} {α β : Type} {row : α → List Cell} {row' : β → List Cell} {g : α → Prop} {g' : β → Prop} (h : ReadsC enc P W t row g) (f : α → β) (h1 : ∀ a, row' (f a) = row a) (h2 : ∀ a, g a → g' (f a)) : ReadsC enc P W t row' g' := by
  intro n cs x hx
  obtain ⟨a, ha, hr⟩ := h n cs x hx
  exact ⟨f a, h2 a ha, by rw [h1]; exact hr⟩
theorem readsL_ints {t e : TypeId} (ht : P.underlying t = some (.slice e)) (hc : P.cellsOf e = 1) (he : P.underlying e = some (.int .i64)) : ReadsL enc P W t (fun a : List Int => Leaf.im 1 (ints a)) (fun a => a.length ≤ 9223372036854775807) := by
  intro n v x h
  obtain ⟨l, h1, h2⟩ := readsL_slice ht hc (by omega) (fun _ => rfl) (readsC_int he) n v x h
  exact ⟨l, h1.1, fun k => by show LeafRep W (lab0 W) k (Leaf.im 1 (ints l)) v; rw [ints_eq]; exact h2 k⟩
theorem readsL_rows {t e : TypeId} {w : Nat} {α : Type} {row : α → List Cell} {g : α → Prop} (h : ReadsC enc P W e row g) (ht : P.underlying t = some (.slice e)) (hc : P.cellsOf e = w) (hw : 0 < w) (hrow : ∀ a, (row a).length = w) (rows : List α → Rows) (hr : ∀ l, rows l = l.map row) : ReadsL enc P W t (fun l : List α => Leaf.im w (rows l)) (fun l => l.length ≤ 9223372036854775807 ∧ ∀ a ∈ l, g a) := by
  intro n v x hx
  obtain ⟨l, h1, h2⟩ := readsL_slice ht hc hw hrow h n v x hx
  exact ⟨l, h1, fun k => by show LeafRep W (lab0 W) k (Leaf.im w (rows l)) v; rw [hr]; exact h2 k⟩
end Go.Proofs.YtbalifgacjmbpabGreat.A
