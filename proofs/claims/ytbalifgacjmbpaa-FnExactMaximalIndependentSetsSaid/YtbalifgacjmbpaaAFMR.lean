
/- MARKS OF RELATIONS. Conditions: none. -/
import Derived.Test.YtbalifgacjmbpaaAFD
namespace Go.Proofs.Ytbalifgacjmbpaa.A
open Go
set_option linter.unusedSimpArgs false
set_option linter.unusedVariables false
set_option maxRecDepth 100000

def digit (k : Nat) : ByteArray := ⟨[UInt8.ofNat (48 + k % 10)].toArray⟩
def mD : Nat → Nat → ByteArray → ByteArray
  | 0, _, out => out
  | f + 1, k, out => if k = 0 then out else mD f (k / 10) (digit k ++ out)
def markT (k : Int) : ByteArray := if k ≤ 0 then ⟨#[109, 48]⟩ else ⟨#[109]⟩ ++ mD k.toNat k.toNat ByteArray.empty
theorem digit_size (k : Nat) : (digit k).size = 1 := rfl
theorem mD_zero (f : Nat) (out : ByteArray) : mD f 0 out = out := by cases f <;> simp [mD]
theorem u8_digit (k : Nat) : IntKind.u8.wrap (IntKind.i64.wrap (48 + ((k : Int).tmod 10))) = ((48 + k % 10 : Nat) : Int) := by
  have h : (k : Int).tmod 10 = ((k % 10 : Nat) : Int) := by rw [Int.tmod_eq_emod_of_nonneg (by omega)]; omega
  rw [h, IntWalk.i64_in _ (by omega)]
  have h2 : k % 10 < 10 := Nat.mod_lt _ (by omega)
  unfold IntKind.wrap
  simp [IntKind.signed, IntKind.bits]
  omega
theorem i64_div10 {k : Nat} (h : k ≤ 9223372036854775807) : IntKind.i64.wrap ((k : Int).tdiv 10) = ((k / 10 : Nat) : Int) := by
  have h1 : (k : Int).tdiv 10 = ((k / 10 : Nat) : Int) := by rw [Int.tdiv_eq_ediv_of_nonneg (by omega)]; omega
  rw [h1, IntWalk.i64_in _ (by omega)]
end Go.Proofs.Ytbalifgacjmbpaa.A
