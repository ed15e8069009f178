
import Derived.Test.YticabllkadpmeaaGreatDoorPfxS
import Derived.Deep.QuietTactic
import Derived.BigQuiet
namespace Go.Proofs.YticabllkadpmeaaGreatDoor
set_option linter.unusedVariables false
set_option linter.unusedSimpArgs false
set_option linter.unnecessarySimpa false
open Go.RowKit
set_option maxRecDepth 20000

theorem or_byte (a : Nat) (c : UInt8) (h : a < 72057594037927936) : bits .or .u64 ((a * 256 : Nat) : Int) (c.toNat : Int) = ((a * 256 + c.toNat : Nat) : Int) := by
  have hc : c.toNat < 256 := c.toNat_lt
  rw [bits_or_u64_nat _ _ (by omega) (by omega), show a * 256 = 2 ^ 8 * a by omega, ← Nat.two_pow_add_eq_or_of_lt (by omega)]
theorem wrap_mul (a : Nat) (h : a < 72057594037927936) : IntKind.u64.wrap ((a : Int) * 256) = ((a * 256 : Nat) : Int) := by
  rw [IntWalk.u64_in _ ⟨by omega, by omega⟩]; omega

end Go.Proofs.YticabllkadpmeaaGreatDoor
