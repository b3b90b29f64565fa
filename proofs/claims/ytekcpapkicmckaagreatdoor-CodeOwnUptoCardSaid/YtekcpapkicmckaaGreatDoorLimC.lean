/- limbs.Len, limbs.Small, limbs.Add. -/
import Derived.Test.YtekcpapkicmckaaGreatDoorLimA
import Derived.Test.YtekcpapkicmckaaGreatDoorBits
namespace Go.Proofs.YtekcpapkicmckaaGreatDoor
open Go.RowKit

theorem pow_limC (n : Nat) : 4294967296 ^ n = 2 ^ (32 * n) := by rw [show (4294967296 : Nat) = 2 ^ 32 from rfl, ← Nat.pow_mul]

end Go.Proofs.YtekcpapkicmckaaGreatDoor
