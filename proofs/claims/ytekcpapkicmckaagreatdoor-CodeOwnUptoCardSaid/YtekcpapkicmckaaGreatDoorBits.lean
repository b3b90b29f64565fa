/- Contracts of math/bits: Sub32, Add32, Len32, LeadingZeros32. -/
import Derived.Test.YtekcpapkicmckaaGreatDoorLimA
import Derived.Test.YtekcpapkicmckaaGreatDoorShelf
namespace Go.Proofs.YtekcpapkicmckaaGreatDoor
open Go.RowKit

/-! ### lengths in bits -/
end Go.Proofs.YtekcpapkicmckaaGreatDoor
