/- The contract of limbs.DivMod. -/
import Derived.Test.YtekcpapkicmckaaGreatDoorLng
import Derived.Test.YtekcpapkicmckaaGreatDoorLimB
import Derived.Test.YtekcpapkicmckaaGreatDoorDivN
namespace Go.Proofs.YtekcpapkicmckaaGreatDoor
open Go.RowKit

/- the dividend is less -/
/- the divisor has one limb -/
/- the divisor has more limbs than one -/
end Go.Proofs.YtekcpapkicmckaaGreatDoor
