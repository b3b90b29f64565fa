/- limbs.Mul: the product of two naturals, as limbs. -/
import Derived.Test.YtekcpapkicmckaaGreatDoorLimC
import Derived.Test.YtekcpapkicmckaaGreatDoorLng
namespace Go.Proofs.YtekcpapkicmckaaGreatDoor
open Go.RowKit

end Go.Proofs.YtekcpapkicmckaaGreatDoor
