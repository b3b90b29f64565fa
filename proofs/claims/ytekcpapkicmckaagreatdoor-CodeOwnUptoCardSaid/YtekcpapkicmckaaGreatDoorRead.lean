/- limbs.Read: decimal digits as limbs. -/
import Derived.Test.YtekcpapkicmckaaGreatDoorGrow
import Derived.Test.YtekcpapkicmckaaGreatDoorDec
namespace Go.Proofs.YtekcpapkicmckaaGreatDoor
open Go.RowKit

end Go.Proofs.YtekcpapkicmckaaGreatDoor
