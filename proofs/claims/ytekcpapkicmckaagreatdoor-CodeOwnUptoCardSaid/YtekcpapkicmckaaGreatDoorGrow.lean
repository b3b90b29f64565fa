/- limbs.grow: a times k and c, in place. -/
import Derived.Test.YtekcpapkicmckaaGreatDoorMul
namespace Go.Proofs.YtekcpapkicmckaaGreatDoor
open Go.RowKit

end Go.Proofs.YtekcpapkicmckaaGreatDoor
