/- The bits of a number: its amount, its sign. -/
import Derived.Test.YtekcpapkicmckaaGreatDoorWide
namespace Go.Proofs.YtekcpapkicmckaaGreatDoor
open Go.RowKit

end Go.Proofs.YtekcpapkicmckaaGreatDoor
