/- A result that is loaded from a cell, and a second one. -/
import Derived.Test.YtekcpapkicmckaaGreatDoorWide
import Derived.Laws.ResultCell
namespace Go.Proofs.YtekcpapkicmckaaGreatDoor
open Go.RowKit

end Go.Proofs.YtekcpapkicmckaaGreatDoor
