/- Contracts of package limbs: down, the short division. -/
import Derived.Test.YtekcpapkicmckaaGreatDoorLimA
namespace Go.Proofs.YtekcpapkicmckaaGreatDoor
open Go.RowKit

end Go.Proofs.YtekcpapkicmckaaGreatDoor
