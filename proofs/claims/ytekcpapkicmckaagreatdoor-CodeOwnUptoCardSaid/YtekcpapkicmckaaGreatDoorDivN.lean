/- The short division and what the long one is handed: plain Lean. -/
import Derived.Test.YtekcpapkicmckaaGreatDoorLng
import Derived.Test.YtekcpapkicmckaaGreatDoorBits
namespace Go.Proofs.YtekcpapkicmckaaGreatDoor

end Go.Proofs.YtekcpapkicmckaaGreatDoor
