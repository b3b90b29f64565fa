/- floats' nearest (the method of format). -/
import Derived.Test.YtekcpapkicmckaaGreatDoorDiv
import Derived.Test.YtekcpapkicmckaaGreatDoorRes
import Derived.Test.YtekcpapkicmckaaGreatDoorNearN
import Derived.Test.YtekcpapkicmckaaGreatDoorWide
import Derived.BigQuiet
namespace Go.Proofs.YtekcpapkicmckaaGreatDoor
open Go.RowKit

theorem below_drawn {B : Nat} {w w' : World} (h : Below B w w') (n : Nat) : Below B w (w'.drewN n) := h.trans ⟨rfl, rfl, rfl, Nat.le_refl _, fun _ _ => rfl⟩

end Go.Proofs.YtekcpapkicmckaaGreatDoor
