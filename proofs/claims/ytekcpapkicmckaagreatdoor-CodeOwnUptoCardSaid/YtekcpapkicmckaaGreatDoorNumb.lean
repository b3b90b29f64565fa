/- floats.number. -/
import Derived.Test.YtekcpapkicmckaaGreatDoorNear
import Derived.Test.YtekcpapkicmckaaGreatDoorAmo
namespace Go.Proofs.YtekcpapkicmckaaGreatDoor
open Go.RowKit

/-- the package's variable holds the wide format -/
structure WideAt (w : World) : Prop where
  c0 : w.cell? ⟨2, 0, none⟩ = some (.int .i64 53)
  c1 : w.cell? ⟨2, 1, none⟩ = some (.int .i64 (-1074))
  c2 : w.cell? ⟨2, 2, none⟩ = some (.int .i64 971)

theorem WideAt.below {w w' : World} (h : WideAt w) (hb : Below w.heap.size w w') : WideAt w' :=
  ⟨(hb.cell (World.block_lt_of_cell? w _ h.c0)).trans h.c0, (hb.cell (World.block_lt_of_cell? w _ h.c1)).trans h.c1, (hb.cell (World.block_lt_of_cell? w _ h.c2)).trans h.c2⟩

end Go.Proofs.YtekcpapkicmckaaGreatDoor
