/-
  DERIVED. GIVEN WITH THE SEED: THE CARDS: each row of YtbcpfdeklglknaaGreatDoorRows.lean that lists a variable, with what it lists TIED to the program's text (the seventh form; the later family's looks); each row that meets fmt, with fmt's text TOLD by the authors' own Lean function (tested against real Go, not proved from fmt's source: count such statements apart). THE CARD IS WHAT COUNTS. Prove the row's statement (the work); the ties are given (YtbcpfdeklglknaaGreatDoorTie.lean); close each card by the builder's one call (the guide's Derived/Test/ToyasCard.lean, 'card_holds'). Laid BY PROGRAM, IN A SANDBOX (cutbox-door.mjs). By AI agents, Wed Nov 11 2026. No macro, syntax, notation, axiom, sorry.
-/
import Derived.Test.YtbcpfdeklglknaaGreatDoorRows
import GoSem.ClaimSeven
namespace Go.Proofs.YtbcpfdeklglknaaGreatDoor
namespace Rows

/-- THE TIED CARD OF 'thicketlaw02.FloatsSame'. -/
def floatsSameCard : Claim7 := { stood := { row := floatsSameRow, standIns := [], harness := (true, "c89e22f86287752d1dc0fc1f02a9f03df3e0f96f32f906a028c1477c7cdeb55d"), looks := true }, kinds := [], alts := [], laidByText := true, laidKinds := [.data, .data, .data, .data, .data, .sentinel, .sentinel, .wider, .pinned, .pinned, .pinned], laidTests := true, laidLooks := .later }
def FloatsSameCardSaid : Prop := Claim7.holds Tryz.pinned (.plain (OpenSpec.ofChange floatsSameSpec)) floatsSameCard

/-- THE SECOND FORM's CARD OF 'thicketlaw02.FloatsSame'. -/
def floatsSameUptoCard : Claim7 := { stood := { row := floatsSameUptoRow, standIns := [], harness := (true, "c89e22f86287752d1dc0fc1f02a9f03df3e0f96f32f906a028c1477c7cdeb55d"), looks := true }, kinds := [], alts := [], laidByText := true, laidKinds := [.data, .data, .data, .data, .data, .sentinel, .sentinel, .wider, .pinned, .pinned, .pinned], laidTests := true, laidLooks := .later }
def FloatsSameUptoCardSaid : Prop := Claim7.holds Tryz.pinned (.plain (OpenSpec.upto floatsSameSpec)) floatsSameUptoCard
end Rows
end Go.Proofs.YtbcpfdeklglknaaGreatDoor
