/-
  DERIVED. GIVEN WITH THE SEED: THE CARDS: each row of YtgdgdifnpdcgkaaGreatDoorRows.lean that lists a variable, with what it lists TIED to the program's text (the seventh form; the later family's looks); each row that meets fmt, with fmt's text TOLD by the authors' own Lean function (tested against real Go, not proved from fmt's source: count such statements apart). THE CARD IS WHAT COUNTS. Prove the row's statement (the work); the ties are given (YtgdgdifnpdcgkaaGreatDoorTie.lean); close each card by the builder's one call (the guide's Derived/Test/ToyasCard.lean, 'card_holds'). Laid BY PROGRAM, IN A SANDBOX (cutbox-door.mjs). By AI agents, Wed Nov 11 2026. No macro, syntax, notation, axiom, sorry.
-/
import Derived.Test.YtgdgdifnpdcgkaaGreatDoorRows
import GoSem.ClaimSeven
namespace Go.Proofs.YtgdgdifnpdcgkaaGreatDoor
namespace Rows

/-- THE TIED CARD OF 'thicketlaw02.FloatsOwn'. -/
def floatsOwnCard : Claim7 := { stood := { row := floatsOwnRow, standIns := [], harness := (true, "ba70dadaa57a24428b3253d720818a057d7d86b707361ba8e975ad7ae39d79c2"), looks := true }, kinds := [], alts := [], laidByText := true, laidKinds := [.data, .data, .data, .data, .data, .sentinel, .sentinel, .wider, .pinned, .pinned, .pinned], laidTests := true, laidLooks := .later }
def FloatsOwnCardSaid : Prop := Claim7.holds Tryz.pinned (.plain (OpenSpec.ofChange floatsOwnSpec)) floatsOwnCard

/-- THE TIED CARD OF 'thicketlaw02.FloatsWhole'. -/
def floatsWholeCard : Claim7 := { stood := { row := floatsWholeRow, standIns := [], harness := (true, "ba70dadaa57a24428b3253d720818a057d7d86b707361ba8e975ad7ae39d79c2"), looks := true }, kinds := [], alts := [], laidByText := true, laidKinds := [.data, .data, .data, .data, .data, .sentinel, .sentinel, .wider, .pinned, .pinned, .pinned], laidTests := true, laidLooks := .later }
def FloatsWholeCardSaid : Prop := Claim7.holds Tryz.pinned (.plain (OpenSpec.ofChange floatsWholeSpec)) floatsWholeCard

/-- THE TIED CARD OF 'thicketlaw02.FloatsNear'. -/
def floatsNearCard : Claim7 := { stood := { row := floatsNearRow, standIns := [], harness := (true, "ba70dadaa57a24428b3253d720818a057d7d86b707361ba8e975ad7ae39d79c2"), looks := true }, kinds := [], alts := [], laidByText := true, laidKinds := [.data, .data, .data, .data, .data, .sentinel, .sentinel, .wider, .pinned, .pinned, .pinned], laidTests := true, laidLooks := .later }
def FloatsNearCardSaid : Prop := Claim7.holds Tryz.pinned (.plain (OpenSpec.ofChange floatsNearSpec)) floatsNearCard

/-- THE SECOND FORM's CARD OF 'thicketlaw02.FloatsOwn'. -/
def floatsOwnUptoCard : Claim7 := { stood := { row := floatsOwnUptoRow, standIns := [], harness := (true, "ba70dadaa57a24428b3253d720818a057d7d86b707361ba8e975ad7ae39d79c2"), looks := true }, kinds := [], alts := [], laidByText := true, laidKinds := [.data, .data, .data, .data, .data, .sentinel, .sentinel, .wider, .pinned, .pinned, .pinned], laidTests := true, laidLooks := .later }
def FloatsOwnUptoCardSaid : Prop := Claim7.holds Tryz.pinned (.plain (OpenSpec.upto floatsOwnSpec)) floatsOwnUptoCard

/-- THE SECOND FORM's CARD OF 'thicketlaw02.FloatsWhole'. -/
def floatsWholeUptoCard : Claim7 := { stood := { row := floatsWholeUptoRow, standIns := [], harness := (true, "ba70dadaa57a24428b3253d720818a057d7d86b707361ba8e975ad7ae39d79c2"), looks := true }, kinds := [], alts := [], laidByText := true, laidKinds := [.data, .data, .data, .data, .data, .sentinel, .sentinel, .wider, .pinned, .pinned, .pinned], laidTests := true, laidLooks := .later }
def FloatsWholeUptoCardSaid : Prop := Claim7.holds Tryz.pinned (.plain (OpenSpec.upto floatsWholeSpec)) floatsWholeUptoCard

/-- THE SECOND FORM's CARD OF 'thicketlaw02.FloatsNear'. -/
def floatsNearUptoCard : Claim7 := { stood := { row := floatsNearUptoRow, standIns := [], harness := (true, "ba70dadaa57a24428b3253d720818a057d7d86b707361ba8e975ad7ae39d79c2"), looks := true }, kinds := [], alts := [], laidByText := true, laidKinds := [.data, .data, .data, .data, .data, .sentinel, .sentinel, .wider, .pinned, .pinned, .pinned], laidTests := true, laidLooks := .later }
def FloatsNearUptoCardSaid : Prop := Claim7.holds Tryz.pinned (.plain (OpenSpec.upto floatsNearSpec)) floatsNearUptoCard
end Rows
end Go.Proofs.YtgdgdifnpdcgkaaGreatDoor
