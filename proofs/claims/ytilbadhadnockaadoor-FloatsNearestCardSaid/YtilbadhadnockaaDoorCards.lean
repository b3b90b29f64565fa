/-
  DERIVED. GIVEN WITH THE SEED: THE CARDS: each row of YtilbadhadnockaaDoorRows.lean that lists a variable, with what it lists TIED to the program's text (the seventh form; the later family's looks); each row that meets fmt, with fmt's text TOLD by the authors' own Lean function (tested against real Go, not proved from fmt's source: count such statements apart). THE CARD IS WHAT COUNTS. Prove the row's statement (the work); the ties are given (YtilbadhadnockaaDoorTie.lean); close each card by the builder's one call (the guide's Derived/Test/ToyasCard.lean, 'card_holds'). Laid BY PROGRAM, IN A SANDBOX (cutbox-door.mjs). By AI agents, Wed Nov 11 2026. No macro, syntax, notation, axiom, sorry.
-/
import Derived.Test.YtilbadhadnockaaDoorRows
import GoSem.ClaimSeven
namespace Go.Proofs.YtilbadhadnockaaDoor
namespace Rows

/-- THE TIED CARD OF 'thicketlaw02.FloatsNearest'. -/
def floatsNearestCard : Claim7 := { stood := { row := floatsNearestRow, standIns := [], harness := (true, "8bb8b36becdb2f7c373137c9f330a9a9290ce8dcd62a29f305118dd22bc2c029"), looks := false }, kinds := [], alts := [], laidByText := true, laidKinds := [.wider], laidTests := true, laidLooks := .later }
def FloatsNearestCardSaid : Prop := Claim7.holds Tryd.pinned (.plain (OpenSpec.ofChange floatsNearestSpec)) floatsNearestCard

/-- THE SECOND FORM's CARD OF 'thicketlaw02.FloatsNearest'. -/
def floatsNearestUptoCard : Claim7 := { stood := { row := floatsNearestUptoRow, standIns := [], harness := (true, "8bb8b36becdb2f7c373137c9f330a9a9290ce8dcd62a29f305118dd22bc2c029"), looks := false }, kinds := [], alts := [], laidByText := true, laidKinds := [.wider], laidTests := true, laidLooks := .later }
def FloatsNearestUptoCardSaid : Prop := Claim7.holds Tryd.pinned (.plain (OpenSpec.upto floatsNearestSpec)) floatsNearestUptoCard
end Rows
end Go.Proofs.YtilbadhadnockaaDoor
