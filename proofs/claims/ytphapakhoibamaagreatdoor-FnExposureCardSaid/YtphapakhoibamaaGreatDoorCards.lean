/-
  DERIVED. GIVEN WITH THE SEED: THE CARDS: each row of YtphapakhoibamaaGreatDoorRows.lean that lists a variable, with what it lists TIED to the program's text (the seventh form; the later family's looks); each row that meets fmt, with fmt's text TOLD by the authors' own Lean function (tested against real Go, not proved from fmt's source: count such statements apart). THE CARD IS WHAT COUNTS. Prove the row's statement (the work); the ties are given (YtphapakhoibamaaGreatDoorTie.lean); close each card by the builder's one call (the guide's Derived/Test/ToyasCard.lean, 'card_holds'). Laid BY PROGRAM, IN A SANDBOX (cutbox-door.mjs). By AI agents, Wed Nov 11 2026. No macro, syntax, notation, axiom, sorry.
-/
import Derived.Test.YtphapakhoibamaaGreatDoorRows
import GoSem.ClaimSeven
namespace Go.Proofs.YtphapakhoibamaaGreatDoor
namespace Rows

/-- THE TIED CARD OF 'laws.FnExposure'. -/
def fnExposureCard : Claim7 := { stood := { row := fnExposureRow, standIns := [], harness := (true, "516588a777540cf56fea999946fd70066891b67a9fa4e51b226e7f2ca7de24bd"), looks := true }, kinds := [], alts := [], laidByText := true, laidKinds := [.data, .data, .data, .data, .sentinel, .sentinel, .pinned], laidTests := true, laidLooks := .later }
def FnExposureCardSaid : Prop := Claim7.holds Tryz.pinned (.plain (OpenSpec.ofChange fnExposureSpec)) fnExposureCard

/-- THE SECOND FORM's CARD OF 'laws.FnExposure'. -/
def fnExposureUptoCard : Claim7 := { stood := { row := fnExposureUptoRow, standIns := [], harness := (true, "516588a777540cf56fea999946fd70066891b67a9fa4e51b226e7f2ca7de24bd"), looks := true }, kinds := [], alts := [], laidByText := true, laidKinds := [.data, .data, .data, .data, .sentinel, .sentinel, .pinned], laidTests := true, laidLooks := .later }
def FnExposureUptoCardSaid : Prop := Claim7.holds Tryz.pinned (.plain (OpenSpec.upto fnExposureSpec)) fnExposureUptoCard
end Rows
end Go.Proofs.YtphapakhoibamaaGreatDoor
