/-
  DERIVED. GIVEN WITH THE SEED: THE CARDS: each row of YtmldijckjenbcaaGreatDoorRows.lean that lists a variable, with what it lists TIED to the program's text (the seventh form; the later family's looks); each row that meets fmt, with fmt's text TOLD by the authors' own Lean function (tested against real Go, not proved from fmt's source: count such statements apart). THE CARD IS WHAT COUNTS. Prove the row's statement (the work); the ties are given (YtmldijckjenbcaaGreatDoorTie.lean); close each card by the builder's one call (the guide's Derived/Test/ToyasCard.lean, 'card_holds'). Laid BY PROGRAM, IN A SANDBOX (cutbox-door.mjs). By AI agents, Wed Nov 11 2026. No macro, syntax, notation, axiom, sorry.
-/
import Derived.Test.YtmldijckjenbcaaGreatDoorRows
import GoSem.ClaimSeven
namespace Go.Proofs.YtmldijckjenbcaaGreatDoor
namespace Rows

/-- THE TIED CARD OF 'laws.FnTerrain'. -/
def fnTerrainCard : Claim7 := { stood := { row := fnTerrainRow, standIns := [], harness := (true, "149e304a12cd5f2d47a99b625cddf636609509218cddba7c22288c2b7bef0208"), looks := true }, kinds := [], alts := [], laidByText := true, laidKinds := [.data, .data, .data, .data, .sentinel, .sentinel, .pinned], laidTests := true, laidLooks := .later }
def FnTerrainCardSaid : Prop := Claim7.holds Tryz.pinned (.plain (OpenSpec.ofChange fnTerrainSpec)) fnTerrainCard

/-- THE SECOND FORM's CARD OF 'laws.FnTerrain'. -/
def fnTerrainUptoCard : Claim7 := { stood := { row := fnTerrainUptoRow, standIns := [], harness := (true, "149e304a12cd5f2d47a99b625cddf636609509218cddba7c22288c2b7bef0208"), looks := true }, kinds := [], alts := [], laidByText := true, laidKinds := [.data, .data, .data, .data, .sentinel, .sentinel, .pinned], laidTests := true, laidLooks := .later }
def FnTerrainUptoCardSaid : Prop := Claim7.holds Tryz.pinned (.plain (OpenSpec.upto fnTerrainSpec)) fnTerrainUptoCard
end Rows
end Go.Proofs.YtmldijckjenbcaaGreatDoor
