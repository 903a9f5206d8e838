/-
  DERIVED. GIVEN WITH THE SEED: THE CARDS: each row of YtamgodeiakflbaaDoorRows.lean that lists a variable, with what it lists TIED to the program's text (the seventh form; the later family's looks); each row that meets fmt, with fmt's text TOLD by the authors' own Lean function (tested against real Go, not proved from fmt's source: count such statements apart). THE CARD IS WHAT COUNTS. Prove the row's statement (the work); the ties are given (YtamgodeiakflbaaDoorTie.lean); close each card by the builder's one call (the guide's Derived/Test/ToyasCard.lean, 'card_holds'). Laid BY PROGRAM, IN A SANDBOX (cutbox-door.mjs). By AI agents, Wed Nov 11 2026. No macro, syntax, notation, axiom, sorry.
-/
import Derived.Test.YtamgodeiakflbaaDoorRows
import GoSem.ClaimSeven
namespace Go.Proofs.YtamgodeiakflbaaDoor
namespace Rows

/-- THE TIED CARD OF 'laws.FnTours'. -/
def fnToursCard : Claim7 := { stood := { row := fnToursRow, standIns := [], harness := (true, "3cb6e7ea200bc912c23f3e26108e85bfd116ba27945a5a212c811e2c72266144"), looks := true }, kinds := [], alts := [], laidByText := true, laidKinds := [.data, .data, .data, .sentinel, .sentinel], laidTests := true, laidLooks := .later }
def FnToursCardSaid : Prop := Claim7.holds Tryd.pinned (.plain (OpenSpec.ofChange fnToursSpec)) fnToursCard

/-- THE SECOND FORM's CARD OF 'laws.FnTours'. -/
def fnToursUptoCard : Claim7 := { stood := { row := fnToursUptoRow, standIns := [], harness := (true, "3cb6e7ea200bc912c23f3e26108e85bfd116ba27945a5a212c811e2c72266144"), looks := true }, kinds := [], alts := [], laidByText := true, laidKinds := [.data, .data, .data, .sentinel, .sentinel], laidTests := true, laidLooks := .later }
def FnToursUptoCardSaid : Prop := Claim7.holds Tryd.pinned (.plain (OpenSpec.upto fnToursSpec)) fnToursUptoCard
end Rows
end Go.Proofs.YtamgodeiakflbaaDoor
