/-
  DERIVED. GIVEN WITH THE SEED: THE CARDS: each row of YtjidibohbbdboaaDoorRows.lean that lists a variable, with what it lists TIED to the program's text (the seventh form; the later family's looks); each row that meets fmt, with fmt's text TOLD by the authors' own Lean function (tested against real Go, not proved from fmt's source: count such statements apart). THE CARD IS WHAT COUNTS. Prove the row's statement (the work); the ties are given (YtjidibohbbdboaaDoorTie.lean); close each card by the builder's one call (the guide's Derived/Test/ToyasCard.lean, 'card_holds'). Laid BY PROGRAM, IN A SANDBOX (cutbox-door.mjs). By AI agents, Wed Nov 11 2026. No macro, syntax, notation, axiom, sorry.
-/
import Derived.Test.YtjidibohbbdboaaDoorRows
import GoSem.ClaimSeven
namespace Go.Proofs.YtjidibohbbdboaaDoor
namespace Rows

/-- THE TIED CARD OF 'laws.FnExactCountTurns'. -/
def fnExactCountTurnsCard : Claim7 := { stood := { row := fnExactCountTurnsRow, standIns := [], harness := (true, "3102977ff640ad54cbc6a47fe551d394098c7038bdf4103758d0f33374cc4cb7"), looks := false }, kinds := [], alts := [], laidByText := true, laidKinds := [.data, .data, .data], laidTests := true, laidLooks := .later }
def FnExactCountTurnsCardSaid : Prop := Claim7.holds Tryd.pinned (.plain (OpenSpec.ofChange fnExactCountTurnsSpec)) fnExactCountTurnsCard

/-- THE TIED CARD OF 'laws.FnExactGiveTurns'. -/
def fnExactGiveTurnsCard : Claim7 := { stood := { row := fnExactGiveTurnsRow, standIns := [], harness := (true, "3102977ff640ad54cbc6a47fe551d394098c7038bdf4103758d0f33374cc4cb7"), looks := false }, kinds := [], alts := [], laidByText := true, laidKinds := [.data, .data, .data], laidTests := true, laidLooks := .later }
def FnExactGiveTurnsCardSaid : Prop := Claim7.holds Tryd.pinned (.plain (OpenSpec.ofChange fnExactGiveTurnsSpec)) fnExactGiveTurnsCard

/-- THE SECOND FORM's CARD OF 'laws.FnExactCountTurns'. -/
def fnExactCountTurnsUptoCard : Claim7 := { stood := { row := fnExactCountTurnsUptoRow, standIns := [], harness := (true, "3102977ff640ad54cbc6a47fe551d394098c7038bdf4103758d0f33374cc4cb7"), looks := false }, kinds := [], alts := [], laidByText := true, laidKinds := [.data, .data, .data], laidTests := true, laidLooks := .later }
def FnExactCountTurnsUptoCardSaid : Prop := Claim7.holds Tryd.pinned (.plain (OpenSpec.upto fnExactCountTurnsSpec)) fnExactCountTurnsUptoCard

/-- THE SECOND FORM's CARD OF 'laws.FnExactGiveTurns'. -/
def fnExactGiveTurnsUptoCard : Claim7 := { stood := { row := fnExactGiveTurnsUptoRow, standIns := [], harness := (true, "3102977ff640ad54cbc6a47fe551d394098c7038bdf4103758d0f33374cc4cb7"), looks := false }, kinds := [], alts := [], laidByText := true, laidKinds := [.data, .data, .data], laidTests := true, laidLooks := .later }
def FnExactGiveTurnsUptoCardSaid : Prop := Claim7.holds Tryd.pinned (.plain (OpenSpec.upto fnExactGiveTurnsSpec)) fnExactGiveTurnsUptoCard
end Rows
end Go.Proofs.YtjidibohbbdboaaDoor
