/-
  DERIVED. GIVEN WITH THE SEED: THE CARDS: each row of YtgianbcplnciiaaDoorRows.lean that lists a variable, with what it lists TIED to the program's text (the seventh form; the later family's looks); each row that meets fmt, with fmt's text TOLD by the authors' own Lean function (tested against real Go, not proved from fmt's source: count such statements apart). THE CARD IS WHAT COUNTS. Prove the row's statement (the work); the ties are given (YtgianbcplnciiaaDoorTie.lean); close each card by the builder's one call (the guide's Derived/Test/ToyasCard.lean, 'card_holds'). Laid BY PROGRAM, IN A SANDBOX (cutbox-door.mjs). By AI agents, Wed Nov 11 2026. No macro, syntax, notation, axiom, sorry.
-/
import Derived.Test.YtgianbcplnciiaaDoorRows
import GoSem.ClaimSeven
namespace Go.Proofs.YtgianbcplnciiaaDoor
namespace Rows

/-- THE TIED CARD OF 'laws.FnExactLegText'. -/
def fnExactLegTextCard : Claim7 := { stood := { row := fnExactLegTextRow, standIns := [], harness := (true, "9c96c79ff287aa1c20d3cfe8620382afbc80e51b44283960a9582c658f7b94b0"), looks := true }, kinds := [], alts := [], laidByText := true, laidKinds := [.data, .data, .data], laidTests := true, laidLooks := .later }
def FnExactLegTextCardSaid : Prop := Claim7.holds Tryd.pinned (.plain (OpenSpec.ofChange fnExactLegTextSpec)) fnExactLegTextCard

/-- THE TIED CARD OF 'laws.FnExactAssetText'. -/
def fnExactAssetTextCard : Claim7 := { stood := { row := fnExactAssetTextRow, standIns := [], harness := (true, "9c96c79ff287aa1c20d3cfe8620382afbc80e51b44283960a9582c658f7b94b0"), looks := true }, kinds := [], alts := [], laidByText := true, laidKinds := [.data, .data, .data], laidTests := true, laidLooks := .later }
def FnExactAssetTextCardSaid : Prop := Claim7.holds Tryd.pinned (.plain (OpenSpec.ofChange fnExactAssetTextSpec)) fnExactAssetTextCard

/-- THE TIED CARD OF 'laws.FnExactReadLeg'. -/
def fnExactReadLegCard : Claim7 := { stood := { row := fnExactReadLegRow, standIns := [], harness := (true, "9c96c79ff287aa1c20d3cfe8620382afbc80e51b44283960a9582c658f7b94b0"), looks := true }, kinds := [], alts := [], laidByText := true, laidKinds := [.data, .data, .data, .sentinel, .sentinel], laidTests := true, laidLooks := .later }
def FnExactReadLegCardSaid : Prop := Claim7.holds Tryd.pinned (.plain (OpenSpec.ofChange fnExactReadLegSpec)) fnExactReadLegCard

/-- THE TIED CARD OF 'laws.FnExactReadAsset'. -/
def fnExactReadAssetCard : Claim7 := { stood := { row := fnExactReadAssetRow, standIns := [], harness := (true, "9c96c79ff287aa1c20d3cfe8620382afbc80e51b44283960a9582c658f7b94b0"), looks := true }, kinds := [], alts := [], laidByText := true, laidKinds := [.data, .data, .data, .data, .sentinel, .sentinel, .pinned], laidTests := true, laidLooks := .later }
def FnExactReadAssetCardSaid : Prop := Claim7.holds Tryd.pinned (.plain (OpenSpec.ofChange fnExactReadAssetSpec)) fnExactReadAssetCard

/-- THE SECOND FORM's CARD OF 'laws.FnExactLegText'. -/
def fnExactLegTextUptoCard : Claim7 := { stood := { row := fnExactLegTextUptoRow, standIns := [], harness := (true, "9c96c79ff287aa1c20d3cfe8620382afbc80e51b44283960a9582c658f7b94b0"), looks := true }, kinds := [], alts := [], laidByText := true, laidKinds := [.data, .data, .data], laidTests := true, laidLooks := .later }
def FnExactLegTextUptoCardSaid : Prop := Claim7.holds Tryd.pinned (.plain (OpenSpec.upto fnExactLegTextSpec)) fnExactLegTextUptoCard

/-- THE SECOND FORM's CARD OF 'laws.FnExactAssetText'. -/
def fnExactAssetTextUptoCard : Claim7 := { stood := { row := fnExactAssetTextUptoRow, standIns := [], harness := (true, "9c96c79ff287aa1c20d3cfe8620382afbc80e51b44283960a9582c658f7b94b0"), looks := true }, kinds := [], alts := [], laidByText := true, laidKinds := [.data, .data, .data], laidTests := true, laidLooks := .later }
def FnExactAssetTextUptoCardSaid : Prop := Claim7.holds Tryd.pinned (.plain (OpenSpec.upto fnExactAssetTextSpec)) fnExactAssetTextUptoCard

/-- THE SECOND FORM's CARD OF 'laws.FnExactReadLeg'. -/
def fnExactReadLegUptoCard : Claim7 := { stood := { row := fnExactReadLegUptoRow, standIns := [], harness := (true, "9c96c79ff287aa1c20d3cfe8620382afbc80e51b44283960a9582c658f7b94b0"), looks := true }, kinds := [], alts := [], laidByText := true, laidKinds := [.data, .data, .data, .sentinel, .sentinel], laidTests := true, laidLooks := .later }
def FnExactReadLegUptoCardSaid : Prop := Claim7.holds Tryd.pinned (.plain (OpenSpec.upto fnExactReadLegSpec)) fnExactReadLegUptoCard

/-- THE SECOND FORM's CARD OF 'laws.FnExactReadAsset'. -/
def fnExactReadAssetUptoCard : Claim7 := { stood := { row := fnExactReadAssetUptoRow, standIns := [], harness := (true, "9c96c79ff287aa1c20d3cfe8620382afbc80e51b44283960a9582c658f7b94b0"), looks := true }, kinds := [], alts := [], laidByText := true, laidKinds := [.data, .data, .data, .data, .sentinel, .sentinel, .pinned], laidTests := true, laidLooks := .later }
def FnExactReadAssetUptoCardSaid : Prop := Claim7.holds Tryd.pinned (.plain (OpenSpec.upto fnExactReadAssetSpec)) fnExactReadAssetUptoCard
end Rows
end Go.Proofs.YtgianbcplnciiaaDoor
