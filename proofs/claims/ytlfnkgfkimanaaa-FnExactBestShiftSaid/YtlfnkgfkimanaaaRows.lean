/-
  No cell of these rows narrows 'for every input' (looked for: loops, veiled, ifaces, maps, wideKeys, modest, calm, conditions, laid).
  DERIVED. THE GIVEN ROWS OF THIS SEAT. 12 by the template 'for every input the law returns true; each argument reads behind the call as it read before'; 0 by the template 'total and deterministic' (their statements: YtlfnkgfkimanaaaTotals.lean).
  GIVEN WITH THE SEED: the statements are not yours to turn. If you find one false, say at which input.
  Laid BY PROGRAM, IN A SANDBOX (cutbox-rows.mjs): the forced cells as the released guide's own fill.sh prints them over the translation 2d9798814b7b73aa… (all of the seat's roots in one cut). By AI agents, Wed Nov 11 2026. No macro, syntax, notation, axiom, sorry.
-/
import Derived.Test.YtlfnkgfkimanaaaChecked
import GoSem.Claim
import GoSem.ClaimJoined
import GoSem.ClaimMapViews
import Derived.JoinedTies
import Derived.KernelRfl
namespace Go.Proofs.Ytlfnkgfkimanaaa
/- THE CELL 'sum', in the pinned program and in every row, IS THE sha256 OF THE DUMP (.gsa) THAT YtlfnkgfkimanaaaProg.lean LOADS. Nothing in Lean hashes anything: it is a label: what it is worth is what the hold of that sum in a sandbox is worth. -/
noncomputable def Try.pinned : Pinned := { name := "ytlfnkgfkimanaaa", sum := "2d9798814b7b73aa020a063a71cb93ff3da71f758aaa324513ef10b56a472930", checked := Try.checked }
namespace Rows
def none {H : Type} : Left H := { results := [], args := [] }

/-- 'laws.FnExactNewSnow': WHATEVER THE INPUT: true; the input reads as it did. -/
def fnExactNewSnowSpec : ChangeSpec := { name := "fnExactNewSnow", fn := fun _ => fun
  | [d1, d2, d3] => { results := [.lit (.bool true)], args := [d1, d2, d3] }
  | _ => none }
def fnExactNewSnowRow : OpenClaim := { program := "ytlfnkgfkimanaaa", sum := "2d9798814b7b73aa020a063a71cb93ff3da71f758aaa324513ef10b56a472930", func := "loop.example/g01013/laws.FnExactNewSnow", spec := "fnExactNewSnow", apart := false }
def FnExactNewSnowSaid : Prop := fnExactNewSnowRow.holds Try.pinned (OpenSpec.ofChange fnExactNewSnowSpec)

/-- ITS FALSE NEIGHBOUR: 'it returns false'. Refute it at one input. -/
def fnExactNewSnowWrong : ChangeSpec := { name := "fnExactNewSnow", fn := fun _ => fun
  | [d1, d2, d3] => { results := [.lit (.bool false)], args := [d1, d2, d3] }
  | _ => none }
def FnExactNewSnowWrongFalsely : Prop := fnExactNewSnowRow.holds Try.pinned (OpenSpec.ofChange fnExactNewSnowWrong)

/-- 'laws.FnExactValidAreas': WHATEVER THE INPUT: true; the input reads as it did. -/
def fnExactValidAreasSpec : ChangeSpec := { name := "fnExactValidAreas", fn := fun _ => fun
  | [d] => { results := [.lit (.bool true)], args := [d] }
  | _ => none }
def fnExactValidAreasRow : OpenClaim := { program := "ytlfnkgfkimanaaa", sum := "2d9798814b7b73aa020a063a71cb93ff3da71f758aaa324513ef10b56a472930", func := "loop.example/g01013/laws.FnExactValidAreas", spec := "fnExactValidAreas", apart := false }
def FnExactValidAreasSaid : Prop := fnExactValidAreasRow.holds Try.pinned (OpenSpec.ofChange fnExactValidAreasSpec)

/-- ITS FALSE NEIGHBOUR: 'it returns false'. Refute it at one input. -/
def fnExactValidAreasWrong : ChangeSpec := { name := "fnExactValidAreas", fn := fun _ => fun
  | [d] => { results := [.lit (.bool false)], args := [d] }
  | _ => none }
def FnExactValidAreasWrongFalsely : Prop := fnExactValidAreasRow.holds Try.pinned (OpenSpec.ofChange fnExactValidAreasWrong)

/-- 'laws.FnExactProtectionOf': WHATEVER THE INPUT: true; the input reads as it did. -/
def fnExactProtectionOfSpec : ChangeSpec := { name := "fnExactProtectionOf", fn := fun _ => fun
  | [d1, d2] => { results := [.lit (.bool true)], args := [d1, d2] }
  | _ => none }
def fnExactProtectionOfRow : OpenClaim := { program := "ytlfnkgfkimanaaa", sum := "2d9798814b7b73aa020a063a71cb93ff3da71f758aaa324513ef10b56a472930", func := "loop.example/g01013/laws.FnExactProtectionOf", spec := "fnExactProtectionOf", apart := false }
def FnExactProtectionOfSaid : Prop := fnExactProtectionOfRow.holds Try.pinned (OpenSpec.ofChange fnExactProtectionOfSpec)

/-- ITS FALSE NEIGHBOUR: 'it returns false'. Refute it at one input. -/
def fnExactProtectionOfWrong : ChangeSpec := { name := "fnExactProtectionOf", fn := fun _ => fun
  | [d1, d2] => { results := [.lit (.bool false)], args := [d1, d2] }
  | _ => none }
def FnExactProtectionOfWrongFalsely : Prop := fnExactProtectionOfRow.holds Try.pinned (OpenSpec.ofChange fnExactProtectionOfWrong)

/-- 'laws.FnExactValidShots': WHATEVER THE INPUT: true; the input reads as it did. -/
def fnExactValidShotsSpec : ChangeSpec := { name := "fnExactValidShots", fn := fun _ => fun
  | [d] => { results := [.lit (.bool true)], args := [d] }
  | _ => none }
def fnExactValidShotsRow : OpenClaim := { program := "ytlfnkgfkimanaaa", sum := "2d9798814b7b73aa020a063a71cb93ff3da71f758aaa324513ef10b56a472930", func := "loop.example/g01013/laws.FnExactValidShots", spec := "fnExactValidShots", apart := false }
def FnExactValidShotsSaid : Prop := fnExactValidShotsRow.holds Try.pinned (OpenSpec.ofChange fnExactValidShotsSpec)

/-- ITS FALSE NEIGHBOUR: 'it returns false'. Refute it at one input. -/
def fnExactValidShotsWrong : ChangeSpec := { name := "fnExactValidShots", fn := fun _ => fun
  | [d] => { results := [.lit (.bool false)], args := [d] }
  | _ => none }
def FnExactValidShotsWrongFalsely : Prop := fnExactValidShotsRow.holds Try.pinned (OpenSpec.ofChange fnExactValidShotsWrong)

/-- 'laws.FnExactValidStands': WHATEVER THE INPUT: true; the input reads as it did. -/
def fnExactValidStandsSpec : ChangeSpec := { name := "fnExactValidStands", fn := fun _ => fun
  | [d] => { results := [.lit (.bool true)], args := [d] }
  | _ => none }
def fnExactValidStandsRow : OpenClaim := { program := "ytlfnkgfkimanaaa", sum := "2d9798814b7b73aa020a063a71cb93ff3da71f758aaa324513ef10b56a472930", func := "loop.example/g01013/laws.FnExactValidStands", spec := "fnExactValidStands", apart := false }
def FnExactValidStandsSaid : Prop := fnExactValidStandsRow.holds Try.pinned (OpenSpec.ofChange fnExactValidStandsSpec)

/-- ITS FALSE NEIGHBOUR: 'it returns false'. Refute it at one input. -/
def fnExactValidStandsWrong : ChangeSpec := { name := "fnExactValidStands", fn := fun _ => fun
  | [d] => { results := [.lit (.bool false)], args := [d] }
  | _ => none }
def FnExactValidStandsWrongFalsely : Prop := fnExactValidStandsRow.holds Try.pinned (OpenSpec.ofChange fnExactValidStandsWrong)

/-- 'laws.FnExactBiasOf': WHATEVER THE INPUT: true; the input reads as it did. -/
def fnExactBiasOfSpec : ChangeSpec := { name := "fnExactBiasOf", fn := fun _ => fun
  | [d] => { results := [.lit (.bool true)], args := [d] }
  | _ => none }
def fnExactBiasOfRow : OpenClaim := { program := "ytlfnkgfkimanaaa", sum := "2d9798814b7b73aa020a063a71cb93ff3da71f758aaa324513ef10b56a472930", func := "loop.example/g01013/laws.FnExactBiasOf", spec := "fnExactBiasOf", apart := false }
def FnExactBiasOfSaid : Prop := fnExactBiasOfRow.holds Try.pinned (OpenSpec.ofChange fnExactBiasOfSpec)

/-- ITS FALSE NEIGHBOUR: 'it returns false'. Refute it at one input. -/
def fnExactBiasOfWrong : ChangeSpec := { name := "fnExactBiasOf", fn := fun _ => fun
  | [d] => { results := [.lit (.bool false)], args := [d] }
  | _ => none }
def FnExactBiasOfWrongFalsely : Prop := fnExactBiasOfRow.holds Try.pinned (OpenSpec.ofChange fnExactBiasOfWrong)

/-- 'laws.FnExactStepGate': WHATEVER THE INPUT: true; the input reads as it did. -/
def fnExactStepGateSpec : ChangeSpec := { name := "fnExactStepGate", fn := fun _ => fun
  | [d1, d2] => { results := [.lit (.bool true)], args := [d1, d2] }
  | _ => none }
def fnExactStepGateRow : OpenClaim := { program := "ytlfnkgfkimanaaa", sum := "2d9798814b7b73aa020a063a71cb93ff3da71f758aaa324513ef10b56a472930", func := "loop.example/g01013/laws.FnExactStepGate", spec := "fnExactStepGate", apart := false }
def FnExactStepGateSaid : Prop := fnExactStepGateRow.holds Try.pinned (OpenSpec.ofChange fnExactStepGateSpec)

/-- ITS FALSE NEIGHBOUR: 'it returns false'. Refute it at one input. -/
def fnExactStepGateWrong : ChangeSpec := { name := "fnExactStepGate", fn := fun _ => fun
  | [d1, d2] => { results := [.lit (.bool false)], args := [d1, d2] }
  | _ => none }
def FnExactStepGateWrongFalsely : Prop := fnExactStepGateRow.holds Try.pinned (OpenSpec.ofChange fnExactStepGateWrong)

/-- 'laws.FnExactValidGates': WHATEVER THE INPUT: true; the input reads as it did. -/
def fnExactValidGatesSpec : ChangeSpec := { name := "fnExactValidGates", fn := fun _ => fun
  | [d] => { results := [.lit (.bool true)], args := [d] }
  | _ => none }
def fnExactValidGatesRow : OpenClaim := { program := "ytlfnkgfkimanaaa", sum := "2d9798814b7b73aa020a063a71cb93ff3da71f758aaa324513ef10b56a472930", func := "loop.example/g01013/laws.FnExactValidGates", spec := "fnExactValidGates", apart := false }
def FnExactValidGatesSaid : Prop := fnExactValidGatesRow.holds Try.pinned (OpenSpec.ofChange fnExactValidGatesSpec)

/-- ITS FALSE NEIGHBOUR: 'it returns false'. Refute it at one input. -/
def fnExactValidGatesWrong : ChangeSpec := { name := "fnExactValidGates", fn := fun _ => fun
  | [d] => { results := [.lit (.bool false)], args := [d] }
  | _ => none }
def FnExactValidGatesWrongFalsely : Prop := fnExactValidGatesRow.holds Try.pinned (OpenSpec.ofChange fnExactValidGatesWrong)

/-- 'laws.FnExactDegreesMean': WHATEVER THE INPUT: true; the input reads as it did. -/
def fnExactDegreesMeanSpec : ChangeSpec := { name := "fnExactDegreesMean", fn := fun _ => fun
  | [d] => { results := [.lit (.bool true)], args := [d] }
  | _ => none }
def fnExactDegreesMeanRow : OpenClaim := { program := "ytlfnkgfkimanaaa", sum := "2d9798814b7b73aa020a063a71cb93ff3da71f758aaa324513ef10b56a472930", func := "loop.example/g01013/laws.FnExactDegreesMean", spec := "fnExactDegreesMean", apart := false }
def FnExactDegreesMeanSaid : Prop := fnExactDegreesMeanRow.holds Try.pinned (OpenSpec.ofChange fnExactDegreesMeanSpec)

/-- ITS FALSE NEIGHBOUR: 'it returns false'. Refute it at one input. -/
def fnExactDegreesMeanWrong : ChangeSpec := { name := "fnExactDegreesMean", fn := fun _ => fun
  | [d] => { results := [.lit (.bool false)], args := [d] }
  | _ => none }
def FnExactDegreesMeanWrongFalsely : Prop := fnExactDegreesMeanRow.holds Try.pinned (OpenSpec.ofChange fnExactDegreesMeanWrong)

/-- 'laws.FnExactFellTrees': WHATEVER THE INPUT: true; the input reads as it did. -/
def fnExactFellTreesSpec : ChangeSpec := { name := "fnExactFellTrees", fn := fun _ => fun
  | [d1, d2] => { results := [.lit (.bool true)], args := [d1, d2] }
  | _ => none }
def fnExactFellTreesRow : OpenClaim := { program := "ytlfnkgfkimanaaa", sum := "2d9798814b7b73aa020a063a71cb93ff3da71f758aaa324513ef10b56a472930", func := "loop.example/g01013/laws.FnExactFellTrees", spec := "fnExactFellTrees", apart := false }
def FnExactFellTreesSaid : Prop := fnExactFellTreesRow.holds Try.pinned (OpenSpec.ofChange fnExactFellTreesSpec)

/-- ITS FALSE NEIGHBOUR: 'it returns false'. Refute it at one input. -/
def fnExactFellTreesWrong : ChangeSpec := { name := "fnExactFellTrees", fn := fun _ => fun
  | [d1, d2] => { results := [.lit (.bool false)], args := [d1, d2] }
  | _ => none }
def FnExactFellTreesWrongFalsely : Prop := fnExactFellTreesRow.holds Try.pinned (OpenSpec.ofChange fnExactFellTreesWrong)

/-- 'laws.FnExactMostSnow': WHATEVER THE INPUT: true; the input reads as it did. -/
def fnExactMostSnowSpec : ChangeSpec := { name := "fnExactMostSnow", fn := fun _ => fun
  | [d1, d2] => { results := [.lit (.bool true)], args := [d1, d2] }
  | _ => none }
def fnExactMostSnowRow : OpenClaim := { program := "ytlfnkgfkimanaaa", sum := "2d9798814b7b73aa020a063a71cb93ff3da71f758aaa324513ef10b56a472930", func := "loop.example/g01013/laws.FnExactMostSnow", spec := "fnExactMostSnow", apart := false }
def FnExactMostSnowSaid : Prop := fnExactMostSnowRow.holds Try.pinned (OpenSpec.ofChange fnExactMostSnowSpec)

/-- ITS FALSE NEIGHBOUR: 'it returns false'. Refute it at one input. -/
def fnExactMostSnowWrong : ChangeSpec := { name := "fnExactMostSnow", fn := fun _ => fun
  | [d1, d2] => { results := [.lit (.bool false)], args := [d1, d2] }
  | _ => none }
def FnExactMostSnowWrongFalsely : Prop := fnExactMostSnowRow.holds Try.pinned (OpenSpec.ofChange fnExactMostSnowWrong)

/-- 'laws.FnExactBestShift': WHATEVER THE INPUT: true; the input reads as it did. -/
def fnExactBestShiftSpec : ChangeSpec := { name := "fnExactBestShift", fn := fun _ => fun
  | [d] => { results := [.lit (.bool true)], args := [d] }
  | _ => none }
def fnExactBestShiftRow : OpenClaim := { program := "ytlfnkgfkimanaaa", sum := "2d9798814b7b73aa020a063a71cb93ff3da71f758aaa324513ef10b56a472930", func := "loop.example/g01013/laws.FnExactBestShift", spec := "fnExactBestShift", unfollowed := true, recurses := true, apart := false }
def FnExactBestShiftSaid : Prop := fnExactBestShiftRow.holds Try.pinned (OpenSpec.ofChange fnExactBestShiftSpec)

/-- ITS FALSE NEIGHBOUR: 'it returns false'. Refute it at one input. -/
def fnExactBestShiftWrong : ChangeSpec := { name := "fnExactBestShift", fn := fun _ => fun
  | [d] => { results := [.lit (.bool false)], args := [d] }
  | _ => none }
def FnExactBestShiftWrongFalsely : Prop := fnExactBestShiftRow.holds Try.pinned (OpenSpec.ofChange fnExactBestShiftWrong)

/- THE SECOND FORM. 'bulk': how many values and letters a reading holds, each counted each time it is reached (what is shared counts as often as it is met; a slice's spare places count too). A statement '..UptoSaid' is the law's where the arguments, and the package variables that the reading takes, are together of bulk at most 1048576: NARROWER than '..Said'. Prove '..Said' where nothing that the law and all that it calls make is longer than what came in: it says more and counts as full. Else prove '..UptoSaid'. A law counts once. -/
mutual
def uptoBulk {H : Type} : DataW H → Nat
  | .lit (.string bytes) => bytes.length + 1
  | .lit _ => 1
  | .nil => 1
  | .ptr d => uptoBulk d + 1
  | .slice elems spare => uptoBulkAll elems + uptoBulkAll spare + 1
  | .agg parts => uptoBulkAll parts + 1
  | .iface _ d => uptoBulk d + 1
  | .map entries => uptoBulkEntries entries + 1
  | .held _ => 1
def uptoBulkAll {H : Type} : List (DataW H) → Nat
  | [] => 0
  | d :: r => uptoBulk d + uptoBulkAll r
def uptoBulkEntries {H : Type} : List (Lit × DataW H) → Nat
  | [] => 0
  | x :: r => uptoBulkEntry x + uptoBulkEntries r
def uptoBulkEntry {H : Type} : Lit × DataW H → Nat
  | (.string bytes, d) => bytes.length + uptoBulk d + 1
  | (_, d) => uptoBulk d + 1
 end
def uptoSmall : (H : Type) → List (DataW H) → Bool := fun _ ds => decide (uptoBulkAll ds ≤ 1048576)
def OpenSpec.upto (s : _root_.Go.ChangeSpec) : _root_.Go.OpenSpec := { _root_.Go.OpenSpec.ofChange s with cond := some uptoSmall }

/-- 'laws.FnExactNewSnow', WHERE WHAT IT READS IS OF BULK AT MOST 1048576: true; the input reads as it did. -/
def fnExactNewSnowUptoRow : OpenClaim := { program := "ytlfnkgfkimanaaa", sum := "2d9798814b7b73aa020a063a71cb93ff3da71f758aaa324513ef10b56a472930", func := "loop.example/g01013/laws.FnExactNewSnow", spec := "fnExactNewSnow", apart := false, narrowed := true }
def FnExactNewSnowUptoSaid : Prop := fnExactNewSnowUptoRow.holds Try.pinned (OpenSpec.upto fnExactNewSnowSpec)

/-- 'laws.FnExactValidAreas', WHERE WHAT IT READS IS OF BULK AT MOST 1048576: true; the input reads as it did. -/
def fnExactValidAreasUptoRow : OpenClaim := { program := "ytlfnkgfkimanaaa", sum := "2d9798814b7b73aa020a063a71cb93ff3da71f758aaa324513ef10b56a472930", func := "loop.example/g01013/laws.FnExactValidAreas", spec := "fnExactValidAreas", apart := false, narrowed := true }
def FnExactValidAreasUptoSaid : Prop := fnExactValidAreasUptoRow.holds Try.pinned (OpenSpec.upto fnExactValidAreasSpec)

/-- 'laws.FnExactProtectionOf', WHERE WHAT IT READS IS OF BULK AT MOST 1048576: true; the input reads as it did. -/
def fnExactProtectionOfUptoRow : OpenClaim := { program := "ytlfnkgfkimanaaa", sum := "2d9798814b7b73aa020a063a71cb93ff3da71f758aaa324513ef10b56a472930", func := "loop.example/g01013/laws.FnExactProtectionOf", spec := "fnExactProtectionOf", apart := false, narrowed := true }
def FnExactProtectionOfUptoSaid : Prop := fnExactProtectionOfUptoRow.holds Try.pinned (OpenSpec.upto fnExactProtectionOfSpec)

/-- 'laws.FnExactValidShots', WHERE WHAT IT READS IS OF BULK AT MOST 1048576: true; the input reads as it did. -/
def fnExactValidShotsUptoRow : OpenClaim := { program := "ytlfnkgfkimanaaa", sum := "2d9798814b7b73aa020a063a71cb93ff3da71f758aaa324513ef10b56a472930", func := "loop.example/g01013/laws.FnExactValidShots", spec := "fnExactValidShots", apart := false, narrowed := true }
def FnExactValidShotsUptoSaid : Prop := fnExactValidShotsUptoRow.holds Try.pinned (OpenSpec.upto fnExactValidShotsSpec)

/-- 'laws.FnExactValidStands', WHERE WHAT IT READS IS OF BULK AT MOST 1048576: true; the input reads as it did. -/
def fnExactValidStandsUptoRow : OpenClaim := { program := "ytlfnkgfkimanaaa", sum := "2d9798814b7b73aa020a063a71cb93ff3da71f758aaa324513ef10b56a472930", func := "loop.example/g01013/laws.FnExactValidStands", spec := "fnExactValidStands", apart := false, narrowed := true }
def FnExactValidStandsUptoSaid : Prop := fnExactValidStandsUptoRow.holds Try.pinned (OpenSpec.upto fnExactValidStandsSpec)

/-- 'laws.FnExactBiasOf', WHERE WHAT IT READS IS OF BULK AT MOST 1048576: true; the input reads as it did. -/
def fnExactBiasOfUptoRow : OpenClaim := { program := "ytlfnkgfkimanaaa", sum := "2d9798814b7b73aa020a063a71cb93ff3da71f758aaa324513ef10b56a472930", func := "loop.example/g01013/laws.FnExactBiasOf", spec := "fnExactBiasOf", apart := false, narrowed := true }
def FnExactBiasOfUptoSaid : Prop := fnExactBiasOfUptoRow.holds Try.pinned (OpenSpec.upto fnExactBiasOfSpec)

/-- 'laws.FnExactStepGate', WHERE WHAT IT READS IS OF BULK AT MOST 1048576: true; the input reads as it did. -/
def fnExactStepGateUptoRow : OpenClaim := { program := "ytlfnkgfkimanaaa", sum := "2d9798814b7b73aa020a063a71cb93ff3da71f758aaa324513ef10b56a472930", func := "loop.example/g01013/laws.FnExactStepGate", spec := "fnExactStepGate", apart := false, narrowed := true }
def FnExactStepGateUptoSaid : Prop := fnExactStepGateUptoRow.holds Try.pinned (OpenSpec.upto fnExactStepGateSpec)

/-- 'laws.FnExactValidGates', WHERE WHAT IT READS IS OF BULK AT MOST 1048576: true; the input reads as it did. -/
def fnExactValidGatesUptoRow : OpenClaim := { program := "ytlfnkgfkimanaaa", sum := "2d9798814b7b73aa020a063a71cb93ff3da71f758aaa324513ef10b56a472930", func := "loop.example/g01013/laws.FnExactValidGates", spec := "fnExactValidGates", apart := false, narrowed := true }
def FnExactValidGatesUptoSaid : Prop := fnExactValidGatesUptoRow.holds Try.pinned (OpenSpec.upto fnExactValidGatesSpec)

/-- 'laws.FnExactDegreesMean', WHERE WHAT IT READS IS OF BULK AT MOST 1048576: true; the input reads as it did. -/
def fnExactDegreesMeanUptoRow : OpenClaim := { program := "ytlfnkgfkimanaaa", sum := "2d9798814b7b73aa020a063a71cb93ff3da71f758aaa324513ef10b56a472930", func := "loop.example/g01013/laws.FnExactDegreesMean", spec := "fnExactDegreesMean", apart := false, narrowed := true }
def FnExactDegreesMeanUptoSaid : Prop := fnExactDegreesMeanUptoRow.holds Try.pinned (OpenSpec.upto fnExactDegreesMeanSpec)

/-- 'laws.FnExactFellTrees', WHERE WHAT IT READS IS OF BULK AT MOST 1048576: true; the input reads as it did. -/
def fnExactFellTreesUptoRow : OpenClaim := { program := "ytlfnkgfkimanaaa", sum := "2d9798814b7b73aa020a063a71cb93ff3da71f758aaa324513ef10b56a472930", func := "loop.example/g01013/laws.FnExactFellTrees", spec := "fnExactFellTrees", apart := false, narrowed := true }
def FnExactFellTreesUptoSaid : Prop := fnExactFellTreesUptoRow.holds Try.pinned (OpenSpec.upto fnExactFellTreesSpec)

/-- 'laws.FnExactMostSnow', WHERE WHAT IT READS IS OF BULK AT MOST 1048576: true; the input reads as it did. -/
def fnExactMostSnowUptoRow : OpenClaim := { program := "ytlfnkgfkimanaaa", sum := "2d9798814b7b73aa020a063a71cb93ff3da71f758aaa324513ef10b56a472930", func := "loop.example/g01013/laws.FnExactMostSnow", spec := "fnExactMostSnow", apart := false, narrowed := true }
def FnExactMostSnowUptoSaid : Prop := fnExactMostSnowUptoRow.holds Try.pinned (OpenSpec.upto fnExactMostSnowSpec)

/-- 'laws.FnExactBestShift', WHERE WHAT IT READS IS OF BULK AT MOST 1048576: true; the input reads as it did. -/
def fnExactBestShiftUptoRow : OpenClaim := { program := "ytlfnkgfkimanaaa", sum := "2d9798814b7b73aa020a063a71cb93ff3da71f758aaa324513ef10b56a472930", func := "loop.example/g01013/laws.FnExactBestShift", spec := "fnExactBestShift", unfollowed := true, recurses := true, apart := false, narrowed := true }
def FnExactBestShiftUptoSaid : Prop := fnExactBestShiftUptoRow.holds Try.pinned (OpenSpec.upto fnExactBestShiftSpec)

end Rows
end Go.Proofs.Ytlfnkgfkimanaaa
