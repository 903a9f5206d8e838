/-
  No cell of these rows narrows 'for every input' (looked for: loops, veiled, ifaces, maps, wideKeys, modest, calm, conditions, laid).
  DERIVED. THE GIVEN ROWS OF THIS SEAT. 12 by the template 'for every input the law returns true; each argument reads behind the call as it read before'; 0 by the template 'total and deterministic' (their statements: YtokakabckjmfoaaTotals.lean).
  GIVEN WITH THE SEED: the statements are not yours to turn. If you find one false, say at which input.
  Laid BY PROGRAM, IN A SANDBOX (cutbox-rows.mjs): the forced cells as the released guide's own fill.sh prints them over the translation fe4f4b4728143065… (all of the seat's roots in one cut). By AI agents, Wed Nov 11 2026. No macro, syntax, notation, axiom, sorry.
-/
import Derived.Test.YtokakabckjmfoaaChecked
import GoSem.Claim
import GoSem.ClaimJoined
import GoSem.ClaimMapViews
import Derived.JoinedTies
import Derived.KernelRfl
namespace Go.Proofs.Ytokakabckjmfoaa
/- THE CELL 'sum', in the pinned program and in every row, IS THE sha256 OF THE DUMP (.gsa) THAT YtokakabckjmfoaaProg.lean LOADS. Nothing in Lean hashes anything: it is a label: what it is worth is what the hold of that sum in a sandbox is worth. -/
noncomputable def Try.pinned : Pinned := { name := "ytokakabckjmfoaa", sum := "fe4f4b472814306584cc86d867f694fa8face10a75b50e6c7a05d7c0b6670eef", checked := Try.checked }
namespace Rows
def none {H : Type} : Left H := { results := [], args := [] }

/-- 'laws.FnExactNeededGuides': WHATEVER THE INPUT: true; the input reads as it did. -/
def fnExactNeededGuidesSpec : ChangeSpec := { name := "fnExactNeededGuides", fn := fun _ => fun
  | [d1, d2] => { results := [.lit (.bool true)], args := [d1, d2] }
  | _ => none }
def fnExactNeededGuidesRow : OpenClaim := { program := "ytokakabckjmfoaa", sum := "fe4f4b472814306584cc86d867f694fa8face10a75b50e6c7a05d7c0b6670eef", func := "loop.example/g01013/laws.FnExactNeededGuides", spec := "fnExactNeededGuides", apart := false }
def FnExactNeededGuidesSaid : Prop := fnExactNeededGuidesRow.holds Try.pinned (OpenSpec.ofChange fnExactNeededGuidesSpec)

/-- ITS FALSE NEIGHBOUR: 'it returns false'. Refute it at one input. -/
def fnExactNeededGuidesWrong : ChangeSpec := { name := "fnExactNeededGuides", fn := fun _ => fun
  | [d1, d2] => { results := [.lit (.bool false)], args := [d1, d2] }
  | _ => none }
def FnExactNeededGuidesWrongFalsely : Prop := fnExactNeededGuidesRow.holds Try.pinned (OpenSpec.ofChange fnExactNeededGuidesWrong)

/-- 'laws.FnExactHoursToOpen': WHATEVER THE INPUT: true; the input reads as it did. -/
def fnExactHoursToOpenSpec : ChangeSpec := { name := "fnExactHoursToOpen", fn := fun _ => fun
  | [d] => { results := [.lit (.bool true)], args := [d] }
  | _ => none }
def fnExactHoursToOpenRow : OpenClaim := { program := "ytokakabckjmfoaa", sum := "fe4f4b472814306584cc86d867f694fa8face10a75b50e6c7a05d7c0b6670eef", func := "loop.example/g01013/laws.FnExactHoursToOpen", spec := "fnExactHoursToOpen", apart := false }
def FnExactHoursToOpenSaid : Prop := fnExactHoursToOpenRow.holds Try.pinned (OpenSpec.ofChange fnExactHoursToOpenSpec)

/-- ITS FALSE NEIGHBOUR: 'it returns false'. Refute it at one input. -/
def fnExactHoursToOpenWrong : ChangeSpec := { name := "fnExactHoursToOpen", fn := fun _ => fun
  | [d] => { results := [.lit (.bool false)], args := [d] }
  | _ => none }
def FnExactHoursToOpenWrongFalsely : Prop := fnExactHoursToOpenRow.holds Try.pinned (OpenSpec.ofChange fnExactHoursToOpenWrong)

/-- 'laws.FnExactSurvivalAt': WHATEVER THE INPUT: true; the input reads as it did. -/
def fnExactSurvivalAtSpec : ChangeSpec := { name := "fnExactSurvivalAt", fn := fun _ => fun
  | [d] => { results := [.lit (.bool true)], args := [d] }
  | _ => none }
def fnExactSurvivalAtRow : OpenClaim := { program := "ytokakabckjmfoaa", sum := "fe4f4b472814306584cc86d867f694fa8face10a75b50e6c7a05d7c0b6670eef", func := "loop.example/g01013/laws.FnExactSurvivalAt", spec := "fnExactSurvivalAt", apart := false }
def FnExactSurvivalAtSaid : Prop := fnExactSurvivalAtRow.holds Try.pinned (OpenSpec.ofChange fnExactSurvivalAtSpec)

/-- ITS FALSE NEIGHBOUR: 'it returns false'. Refute it at one input. -/
def fnExactSurvivalAtWrong : ChangeSpec := { name := "fnExactSurvivalAt", fn := fun _ => fun
  | [d] => { results := [.lit (.bool false)], args := [d] }
  | _ => none }
def FnExactSurvivalAtWrongFalsely : Prop := fnExactSurvivalAtRow.holds Try.pinned (OpenSpec.ofChange fnExactSurvivalAtWrong)

/-- 'laws.FnExactSameState': WHATEVER THE INPUT: true; the input reads as it did. -/
def fnExactSameStateSpec : ChangeSpec := { name := "fnExactSameState", fn := fun _ => fun
  | [d1, d2] => { results := [.lit (.bool true)], args := [d1, d2] }
  | _ => none }
def fnExactSameStateRow : OpenClaim := { program := "ytokakabckjmfoaa", sum := "fe4f4b472814306584cc86d867f694fa8face10a75b50e6c7a05d7c0b6670eef", func := "loop.example/g01013/laws.FnExactSameState", spec := "fnExactSameState", apart := false }
def FnExactSameStateSaid : Prop := fnExactSameStateRow.holds Try.pinned (OpenSpec.ofChange fnExactSameStateSpec)

/-- ITS FALSE NEIGHBOUR: 'it returns false'. Refute it at one input. -/
def fnExactSameStateWrong : ChangeSpec := { name := "fnExactSameState", fn := fun _ => fun
  | [d1, d2] => { results := [.lit (.bool false)], args := [d1, d2] }
  | _ => none }
def FnExactSameStateWrongFalsely : Prop := fnExactSameStateRow.holds Try.pinned (OpenSpec.ofChange fnExactSameStateWrong)

/-- 'laws.FnExactValidVerified': WHATEVER THE INPUT: true; the input reads as it did. -/
def fnExactValidVerifiedSpec : ChangeSpec := { name := "fnExactValidVerified", fn := fun _ => fun
  | [d] => { results := [.lit (.bool true)], args := [d] }
  | _ => none }
def fnExactValidVerifiedRow : OpenClaim := { program := "ytokakabckjmfoaa", sum := "fe4f4b472814306584cc86d867f694fa8face10a75b50e6c7a05d7c0b6670eef", func := "loop.example/g01013/laws.FnExactValidVerified", spec := "fnExactValidVerified", apart := false }
def FnExactValidVerifiedSaid : Prop := fnExactValidVerifiedRow.holds Try.pinned (OpenSpec.ofChange fnExactValidVerifiedSpec)

/-- ITS FALSE NEIGHBOUR: 'it returns false'. Refute it at one input. -/
def fnExactValidVerifiedWrong : ChangeSpec := { name := "fnExactValidVerified", fn := fun _ => fun
  | [d] => { results := [.lit (.bool false)], args := [d] }
  | _ => none }
def FnExactValidVerifiedWrongFalsely : Prop := fnExactValidVerifiedRow.holds Try.pinned (OpenSpec.ofChange fnExactValidVerifiedWrong)

/-- 'laws.FnExactValidObserved': WHATEVER THE INPUT: true; the input reads as it did. -/
def fnExactValidObservedSpec : ChangeSpec := { name := "fnExactValidObserved", fn := fun _ => fun
  | [d] => { results := [.lit (.bool true)], args := [d] }
  | _ => none }
def fnExactValidObservedRow : OpenClaim := { program := "ytokakabckjmfoaa", sum := "fe4f4b472814306584cc86d867f694fa8face10a75b50e6c7a05d7c0b6670eef", func := "loop.example/g01013/laws.FnExactValidObserved", spec := "fnExactValidObserved", apart := false }
def FnExactValidObservedSaid : Prop := fnExactValidObservedRow.holds Try.pinned (OpenSpec.ofChange fnExactValidObservedSpec)

/-- ITS FALSE NEIGHBOUR: 'it returns false'. Refute it at one input. -/
def fnExactValidObservedWrong : ChangeSpec := { name := "fnExactValidObserved", fn := fun _ => fun
  | [d] => { results := [.lit (.bool false)], args := [d] }
  | _ => none }
def FnExactValidObservedWrongFalsely : Prop := fnExactValidObservedRow.holds Try.pinned (OpenSpec.ofChange fnExactValidObservedWrong)

/-- 'laws.FnExactValidParts': WHATEVER THE INPUT: true; the input reads as it did. -/
def fnExactValidPartsSpec : ChangeSpec := { name := "fnExactValidParts", fn := fun _ => fun
  | [d] => { results := [.lit (.bool true)], args := [d] }
  | _ => none }
def fnExactValidPartsRow : OpenClaim := { program := "ytokakabckjmfoaa", sum := "fe4f4b472814306584cc86d867f694fa8face10a75b50e6c7a05d7c0b6670eef", func := "loop.example/g01013/laws.FnExactValidParts", spec := "fnExactValidParts", unfollowed := true, recurses := true, apart := false }
def FnExactValidPartsSaid : Prop := fnExactValidPartsRow.holds Try.pinned (OpenSpec.ofChange fnExactValidPartsSpec)

/-- ITS FALSE NEIGHBOUR: 'it returns false'. Refute it at one input. -/
def fnExactValidPartsWrong : ChangeSpec := { name := "fnExactValidParts", fn := fun _ => fun
  | [d] => { results := [.lit (.bool false)], args := [d] }
  | _ => none }
def FnExactValidPartsWrongFalsely : Prop := fnExactValidPartsRow.holds Try.pinned (OpenSpec.ofChange fnExactValidPartsWrong)

/-- 'laws.FnExactClassOf': WHATEVER THE INPUT: true; the input reads as it did. -/
def fnExactClassOfSpec : ChangeSpec := { name := "fnExactClassOf", fn := fun _ => fun
  | [d] => { results := [.lit (.bool true)], args := [d] }
  | _ => none }
def fnExactClassOfRow : OpenClaim := { program := "ytokakabckjmfoaa", sum := "fe4f4b472814306584cc86d867f694fa8face10a75b50e6c7a05d7c0b6670eef", func := "loop.example/g01013/laws.FnExactClassOf", spec := "fnExactClassOf", apart := false }
def FnExactClassOfSaid : Prop := fnExactClassOfRow.holds Try.pinned (OpenSpec.ofChange fnExactClassOfSpec)

/-- ITS FALSE NEIGHBOUR: 'it returns false'. Refute it at one input. -/
def fnExactClassOfWrong : ChangeSpec := { name := "fnExactClassOf", fn := fun _ => fun
  | [d] => { results := [.lit (.bool false)], args := [d] }
  | _ => none }
def FnExactClassOfWrongFalsely : Prop := fnExactClassOfRow.holds Try.pinned (OpenSpec.ofChange fnExactClassOfWrong)

/-- 'laws.FnExactValidTests': WHATEVER THE INPUT: true; the input reads as it did. -/
def fnExactValidTestsSpec : ChangeSpec := { name := "fnExactValidTests", fn := fun _ => fun
  | [d] => { results := [.lit (.bool true)], args := [d] }
  | _ => none }
def fnExactValidTestsRow : OpenClaim := { program := "ytokakabckjmfoaa", sum := "fe4f4b472814306584cc86d867f694fa8face10a75b50e6c7a05d7c0b6670eef", func := "loop.example/g01013/laws.FnExactValidTests", spec := "fnExactValidTests", apart := false }
def FnExactValidTestsSaid : Prop := fnExactValidTestsRow.holds Try.pinned (OpenSpec.ofChange fnExactValidTestsSpec)

/-- ITS FALSE NEIGHBOUR: 'it returns false'. Refute it at one input. -/
def fnExactValidTestsWrong : ChangeSpec := { name := "fnExactValidTests", fn := fun _ => fun
  | [d] => { results := [.lit (.bool false)], args := [d] }
  | _ => none }
def FnExactValidTestsWrongFalsely : Prop := fnExactValidTestsRow.holds Try.pinned (OpenSpec.ofChange fnExactValidTestsWrong)

/-- 'laws.FnExactValidState': WHATEVER THE INPUT: true; the input reads as it did. -/
def fnExactValidStateSpec : ChangeSpec := { name := "fnExactValidState", fn := fun _ => fun
  | [d] => { results := [.lit (.bool true)], args := [d] }
  | _ => none }
def fnExactValidStateRow : OpenClaim := { program := "ytokakabckjmfoaa", sum := "fe4f4b472814306584cc86d867f694fa8face10a75b50e6c7a05d7c0b6670eef", func := "loop.example/g01013/laws.FnExactValidState", spec := "fnExactValidState", apart := false }
def FnExactValidStateSaid : Prop := fnExactValidStateRow.holds Try.pinned (OpenSpec.ofChange fnExactValidStateSpec)

/-- ITS FALSE NEIGHBOUR: 'it returns false'. Refute it at one input. -/
def fnExactValidStateWrong : ChangeSpec := { name := "fnExactValidState", fn := fun _ => fun
  | [d] => { results := [.lit (.bool false)], args := [d] }
  | _ => none }
def FnExactValidStateWrongFalsely : Prop := fnExactValidStateRow.holds Try.pinned (OpenSpec.ofChange fnExactValidStateWrong)

/-- 'laws.FnExactWindHours': WHATEVER THE INPUT: true; the input reads as it did. -/
def fnExactWindHoursSpec : ChangeSpec := { name := "fnExactWindHours", fn := fun _ => fun
  | [d1, d2] => { results := [.lit (.bool true)], args := [d1, d2] }
  | _ => none }
def fnExactWindHoursRow : OpenClaim := { program := "ytokakabckjmfoaa", sum := "fe4f4b472814306584cc86d867f694fa8face10a75b50e6c7a05d7c0b6670eef", func := "loop.example/g01013/laws.FnExactWindHours", spec := "fnExactWindHours", apart := false }
def FnExactWindHoursSaid : Prop := fnExactWindHoursRow.holds Try.pinned (OpenSpec.ofChange fnExactWindHoursSpec)

/-- ITS FALSE NEIGHBOUR: 'it returns false'. Refute it at one input. -/
def fnExactWindHoursWrong : ChangeSpec := { name := "fnExactWindHours", fn := fun _ => fun
  | [d1, d2] => { results := [.lit (.bool false)], args := [d1, d2] }
  | _ => none }
def FnExactWindHoursWrongFalsely : Prop := fnExactWindHoursRow.holds Try.pinned (OpenSpec.ofChange fnExactWindHoursWrong)

/-- 'laws.FnExactValidLegs': WHATEVER THE INPUT: true; the input reads as it did. -/
def fnExactValidLegsSpec : ChangeSpec := { name := "fnExactValidLegs", fn := fun _ => fun
  | [d1, d2] => { results := [.lit (.bool true)], args := [d1, d2] }
  | _ => none }
def fnExactValidLegsRow : OpenClaim := { program := "ytokakabckjmfoaa", sum := "fe4f4b472814306584cc86d867f694fa8face10a75b50e6c7a05d7c0b6670eef", func := "loop.example/g01013/laws.FnExactValidLegs", spec := "fnExactValidLegs", apart := false }
def FnExactValidLegsSaid : Prop := fnExactValidLegsRow.holds Try.pinned (OpenSpec.ofChange fnExactValidLegsSpec)

/-- ITS FALSE NEIGHBOUR: 'it returns false'. Refute it at one input. -/
def fnExactValidLegsWrong : ChangeSpec := { name := "fnExactValidLegs", fn := fun _ => fun
  | [d1, d2] => { results := [.lit (.bool false)], args := [d1, d2] }
  | _ => none }
def FnExactValidLegsWrongFalsely : Prop := fnExactValidLegsRow.holds Try.pinned (OpenSpec.ofChange fnExactValidLegsWrong)

/- THE SECOND FORM. 'bulk': how many values and letters a reading holds, each counted each time it is reached (what is shared counts as often as it is met; a slice's spare places count too). A statement '..UptoSaid' is the law's where the arguments, and the package variables that the reading takes, are together of bulk at most 1048576: NARROWER than '..Said'. Prove '..Said' where nothing that the law and all that it calls make is longer than what came in: it says more and counts as full. Else prove '..UptoSaid'. A law counts once. -/
mutual
def uptoBulk {H : Type} : DataW H → Nat
  | .lit (.string bytes) => bytes.length + 1
  | .lit _ => 1
  | .nil => 1
  | .ptr d => uptoBulk d + 1
  | .slice elems spare => uptoBulkAll elems + uptoBulkAll spare + 1
  | .agg parts => uptoBulkAll parts + 1
  | .iface _ d => uptoBulk d + 1
  | .map entries => uptoBulkEntries entries + 1
  | .held _ => 1
def uptoBulkAll {H : Type} : List (DataW H) → Nat
  | [] => 0
  | d :: r => uptoBulk d + uptoBulkAll r
def uptoBulkEntries {H : Type} : List (Lit × DataW H) → Nat
  | [] => 0
  | x :: r => uptoBulkEntry x + uptoBulkEntries r
def uptoBulkEntry {H : Type} : Lit × DataW H → Nat
  | (.string bytes, d) => bytes.length + uptoBulk d + 1
  | (_, d) => uptoBulk d + 1
 end
def uptoSmall : (H : Type) → List (DataW H) → Bool := fun _ ds => decide (uptoBulkAll ds ≤ 1048576)
def OpenSpec.upto (s : _root_.Go.ChangeSpec) : _root_.Go.OpenSpec := { _root_.Go.OpenSpec.ofChange s with cond := some uptoSmall }

/-- 'laws.FnExactNeededGuides', WHERE WHAT IT READS IS OF BULK AT MOST 1048576: true; the input reads as it did. -/
def fnExactNeededGuidesUptoRow : OpenClaim := { program := "ytokakabckjmfoaa", sum := "fe4f4b472814306584cc86d867f694fa8face10a75b50e6c7a05d7c0b6670eef", func := "loop.example/g01013/laws.FnExactNeededGuides", spec := "fnExactNeededGuides", apart := false, narrowed := true }
def FnExactNeededGuidesUptoSaid : Prop := fnExactNeededGuidesUptoRow.holds Try.pinned (OpenSpec.upto fnExactNeededGuidesSpec)

/-- 'laws.FnExactHoursToOpen', WHERE WHAT IT READS IS OF BULK AT MOST 1048576: true; the input reads as it did. -/
def fnExactHoursToOpenUptoRow : OpenClaim := { program := "ytokakabckjmfoaa", sum := "fe4f4b472814306584cc86d867f694fa8face10a75b50e6c7a05d7c0b6670eef", func := "loop.example/g01013/laws.FnExactHoursToOpen", spec := "fnExactHoursToOpen", apart := false, narrowed := true }
def FnExactHoursToOpenUptoSaid : Prop := fnExactHoursToOpenUptoRow.holds Try.pinned (OpenSpec.upto fnExactHoursToOpenSpec)

/-- 'laws.FnExactSurvivalAt', WHERE WHAT IT READS IS OF BULK AT MOST 1048576: true; the input reads as it did. -/
def fnExactSurvivalAtUptoRow : OpenClaim := { program := "ytokakabckjmfoaa", sum := "fe4f4b472814306584cc86d867f694fa8face10a75b50e6c7a05d7c0b6670eef", func := "loop.example/g01013/laws.FnExactSurvivalAt", spec := "fnExactSurvivalAt", apart := false, narrowed := true }
def FnExactSurvivalAtUptoSaid : Prop := fnExactSurvivalAtUptoRow.holds Try.pinned (OpenSpec.upto fnExactSurvivalAtSpec)

/-- 'laws.FnExactSameState', WHERE WHAT IT READS IS OF BULK AT MOST 1048576: true; the input reads as it did. -/
def fnExactSameStateUptoRow : OpenClaim := { program := "ytokakabckjmfoaa", sum := "fe4f4b472814306584cc86d867f694fa8face10a75b50e6c7a05d7c0b6670eef", func := "loop.example/g01013/laws.FnExactSameState", spec := "fnExactSameState", apart := false, narrowed := true }
def FnExactSameStateUptoSaid : Prop := fnExactSameStateUptoRow.holds Try.pinned (OpenSpec.upto fnExactSameStateSpec)

/-- 'laws.FnExactValidVerified', WHERE WHAT IT READS IS OF BULK AT MOST 1048576: true; the input reads as it did. -/
def fnExactValidVerifiedUptoRow : OpenClaim := { program := "ytokakabckjmfoaa", sum := "fe4f4b472814306584cc86d867f694fa8face10a75b50e6c7a05d7c0b6670eef", func := "loop.example/g01013/laws.FnExactValidVerified", spec := "fnExactValidVerified", apart := false, narrowed := true }
def FnExactValidVerifiedUptoSaid : Prop := fnExactValidVerifiedUptoRow.holds Try.pinned (OpenSpec.upto fnExactValidVerifiedSpec)

/-- 'laws.FnExactValidObserved', WHERE WHAT IT READS IS OF BULK AT MOST 1048576: true; the input reads as it did. -/
def fnExactValidObservedUptoRow : OpenClaim := { program := "ytokakabckjmfoaa", sum := "fe4f4b472814306584cc86d867f694fa8face10a75b50e6c7a05d7c0b6670eef", func := "loop.example/g01013/laws.FnExactValidObserved", spec := "fnExactValidObserved", apart := false, narrowed := true }
def FnExactValidObservedUptoSaid : Prop := fnExactValidObservedUptoRow.holds Try.pinned (OpenSpec.upto fnExactValidObservedSpec)

/-- 'laws.FnExactValidParts', WHERE WHAT IT READS IS OF BULK AT MOST 1048576: true; the input reads as it did. -/
def fnExactValidPartsUptoRow : OpenClaim := { program := "ytokakabckjmfoaa", sum := "fe4f4b472814306584cc86d867f694fa8face10a75b50e6c7a05d7c0b6670eef", func := "loop.example/g01013/laws.FnExactValidParts", spec := "fnExactValidParts", unfollowed := true, recurses := true, apart := false, narrowed := true }
def FnExactValidPartsUptoSaid : Prop := fnExactValidPartsUptoRow.holds Try.pinned (OpenSpec.upto fnExactValidPartsSpec)

/-- 'laws.FnExactClassOf', WHERE WHAT IT READS IS OF BULK AT MOST 1048576: true; the input reads as it did. -/
def fnExactClassOfUptoRow : OpenClaim := { program := "ytokakabckjmfoaa", sum := "fe4f4b472814306584cc86d867f694fa8face10a75b50e6c7a05d7c0b6670eef", func := "loop.example/g01013/laws.FnExactClassOf", spec := "fnExactClassOf", apart := false, narrowed := true }
def FnExactClassOfUptoSaid : Prop := fnExactClassOfUptoRow.holds Try.pinned (OpenSpec.upto fnExactClassOfSpec)

/-- 'laws.FnExactValidTests', WHERE WHAT IT READS IS OF BULK AT MOST 1048576: true; the input reads as it did. -/
def fnExactValidTestsUptoRow : OpenClaim := { program := "ytokakabckjmfoaa", sum := "fe4f4b472814306584cc86d867f694fa8face10a75b50e6c7a05d7c0b6670eef", func := "loop.example/g01013/laws.FnExactValidTests", spec := "fnExactValidTests", apart := false, narrowed := true }
def FnExactValidTestsUptoSaid : Prop := fnExactValidTestsUptoRow.holds Try.pinned (OpenSpec.upto fnExactValidTestsSpec)

/-- 'laws.FnExactValidState', WHERE WHAT IT READS IS OF BULK AT MOST 1048576: true; the input reads as it did. -/
def fnExactValidStateUptoRow : OpenClaim := { program := "ytokakabckjmfoaa", sum := "fe4f4b472814306584cc86d867f694fa8face10a75b50e6c7a05d7c0b6670eef", func := "loop.example/g01013/laws.FnExactValidState", spec := "fnExactValidState", apart := false, narrowed := true }
def FnExactValidStateUptoSaid : Prop := fnExactValidStateUptoRow.holds Try.pinned (OpenSpec.upto fnExactValidStateSpec)

/-- 'laws.FnExactWindHours', WHERE WHAT IT READS IS OF BULK AT MOST 1048576: true; the input reads as it did. -/
def fnExactWindHoursUptoRow : OpenClaim := { program := "ytokakabckjmfoaa", sum := "fe4f4b472814306584cc86d867f694fa8face10a75b50e6c7a05d7c0b6670eef", func := "loop.example/g01013/laws.FnExactWindHours", spec := "fnExactWindHours", apart := false, narrowed := true }
def FnExactWindHoursUptoSaid : Prop := fnExactWindHoursUptoRow.holds Try.pinned (OpenSpec.upto fnExactWindHoursSpec)

/-- 'laws.FnExactValidLegs', WHERE WHAT IT READS IS OF BULK AT MOST 1048576: true; the input reads as it did. -/
def fnExactValidLegsUptoRow : OpenClaim := { program := "ytokakabckjmfoaa", sum := "fe4f4b472814306584cc86d867f694fa8face10a75b50e6c7a05d7c0b6670eef", func := "loop.example/g01013/laws.FnExactValidLegs", spec := "fnExactValidLegs", apart := false, narrowed := true }
def FnExactValidLegsUptoSaid : Prop := fnExactValidLegsUptoRow.holds Try.pinned (OpenSpec.upto fnExactValidLegsSpec)

end Rows
end Go.Proofs.Ytokakabckjmfoaa
