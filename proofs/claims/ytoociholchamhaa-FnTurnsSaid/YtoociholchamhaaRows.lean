/-
  No cell of these rows narrows 'for every input' (looked for: loops, veiled, ifaces, maps, wideKeys, modest, calm, conditions, laid).
  DERIVED. THE GIVEN ROWS OF THIS SEAT. 9 by the template 'for every input the law returns true; each argument reads behind the call as it read before'; 0 by the template 'total and deterministic' (their statements: YtoociholchamhaaTotals.lean).
  GIVEN WITH THE SEED: the statements are not yours to turn. If you find one false, say at which input.
  Laid BY PROGRAM, IN A SANDBOX (cutbox-rows.mjs): the forced cells as the released guide's own fill.sh prints them over the translation 35df9042caa402f9… (all of the seat's roots in one cut). By AI agents, Wed Nov 11 2026. No macro, syntax, notation, axiom, sorry.
-/
import Derived.Test.YtoociholchamhaaChecked
import GoSem.Claim
import GoSem.ClaimJoined
import GoSem.ClaimMapViews
import Derived.JoinedTies
import Derived.KernelRfl
namespace Go.Proofs.Ytoociholchamhaa
/- THE CELL 'sum', in the pinned program and in every row, IS THE sha256 OF THE DUMP (.gsa) THAT YtoociholchamhaaProg.lean LOADS. Nothing in Lean hashes anything: it is a label: what it is worth is what the hold of that sum in a sandbox is worth. -/
noncomputable def Try.pinned : Pinned := { name := "ytoociholchamhaa", sum := "35df9042caa402f9189a7cfbf538b09fe7fc92eb1466cc3eeaa98e4ef22e4197", checked := Try.checked }
namespace Rows
def none {H : Type} : Left H := { results := [], args := [] }

/-- 'laws.FnExactRouteExposure': WHATEVER THE INPUT: true; the input reads as it did. -/
def fnExactRouteExposureSpec : ChangeSpec := { name := "fnExactRouteExposure", fn := fun _ => fun
  | [d1, d2, d3] => { results := [.lit (.bool true)], args := [d1, d2, d3] }
  | _ => none }
def fnExactRouteExposureRow : OpenClaim := { program := "ytoociholchamhaa", sum := "35df9042caa402f9189a7cfbf538b09fe7fc92eb1466cc3eeaa98e4ef22e4197", func := "loop.example/g01013/laws.FnExactRouteExposure", spec := "fnExactRouteExposure", unfollowed := true, recurses := true, apart := false }
def FnExactRouteExposureSaid : Prop := fnExactRouteExposureRow.holds Try.pinned (OpenSpec.ofChange fnExactRouteExposureSpec)

/-- ITS FALSE NEIGHBOUR: 'it returns false'. Refute it at one input. -/
def fnExactRouteExposureWrong : ChangeSpec := { name := "fnExactRouteExposure", fn := fun _ => fun
  | [d1, d2, d3] => { results := [.lit (.bool false)], args := [d1, d2, d3] }
  | _ => none }
def FnExactRouteExposureWrongFalsely : Prop := fnExactRouteExposureRow.holds Try.pinned (OpenSpec.ofChange fnExactRouteExposureWrong)

/-- 'laws.FnExactRouteMinutes': WHATEVER THE INPUT: true; the input reads as it did. -/
def fnExactRouteMinutesSpec : ChangeSpec := { name := "fnExactRouteMinutes", fn := fun _ => fun
  | [d1, d2, d3] => { results := [.lit (.bool true)], args := [d1, d2, d3] }
  | _ => none }
def fnExactRouteMinutesRow : OpenClaim := { program := "ytoociholchamhaa", sum := "35df9042caa402f9189a7cfbf538b09fe7fc92eb1466cc3eeaa98e4ef22e4197", func := "loop.example/g01013/laws.FnExactRouteMinutes", spec := "fnExactRouteMinutes", unfollowed := true, recurses := true, apart := false }
def FnExactRouteMinutesSaid : Prop := fnExactRouteMinutesRow.holds Try.pinned (OpenSpec.ofChange fnExactRouteMinutesSpec)

/-- ITS FALSE NEIGHBOUR: 'it returns false'. Refute it at one input. -/
def fnExactRouteMinutesWrong : ChangeSpec := { name := "fnExactRouteMinutes", fn := fun _ => fun
  | [d1, d2, d3] => { results := [.lit (.bool false)], args := [d1, d2, d3] }
  | _ => none }
def FnExactRouteMinutesWrongFalsely : Prop := fnExactRouteMinutesRow.holds Try.pinned (OpenSpec.ofChange fnExactRouteMinutesWrong)

/-- 'laws.FnExactWorstLeg': WHATEVER THE INPUT: true; the input reads as it did. -/
def fnExactWorstLegSpec : ChangeSpec := { name := "fnExactWorstLeg", fn := fun _ => fun
  | [d1, d2, d3] => { results := [.lit (.bool true)], args := [d1, d2, d3] }
  | _ => none }
def fnExactWorstLegRow : OpenClaim := { program := "ytoociholchamhaa", sum := "35df9042caa402f9189a7cfbf538b09fe7fc92eb1466cc3eeaa98e4ef22e4197", func := "loop.example/g01013/laws.FnExactWorstLeg", spec := "fnExactWorstLeg", unfollowed := true, recurses := true, apart := false }
def FnExactWorstLegSaid : Prop := fnExactWorstLegRow.holds Try.pinned (OpenSpec.ofChange fnExactWorstLegSpec)

/-- ITS FALSE NEIGHBOUR: 'it returns false'. Refute it at one input. -/
def fnExactWorstLegWrong : ChangeSpec := { name := "fnExactWorstLeg", fn := fun _ => fun
  | [d1, d2, d3] => { results := [.lit (.bool false)], args := [d1, d2, d3] }
  | _ => none }
def FnExactWorstLegWrongFalsely : Prop := fnExactWorstLegRow.holds Try.pinned (OpenSpec.ofChange fnExactWorstLegWrong)

/-- 'laws.FnExactMayGoOn': WHATEVER THE INPUT: true; the input reads as it did. -/
def fnExactMayGoOnSpec : ChangeSpec := { name := "fnExactMayGoOn", fn := fun _ => fun
  | [d1, d2, d3, d4, d5, d6] => { results := [.lit (.bool true)], args := [d1, d2, d3, d4, d5, d6] }
  | _ => none }
def fnExactMayGoOnRow : OpenClaim := { program := "ytoociholchamhaa", sum := "35df9042caa402f9189a7cfbf538b09fe7fc92eb1466cc3eeaa98e4ef22e4197", func := "loop.example/g01013/laws.FnExactMayGoOn", spec := "fnExactMayGoOn", unfollowed := true, recurses := true, apart := false }
def FnExactMayGoOnSaid : Prop := fnExactMayGoOnRow.holds Try.pinned (OpenSpec.ofChange fnExactMayGoOnSpec)

/-- ITS FALSE NEIGHBOUR: 'it returns false'. Refute it at one input. -/
def fnExactMayGoOnWrong : ChangeSpec := { name := "fnExactMayGoOn", fn := fun _ => fun
  | [d1, d2, d3, d4, d5, d6] => { results := [.lit (.bool false)], args := [d1, d2, d3, d4, d5, d6] }
  | _ => none }
def FnExactMayGoOnWrongFalsely : Prop := fnExactMayGoOnRow.holds Try.pinned (OpenSpec.ofChange fnExactMayGoOnWrong)

/-- 'laws.FnExactTurnTimes': WHATEVER THE INPUT: true; the input reads as it did. -/
def fnExactTurnTimesSpec : ChangeSpec := { name := "fnExactTurnTimes", fn := fun _ => fun
  | [d1, d2, d3, d4] => { results := [.lit (.bool true)], args := [d1, d2, d3, d4] }
  | _ => none }
def fnExactTurnTimesRow : OpenClaim := { program := "ytoociholchamhaa", sum := "35df9042caa402f9189a7cfbf538b09fe7fc92eb1466cc3eeaa98e4ef22e4197", func := "loop.example/g01013/laws.FnExactTurnTimes", spec := "fnExactTurnTimes", unfollowed := true, recurses := true, apart := false }
def FnExactTurnTimesSaid : Prop := fnExactTurnTimesRow.holds Try.pinned (OpenSpec.ofChange fnExactTurnTimesSpec)

/-- ITS FALSE NEIGHBOUR: 'it returns false'. Refute it at one input. -/
def fnExactTurnTimesWrong : ChangeSpec := { name := "fnExactTurnTimes", fn := fun _ => fun
  | [d1, d2, d3, d4] => { results := [.lit (.bool false)], args := [d1, d2, d3, d4] }
  | _ => none }
def FnExactTurnTimesWrongFalsely : Prop := fnExactTurnTimesRow.holds Try.pinned (OpenSpec.ofChange fnExactTurnTimesWrong)

/-- 'laws.FnExactFastestRoute': WHATEVER THE INPUT: true; the input reads as it did. -/
def fnExactFastestRouteSpec : ChangeSpec := { name := "fnExactFastestRoute", fn := fun _ => fun
  | [d1, d2, d3, d4] => { results := [.lit (.bool true)], args := [d1, d2, d3, d4] }
  | _ => none }
def fnExactFastestRouteRow : OpenClaim := { program := "ytoociholchamhaa", sum := "35df9042caa402f9189a7cfbf538b09fe7fc92eb1466cc3eeaa98e4ef22e4197", func := "loop.example/g01013/laws.FnExactFastestRoute", spec := "fnExactFastestRoute", unfollowed := true, recurses := true, apart := false }
def FnExactFastestRouteSaid : Prop := fnExactFastestRouteRow.holds Try.pinned (OpenSpec.ofChange fnExactFastestRouteSpec)

/-- ITS FALSE NEIGHBOUR: 'it returns false'. Refute it at one input. -/
def fnExactFastestRouteWrong : ChangeSpec := { name := "fnExactFastestRoute", fn := fun _ => fun
  | [d1, d2, d3, d4] => { results := [.lit (.bool false)], args := [d1, d2, d3, d4] }
  | _ => none }
def FnExactFastestRouteWrongFalsely : Prop := fnExactFastestRouteRow.holds Try.pinned (OpenSpec.ofChange fnExactFastestRouteWrong)

/-- 'laws.FnExactSafestRoute': WHATEVER THE INPUT: true; the input reads as it did. -/
def fnExactSafestRouteSpec : ChangeSpec := { name := "fnExactSafestRoute", fn := fun _ => fun
  | [d1, d2, d3, d4, d5, d6] => { results := [.lit (.bool true)], args := [d1, d2, d3, d4, d5, d6] }
  | _ => none }
def fnExactSafestRouteRow : OpenClaim := { program := "ytoociholchamhaa", sum := "35df9042caa402f9189a7cfbf538b09fe7fc92eb1466cc3eeaa98e4ef22e4197", func := "loop.example/g01013/laws.FnExactSafestRoute", spec := "fnExactSafestRoute", recurses := true, apart := false }
def FnExactSafestRouteSaid : Prop := fnExactSafestRouteRow.holds Try.pinned (OpenSpec.ofChange fnExactSafestRouteSpec)

/-- ITS FALSE NEIGHBOUR: 'it returns false'. Refute it at one input. -/
def fnExactSafestRouteWrong : ChangeSpec := { name := "fnExactSafestRoute", fn := fun _ => fun
  | [d1, d2, d3, d4, d5, d6] => { results := [.lit (.bool false)], args := [d1, d2, d3, d4, d5, d6] }
  | _ => none }
def FnExactSafestRouteWrongFalsely : Prop := fnExactSafestRouteRow.holds Try.pinned (OpenSpec.ofChange fnExactSafestRouteWrong)

/-- 'laws.FnTurns': WHATEVER THE INPUT: true; the input reads as it did. -/
def fnTurnsSpec : ChangeSpec := { name := "fnTurns", fn := fun _ => fun
  | [d1, d2] => { results := [.lit (.bool true)], args := [d1, d2] }
  | _ => none }
def fnTurnsRow : OpenClaim := { program := "ytoociholchamhaa", sum := "35df9042caa402f9189a7cfbf538b09fe7fc92eb1466cc3eeaa98e4ef22e4197", func := "loop.example/g01013/laws.FnTurns", spec := "fnTurns", unfollowed := true, recurses := true, apart := false }
def FnTurnsSaid : Prop := fnTurnsRow.holds Try.pinned (OpenSpec.ofChange fnTurnsSpec)

/-- ITS FALSE NEIGHBOUR: 'it returns false'. Refute it at one input. -/
def fnTurnsWrong : ChangeSpec := { name := "fnTurns", fn := fun _ => fun
  | [d1, d2] => { results := [.lit (.bool false)], args := [d1, d2] }
  | _ => none }
def FnTurnsWrongFalsely : Prop := fnTurnsRow.holds Try.pinned (OpenSpec.ofChange fnTurnsWrong)

/-- 'laws.FnExactSameHistory': WHATEVER THE INPUT: true; the input reads as it did. -/
def fnExactSameHistorySpec : ChangeSpec := { name := "fnExactSameHistory", fn := fun _ => fun
  | [d1, d2] => { results := [.lit (.bool true)], args := [d1, d2] }
  | _ => none }
def fnExactSameHistoryRow : OpenClaim := { program := "ytoociholchamhaa", sum := "35df9042caa402f9189a7cfbf538b09fe7fc92eb1466cc3eeaa98e4ef22e4197", func := "loop.example/g01013/laws.FnExactSameHistory", spec := "fnExactSameHistory", unfollowed := true, recurses := true, apart := false }
def FnExactSameHistorySaid : Prop := fnExactSameHistoryRow.holds Try.pinned (OpenSpec.ofChange fnExactSameHistorySpec)

/-- ITS FALSE NEIGHBOUR: 'it returns false'. Refute it at one input. -/
def fnExactSameHistoryWrong : ChangeSpec := { name := "fnExactSameHistory", fn := fun _ => fun
  | [d1, d2] => { results := [.lit (.bool false)], args := [d1, d2] }
  | _ => none }
def FnExactSameHistoryWrongFalsely : Prop := fnExactSameHistoryRow.holds Try.pinned (OpenSpec.ofChange fnExactSameHistoryWrong)

/- THE SECOND FORM. 'bulk': how many values and letters a reading holds, each counted each time it is reached (what is shared counts as often as it is met; a slice's spare places count too). A statement '..UptoSaid' is the law's where the arguments, and the package variables that the reading takes, are together of bulk at most 1048576: NARROWER than '..Said'. Prove '..Said' where nothing that the law and all that it calls make is longer than what came in: it says more and counts as full. Else prove '..UptoSaid'. A law counts once. -/
mutual
def uptoBulk {H : Type} : DataW H → Nat
  | .lit (.string bytes) => bytes.length + 1
  | .lit _ => 1
  | .nil => 1
  | .ptr d => uptoBulk d + 1
  | .slice elems spare => uptoBulkAll elems + uptoBulkAll spare + 1
  | .agg parts => uptoBulkAll parts + 1
  | .iface _ d => uptoBulk d + 1
  | .map entries => uptoBulkEntries entries + 1
  | .held _ => 1
def uptoBulkAll {H : Type} : List (DataW H) → Nat
  | [] => 0
  | d :: r => uptoBulk d + uptoBulkAll r
def uptoBulkEntries {H : Type} : List (Lit × DataW H) → Nat
  | [] => 0
  | x :: r => uptoBulkEntry x + uptoBulkEntries r
def uptoBulkEntry {H : Type} : Lit × DataW H → Nat
  | (.string bytes, d) => bytes.length + uptoBulk d + 1
  | (_, d) => uptoBulk d + 1
 end
def uptoSmall : (H : Type) → List (DataW H) → Bool := fun _ ds => decide (uptoBulkAll ds ≤ 1048576)
def OpenSpec.upto (s : _root_.Go.ChangeSpec) : _root_.Go.OpenSpec := { _root_.Go.OpenSpec.ofChange s with cond := some uptoSmall }

/-- 'laws.FnExactRouteExposure', WHERE WHAT IT READS IS OF BULK AT MOST 1048576: true; the input reads as it did. -/
def fnExactRouteExposureUptoRow : OpenClaim := { program := "ytoociholchamhaa", sum := "35df9042caa402f9189a7cfbf538b09fe7fc92eb1466cc3eeaa98e4ef22e4197", func := "loop.example/g01013/laws.FnExactRouteExposure", spec := "fnExactRouteExposure", unfollowed := true, recurses := true, apart := false, narrowed := true }
def FnExactRouteExposureUptoSaid : Prop := fnExactRouteExposureUptoRow.holds Try.pinned (OpenSpec.upto fnExactRouteExposureSpec)

/-- 'laws.FnExactRouteMinutes', WHERE WHAT IT READS IS OF BULK AT MOST 1048576: true; the input reads as it did. -/
def fnExactRouteMinutesUptoRow : OpenClaim := { program := "ytoociholchamhaa", sum := "35df9042caa402f9189a7cfbf538b09fe7fc92eb1466cc3eeaa98e4ef22e4197", func := "loop.example/g01013/laws.FnExactRouteMinutes", spec := "fnExactRouteMinutes", unfollowed := true, recurses := true, apart := false, narrowed := true }
def FnExactRouteMinutesUptoSaid : Prop := fnExactRouteMinutesUptoRow.holds Try.pinned (OpenSpec.upto fnExactRouteMinutesSpec)

/-- 'laws.FnExactWorstLeg', WHERE WHAT IT READS IS OF BULK AT MOST 1048576: true; the input reads as it did. -/
def fnExactWorstLegUptoRow : OpenClaim := { program := "ytoociholchamhaa", sum := "35df9042caa402f9189a7cfbf538b09fe7fc92eb1466cc3eeaa98e4ef22e4197", func := "loop.example/g01013/laws.FnExactWorstLeg", spec := "fnExactWorstLeg", unfollowed := true, recurses := true, apart := false, narrowed := true }
def FnExactWorstLegUptoSaid : Prop := fnExactWorstLegUptoRow.holds Try.pinned (OpenSpec.upto fnExactWorstLegSpec)

/-- 'laws.FnExactMayGoOn', WHERE WHAT IT READS IS OF BULK AT MOST 1048576: true; the input reads as it did. -/
def fnExactMayGoOnUptoRow : OpenClaim := { program := "ytoociholchamhaa", sum := "35df9042caa402f9189a7cfbf538b09fe7fc92eb1466cc3eeaa98e4ef22e4197", func := "loop.example/g01013/laws.FnExactMayGoOn", spec := "fnExactMayGoOn", unfollowed := true, recurses := true, apart := false, narrowed := true }
def FnExactMayGoOnUptoSaid : Prop := fnExactMayGoOnUptoRow.holds Try.pinned (OpenSpec.upto fnExactMayGoOnSpec)

/-- 'laws.FnExactTurnTimes', WHERE WHAT IT READS IS OF BULK AT MOST 1048576: true; the input reads as it did. -/
def fnExactTurnTimesUptoRow : OpenClaim := { program := "ytoociholchamhaa", sum := "35df9042caa402f9189a7cfbf538b09fe7fc92eb1466cc3eeaa98e4ef22e4197", func := "loop.example/g01013/laws.FnExactTurnTimes", spec := "fnExactTurnTimes", unfollowed := true, recurses := true, apart := false, narrowed := true }
def FnExactTurnTimesUptoSaid : Prop := fnExactTurnTimesUptoRow.holds Try.pinned (OpenSpec.upto fnExactTurnTimesSpec)

/-- 'laws.FnExactFastestRoute', WHERE WHAT IT READS IS OF BULK AT MOST 1048576: true; the input reads as it did. -/
def fnExactFastestRouteUptoRow : OpenClaim := { program := "ytoociholchamhaa", sum := "35df9042caa402f9189a7cfbf538b09fe7fc92eb1466cc3eeaa98e4ef22e4197", func := "loop.example/g01013/laws.FnExactFastestRoute", spec := "fnExactFastestRoute", unfollowed := true, recurses := true, apart := false, narrowed := true }
def FnExactFastestRouteUptoSaid : Prop := fnExactFastestRouteUptoRow.holds Try.pinned (OpenSpec.upto fnExactFastestRouteSpec)

/-- 'laws.FnExactSafestRoute', WHERE WHAT IT READS IS OF BULK AT MOST 1048576: true; the input reads as it did. -/
def fnExactSafestRouteUptoRow : OpenClaim := { program := "ytoociholchamhaa", sum := "35df9042caa402f9189a7cfbf538b09fe7fc92eb1466cc3eeaa98e4ef22e4197", func := "loop.example/g01013/laws.FnExactSafestRoute", spec := "fnExactSafestRoute", recurses := true, apart := false, narrowed := true }
def FnExactSafestRouteUptoSaid : Prop := fnExactSafestRouteUptoRow.holds Try.pinned (OpenSpec.upto fnExactSafestRouteSpec)

/-- 'laws.FnTurns', WHERE WHAT IT READS IS OF BULK AT MOST 1048576: true; the input reads as it did. -/
def fnTurnsUptoRow : OpenClaim := { program := "ytoociholchamhaa", sum := "35df9042caa402f9189a7cfbf538b09fe7fc92eb1466cc3eeaa98e4ef22e4197", func := "loop.example/g01013/laws.FnTurns", spec := "fnTurns", unfollowed := true, recurses := true, apart := false, narrowed := true }
def FnTurnsUptoSaid : Prop := fnTurnsUptoRow.holds Try.pinned (OpenSpec.upto fnTurnsSpec)

/-- 'laws.FnExactSameHistory', WHERE WHAT IT READS IS OF BULK AT MOST 1048576: true; the input reads as it did. -/
def fnExactSameHistoryUptoRow : OpenClaim := { program := "ytoociholchamhaa", sum := "35df9042caa402f9189a7cfbf538b09fe7fc92eb1466cc3eeaa98e4ef22e4197", func := "loop.example/g01013/laws.FnExactSameHistory", spec := "fnExactSameHistory", unfollowed := true, recurses := true, apart := false, narrowed := true }
def FnExactSameHistoryUptoSaid : Prop := fnExactSameHistoryUptoRow.holds Try.pinned (OpenSpec.upto fnExactSameHistorySpec)

end Rows
end Go.Proofs.Ytoociholchamhaa
