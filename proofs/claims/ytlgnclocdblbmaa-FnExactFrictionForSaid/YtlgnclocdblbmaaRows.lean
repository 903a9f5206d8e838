/-
  No cell of these rows narrows 'for every input' (looked for: loops, veiled, ifaces, maps, wideKeys, modest, calm, conditions, laid).
  DERIVED. THE GIVEN ROWS OF THIS SEAT. 10 by the template 'for every input the law returns true; each argument reads behind the call as it read before'; 0 by the template 'total and deterministic' (their statements: YtlgnclocdblbmaaTotals.lean).
  GIVEN WITH THE SEED: the statements are not yours to turn. If you find one false, say at which input.
  Laid BY PROGRAM, IN A SANDBOX (cutbox-rows.mjs): the forced cells as the released guide's own fill.sh prints them over the translation 825c5054c5066859… (all of the seat's roots in one cut). By AI agents, Wed Nov 11 2026. No macro, syntax, notation, axiom, sorry.
-/
import Derived.Test.YtlgnclocdblbmaaChecked
import GoSem.Claim
import GoSem.ClaimJoined
import GoSem.ClaimMapViews
import Derived.JoinedTies
import Derived.KernelRfl
namespace Go.Proofs.Ytlgnclocdblbmaa
/- THE CELL 'sum', in the pinned program and in every row, IS THE sha256 OF THE DUMP (.gsa) THAT YtlgnclocdblbmaaProg.lean LOADS. Nothing in Lean hashes anything: it is a label: what it is worth is what the hold of that sum in a sandbox is worth. -/
noncomputable def Try.pinned : Pinned := { name := "ytlgnclocdblbmaa", sum := "825c5054c5066859f8b549fcdb19c37e8fc76d16b8c6c111e0ee222c3ffcdbb1", checked := Try.checked }
namespace Rows
def none {H : Type} : Left H := { results := [], args := [] }

/-- 'laws.FnExactValidAssets': WHATEVER THE INPUT: true; the input reads as it did. -/
def fnExactValidAssetsSpec : ChangeSpec := { name := "fnExactValidAssets", fn := fun _ => fun
  | [d1, d2] => { results := [.lit (.bool true)], args := [d1, d2] }
  | _ => none }
def fnExactValidAssetsRow : OpenClaim := { program := "ytlgnclocdblbmaa", sum := "825c5054c5066859f8b549fcdb19c37e8fc76d16b8c6c111e0ee222c3ffcdbb1", func := "loop.example/g01013/laws.FnExactValidAssets", spec := "fnExactValidAssets", unfollowed := true, recurses := true, apart := false }
def FnExactValidAssetsSaid : Prop := fnExactValidAssetsRow.holds Try.pinned (OpenSpec.ofChange fnExactValidAssetsSpec)

/-- ITS FALSE NEIGHBOUR: 'it returns false'. Refute it at one input. -/
def fnExactValidAssetsWrong : ChangeSpec := { name := "fnExactValidAssets", fn := fun _ => fun
  | [d1, d2] => { results := [.lit (.bool false)], args := [d1, d2] }
  | _ => none }
def FnExactValidAssetsWrongFalsely : Prop := fnExactValidAssetsRow.holds Try.pinned (OpenSpec.ofChange fnExactValidAssetsWrong)

/-- 'laws.FnExactExposedWorth': WHATEVER THE INPUT: true; the input reads as it did. -/
def fnExactExposedWorthSpec : ChangeSpec := { name := "fnExactExposedWorth", fn := fun _ => fun
  | [d1, d2, d3] => { results := [.lit (.bool true)], args := [d1, d2, d3] }
  | _ => none }
def fnExactExposedWorthRow : OpenClaim := { program := "ytlgnclocdblbmaa", sum := "825c5054c5066859f8b549fcdb19c37e8fc76d16b8c6c111e0ee222c3ffcdbb1", func := "loop.example/g01013/laws.FnExactExposedWorth", spec := "fnExactExposedWorth", unfollowed := true, recurses := true, apart := false }
def FnExactExposedWorthSaid : Prop := fnExactExposedWorthRow.holds Try.pinned (OpenSpec.ofChange fnExactExposedWorthSpec)

/-- ITS FALSE NEIGHBOUR: 'it returns false'. Refute it at one input. -/
def fnExactExposedWorthWrong : ChangeSpec := { name := "fnExactExposedWorth", fn := fun _ => fun
  | [d1, d2, d3] => { results := [.lit (.bool false)], args := [d1, d2, d3] }
  | _ => none }
def FnExactExposedWorthWrongFalsely : Prop := fnExactExposedWorthRow.holds Try.pinned (OpenSpec.ofChange fnExactExposedWorthWrong)

/-- 'laws.FnExactExposedAssets': WHATEVER THE INPUT: true; the input reads as it did. -/
def fnExactExposedAssetsSpec : ChangeSpec := { name := "fnExactExposedAssets", fn := fun _ => fun
  | [d1, d2, d3] => { results := [.lit (.bool true)], args := [d1, d2, d3] }
  | _ => none }
def fnExactExposedAssetsRow : OpenClaim := { program := "ytlgnclocdblbmaa", sum := "825c5054c5066859f8b549fcdb19c37e8fc76d16b8c6c111e0ee222c3ffcdbb1", func := "loop.example/g01013/laws.FnExactExposedAssets", spec := "fnExactExposedAssets", unfollowed := true, recurses := true, apart := false }
def FnExactExposedAssetsSaid : Prop := fnExactExposedAssetsRow.holds Try.pinned (OpenSpec.ofChange fnExactExposedAssetsSpec)

/-- ITS FALSE NEIGHBOUR: 'it returns false'. Refute it at one input. -/
def fnExactExposedAssetsWrong : ChangeSpec := { name := "fnExactExposedAssets", fn := fun _ => fun
  | [d1, d2, d3] => { results := [.lit (.bool false)], args := [d1, d2, d3] }
  | _ => none }
def FnExactExposedAssetsWrongFalsely : Prop := fnExactExposedAssetsRow.holds Try.pinned (OpenSpec.ofChange fnExactExposedAssetsWrong)

/-- 'laws.FnExactRunMass': WHATEVER THE INPUT: true; the input reads as it did. -/
def fnExactRunMassSpec : ChangeSpec := { name := "fnExactRunMass", fn := fun _ => fun
  | [d1, d2, d3] => { results := [.lit (.bool true)], args := [d1, d2, d3] }
  | _ => none }
def fnExactRunMassRow : OpenClaim := { program := "ytlgnclocdblbmaa", sum := "825c5054c5066859f8b549fcdb19c37e8fc76d16b8c6c111e0ee222c3ffcdbb1", func := "loop.example/g01013/laws.FnExactRunMass", spec := "fnExactRunMass", unfollowed := true, recurses := true, apart := false }
def FnExactRunMassSaid : Prop := fnExactRunMassRow.holds Try.pinned (OpenSpec.ofChange fnExactRunMassSpec)

/-- ITS FALSE NEIGHBOUR: 'it returns false'. Refute it at one input. -/
def fnExactRunMassWrong : ChangeSpec := { name := "fnExactRunMass", fn := fun _ => fun
  | [d1, d2, d3] => { results := [.lit (.bool false)], args := [d1, d2, d3] }
  | _ => none }
def FnExactRunMassWrongFalsely : Prop := fnExactRunMassRow.holds Try.pinned (OpenSpec.ofChange fnExactRunMassWrong)

/-- 'laws.FnExactReachedBy': WHATEVER THE INPUT: true; the input reads as it did. -/
def fnExactReachedBySpec : ChangeSpec := { name := "fnExactReachedBy", fn := fun _ => fun
  | [d1, d2, d3] => { results := [.lit (.bool true)], args := [d1, d2, d3] }
  | _ => none }
def fnExactReachedByRow : OpenClaim := { program := "ytlgnclocdblbmaa", sum := "825c5054c5066859f8b549fcdb19c37e8fc76d16b8c6c111e0ee222c3ffcdbb1", func := "loop.example/g01013/laws.FnExactReachedBy", spec := "fnExactReachedBy", unfollowed := true, recurses := true, apart := false }
def FnExactReachedBySaid : Prop := fnExactReachedByRow.holds Try.pinned (OpenSpec.ofChange fnExactReachedBySpec)

/-- ITS FALSE NEIGHBOUR: 'it returns false'. Refute it at one input. -/
def fnExactReachedByWrong : ChangeSpec := { name := "fnExactReachedBy", fn := fun _ => fun
  | [d1, d2, d3] => { results := [.lit (.bool false)], args := [d1, d2, d3] }
  | _ => none }
def FnExactReachedByWrongFalsely : Prop := fnExactReachedByRow.holds Try.pinned (OpenSpec.ofChange fnExactReachedByWrong)

/-- 'laws.FnExactLowestOf': WHATEVER THE INPUT: true; the input reads as it did. -/
def fnExactLowestOfSpec : ChangeSpec := { name := "fnExactLowestOf", fn := fun _ => fun
  | [d1, d2, d3] => { results := [.lit (.bool true)], args := [d1, d2, d3] }
  | _ => none }
def fnExactLowestOfRow : OpenClaim := { program := "ytlgnclocdblbmaa", sum := "825c5054c5066859f8b549fcdb19c37e8fc76d16b8c6c111e0ee222c3ffcdbb1", func := "loop.example/g01013/laws.FnExactLowestOf", spec := "fnExactLowestOf", unfollowed := true, recurses := true, apart := false }
def FnExactLowestOfSaid : Prop := fnExactLowestOfRow.holds Try.pinned (OpenSpec.ofChange fnExactLowestOfSpec)

/-- ITS FALSE NEIGHBOUR: 'it returns false'. Refute it at one input. -/
def fnExactLowestOfWrong : ChangeSpec := { name := "fnExactLowestOf", fn := fun _ => fun
  | [d1, d2, d3] => { results := [.lit (.bool false)], args := [d1, d2, d3] }
  | _ => none }
def FnExactLowestOfWrongFalsely : Prop := fnExactLowestOfRow.holds Try.pinned (OpenSpec.ofChange fnExactLowestOfWrong)

/-- 'laws.FnExactDropOf': WHATEVER THE INPUT: true; the input reads as it did. -/
def fnExactDropOfSpec : ChangeSpec := { name := "fnExactDropOf", fn := fun _ => fun
  | [d1, d2, d3] => { results := [.lit (.bool true)], args := [d1, d2, d3] }
  | _ => none }
def fnExactDropOfRow : OpenClaim := { program := "ytlgnclocdblbmaa", sum := "825c5054c5066859f8b549fcdb19c37e8fc76d16b8c6c111e0ee222c3ffcdbb1", func := "loop.example/g01013/laws.FnExactDropOf", spec := "fnExactDropOf", unfollowed := true, recurses := true, apart := false }
def FnExactDropOfSaid : Prop := fnExactDropOfRow.holds Try.pinned (OpenSpec.ofChange fnExactDropOfSpec)

/-- ITS FALSE NEIGHBOUR: 'it returns false'. Refute it at one input. -/
def fnExactDropOfWrong : ChangeSpec := { name := "fnExactDropOf", fn := fun _ => fun
  | [d1, d2, d3] => { results := [.lit (.bool false)], args := [d1, d2, d3] }
  | _ => none }
def FnExactDropOfWrongFalsely : Prop := fnExactDropOfRow.holds Try.pinned (OpenSpec.ofChange fnExactDropOfWrong)

/-- 'laws.FnExactFirstHit': WHATEVER THE INPUT: true; the input reads as it did. -/
def fnExactFirstHitSpec : ChangeSpec := { name := "fnExactFirstHit", fn := fun _ => fun
  | [d1, d2, d3, d4] => { results := [.lit (.bool true)], args := [d1, d2, d3, d4] }
  | _ => none }
def fnExactFirstHitRow : OpenClaim := { program := "ytlgnclocdblbmaa", sum := "825c5054c5066859f8b549fcdb19c37e8fc76d16b8c6c111e0ee222c3ffcdbb1", func := "loop.example/g01013/laws.FnExactFirstHit", spec := "fnExactFirstHit", unfollowed := true, recurses := true, apart := false }
def FnExactFirstHitSaid : Prop := fnExactFirstHitRow.holds Try.pinned (OpenSpec.ofChange fnExactFirstHitSpec)

/-- ITS FALSE NEIGHBOUR: 'it returns false'. Refute it at one input. -/
def fnExactFirstHitWrong : ChangeSpec := { name := "fnExactFirstHit", fn := fun _ => fun
  | [d1, d2, d3, d4] => { results := [.lit (.bool false)], args := [d1, d2, d3, d4] }
  | _ => none }
def FnExactFirstHitWrongFalsely : Prop := fnExactFirstHitRow.holds Try.pinned (OpenSpec.ofChange fnExactFirstHitWrong)

/-- 'laws.FnRunout': WHATEVER THE INPUT: true; the input reads as it did. -/
def fnRunoutSpec : ChangeSpec := { name := "fnRunout", fn := fun _ => fun
  | [d1, d2] => { results := [.lit (.bool true)], args := [d1, d2] }
  | _ => none }
def fnRunoutRow : OpenClaim := { program := "ytlgnclocdblbmaa", sum := "825c5054c5066859f8b549fcdb19c37e8fc76d16b8c6c111e0ee222c3ffcdbb1", func := "loop.example/g01013/laws.FnRunout", spec := "fnRunout", unfollowed := true, recurses := true, apart := false }
def FnRunoutSaid : Prop := fnRunoutRow.holds Try.pinned (OpenSpec.ofChange fnRunoutSpec)

/-- ITS FALSE NEIGHBOUR: 'it returns false'. Refute it at one input. -/
def fnRunoutWrong : ChangeSpec := { name := "fnRunout", fn := fun _ => fun
  | [d1, d2] => { results := [.lit (.bool false)], args := [d1, d2] }
  | _ => none }
def FnRunoutWrongFalsely : Prop := fnRunoutRow.holds Try.pinned (OpenSpec.ofChange fnRunoutWrong)

/-- 'laws.FnExactFrictionFor': WHATEVER THE INPUT: true; the input reads as it did. -/
def fnExactFrictionForSpec : ChangeSpec := { name := "fnExactFrictionFor", fn := fun _ => fun
  | [d1, d2, d3] => { results := [.lit (.bool true)], args := [d1, d2, d3] }
  | _ => none }
def fnExactFrictionForRow : OpenClaim := { program := "ytlgnclocdblbmaa", sum := "825c5054c5066859f8b549fcdb19c37e8fc76d16b8c6c111e0ee222c3ffcdbb1", func := "loop.example/g01013/laws.FnExactFrictionFor", spec := "fnExactFrictionFor", unfollowed := true, recurses := true, apart := false }
def FnExactFrictionForSaid : Prop := fnExactFrictionForRow.holds Try.pinned (OpenSpec.ofChange fnExactFrictionForSpec)

/-- ITS FALSE NEIGHBOUR: 'it returns false'. Refute it at one input. -/
def fnExactFrictionForWrong : ChangeSpec := { name := "fnExactFrictionFor", fn := fun _ => fun
  | [d1, d2, d3] => { results := [.lit (.bool false)], args := [d1, d2, d3] }
  | _ => none }
def FnExactFrictionForWrongFalsely : Prop := fnExactFrictionForRow.holds Try.pinned (OpenSpec.ofChange fnExactFrictionForWrong)

/- THE SECOND FORM. 'bulk': how many values and letters a reading holds, each counted each time it is reached (what is shared counts as often as it is met; a slice's spare places count too). A statement '..UptoSaid' is the law's where the arguments, and the package variables that the reading takes, are together of bulk at most 1048576: NARROWER than '..Said'. Prove '..Said' where nothing that the law and all that it calls make is longer than what came in: it says more and counts as full. Else prove '..UptoSaid'. A law counts once. -/
mutual
def uptoBulk {H : Type} : DataW H → Nat
  | .lit (.string bytes) => bytes.length + 1
  | .lit _ => 1
  | .nil => 1
  | .ptr d => uptoBulk d + 1
  | .slice elems spare => uptoBulkAll elems + uptoBulkAll spare + 1
  | .agg parts => uptoBulkAll parts + 1
  | .iface _ d => uptoBulk d + 1
  | .map entries => uptoBulkEntries entries + 1
  | .held _ => 1
def uptoBulkAll {H : Type} : List (DataW H) → Nat
  | [] => 0
  | d :: r => uptoBulk d + uptoBulkAll r
def uptoBulkEntries {H : Type} : List (Lit × DataW H) → Nat
  | [] => 0
  | x :: r => uptoBulkEntry x + uptoBulkEntries r
def uptoBulkEntry {H : Type} : Lit × DataW H → Nat
  | (.string bytes, d) => bytes.length + uptoBulk d + 1
  | (_, d) => uptoBulk d + 1
 end
def uptoSmall : (H : Type) → List (DataW H) → Bool := fun _ ds => decide (uptoBulkAll ds ≤ 1048576)
def OpenSpec.upto (s : _root_.Go.ChangeSpec) : _root_.Go.OpenSpec := { _root_.Go.OpenSpec.ofChange s with cond := some uptoSmall }

/-- 'laws.FnExactValidAssets', WHERE WHAT IT READS IS OF BULK AT MOST 1048576: true; the input reads as it did. -/
def fnExactValidAssetsUptoRow : OpenClaim := { program := "ytlgnclocdblbmaa", sum := "825c5054c5066859f8b549fcdb19c37e8fc76d16b8c6c111e0ee222c3ffcdbb1", func := "loop.example/g01013/laws.FnExactValidAssets", spec := "fnExactValidAssets", unfollowed := true, recurses := true, apart := false, narrowed := true }
def FnExactValidAssetsUptoSaid : Prop := fnExactValidAssetsUptoRow.holds Try.pinned (OpenSpec.upto fnExactValidAssetsSpec)

/-- 'laws.FnExactExposedWorth', WHERE WHAT IT READS IS OF BULK AT MOST 1048576: true; the input reads as it did. -/
def fnExactExposedWorthUptoRow : OpenClaim := { program := "ytlgnclocdblbmaa", sum := "825c5054c5066859f8b549fcdb19c37e8fc76d16b8c6c111e0ee222c3ffcdbb1", func := "loop.example/g01013/laws.FnExactExposedWorth", spec := "fnExactExposedWorth", unfollowed := true, recurses := true, apart := false, narrowed := true }
def FnExactExposedWorthUptoSaid : Prop := fnExactExposedWorthUptoRow.holds Try.pinned (OpenSpec.upto fnExactExposedWorthSpec)

/-- 'laws.FnExactExposedAssets', WHERE WHAT IT READS IS OF BULK AT MOST 1048576: true; the input reads as it did. -/
def fnExactExposedAssetsUptoRow : OpenClaim := { program := "ytlgnclocdblbmaa", sum := "825c5054c5066859f8b549fcdb19c37e8fc76d16b8c6c111e0ee222c3ffcdbb1", func := "loop.example/g01013/laws.FnExactExposedAssets", spec := "fnExactExposedAssets", unfollowed := true, recurses := true, apart := false, narrowed := true }
def FnExactExposedAssetsUptoSaid : Prop := fnExactExposedAssetsUptoRow.holds Try.pinned (OpenSpec.upto fnExactExposedAssetsSpec)

/-- 'laws.FnExactRunMass', WHERE WHAT IT READS IS OF BULK AT MOST 1048576: true; the input reads as it did. -/
def fnExactRunMassUptoRow : OpenClaim := { program := "ytlgnclocdblbmaa", sum := "825c5054c5066859f8b549fcdb19c37e8fc76d16b8c6c111e0ee222c3ffcdbb1", func := "loop.example/g01013/laws.FnExactRunMass", spec := "fnExactRunMass", unfollowed := true, recurses := true, apart := false, narrowed := true }
def FnExactRunMassUptoSaid : Prop := fnExactRunMassUptoRow.holds Try.pinned (OpenSpec.upto fnExactRunMassSpec)

/-- 'laws.FnExactReachedBy', WHERE WHAT IT READS IS OF BULK AT MOST 1048576: true; the input reads as it did. -/
def fnExactReachedByUptoRow : OpenClaim := { program := "ytlgnclocdblbmaa", sum := "825c5054c5066859f8b549fcdb19c37e8fc76d16b8c6c111e0ee222c3ffcdbb1", func := "loop.example/g01013/laws.FnExactReachedBy", spec := "fnExactReachedBy", unfollowed := true, recurses := true, apart := false, narrowed := true }
def FnExactReachedByUptoSaid : Prop := fnExactReachedByUptoRow.holds Try.pinned (OpenSpec.upto fnExactReachedBySpec)

/-- 'laws.FnExactLowestOf', WHERE WHAT IT READS IS OF BULK AT MOST 1048576: true; the input reads as it did. -/
def fnExactLowestOfUptoRow : OpenClaim := { program := "ytlgnclocdblbmaa", sum := "825c5054c5066859f8b549fcdb19c37e8fc76d16b8c6c111e0ee222c3ffcdbb1", func := "loop.example/g01013/laws.FnExactLowestOf", spec := "fnExactLowestOf", unfollowed := true, recurses := true, apart := false, narrowed := true }
def FnExactLowestOfUptoSaid : Prop := fnExactLowestOfUptoRow.holds Try.pinned (OpenSpec.upto fnExactLowestOfSpec)

/-- 'laws.FnExactDropOf', WHERE WHAT IT READS IS OF BULK AT MOST 1048576: true; the input reads as it did. -/
def fnExactDropOfUptoRow : OpenClaim := { program := "ytlgnclocdblbmaa", sum := "825c5054c5066859f8b549fcdb19c37e8fc76d16b8c6c111e0ee222c3ffcdbb1", func := "loop.example/g01013/laws.FnExactDropOf", spec := "fnExactDropOf", unfollowed := true, recurses := true, apart := false, narrowed := true }
def FnExactDropOfUptoSaid : Prop := fnExactDropOfUptoRow.holds Try.pinned (OpenSpec.upto fnExactDropOfSpec)

/-- 'laws.FnExactFirstHit', WHERE WHAT IT READS IS OF BULK AT MOST 1048576: true; the input reads as it did. -/
def fnExactFirstHitUptoRow : OpenClaim := { program := "ytlgnclocdblbmaa", sum := "825c5054c5066859f8b549fcdb19c37e8fc76d16b8c6c111e0ee222c3ffcdbb1", func := "loop.example/g01013/laws.FnExactFirstHit", spec := "fnExactFirstHit", unfollowed := true, recurses := true, apart := false, narrowed := true }
def FnExactFirstHitUptoSaid : Prop := fnExactFirstHitUptoRow.holds Try.pinned (OpenSpec.upto fnExactFirstHitSpec)

/-- 'laws.FnRunout', WHERE WHAT IT READS IS OF BULK AT MOST 1048576: true; the input reads as it did. -/
def fnRunoutUptoRow : OpenClaim := { program := "ytlgnclocdblbmaa", sum := "825c5054c5066859f8b549fcdb19c37e8fc76d16b8c6c111e0ee222c3ffcdbb1", func := "loop.example/g01013/laws.FnRunout", spec := "fnRunout", unfollowed := true, recurses := true, apart := false, narrowed := true }
def FnRunoutUptoSaid : Prop := fnRunoutUptoRow.holds Try.pinned (OpenSpec.upto fnRunoutSpec)

/-- 'laws.FnExactFrictionFor', WHERE WHAT IT READS IS OF BULK AT MOST 1048576: true; the input reads as it did. -/
def fnExactFrictionForUptoRow : OpenClaim := { program := "ytlgnclocdblbmaa", sum := "825c5054c5066859f8b549fcdb19c37e8fc76d16b8c6c111e0ee222c3ffcdbb1", func := "loop.example/g01013/laws.FnExactFrictionFor", spec := "fnExactFrictionFor", unfollowed := true, recurses := true, apart := false, narrowed := true }
def FnExactFrictionForUptoSaid : Prop := fnExactFrictionForUptoRow.holds Try.pinned (OpenSpec.upto fnExactFrictionForSpec)

end Rows
end Go.Proofs.Ytlgnclocdblbmaa
