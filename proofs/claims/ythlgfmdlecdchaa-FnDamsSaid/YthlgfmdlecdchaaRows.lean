/-
  No cell of these rows narrows 'for every input' (looked for: loops, veiled, ifaces, maps, wideKeys, modest, calm, conditions, laid).
  DERIVED. THE GIVEN ROWS OF THIS SEAT. 3 by the template 'for every input the law returns true; each argument reads behind the call as it read before'; 0 by the template 'total and deterministic' (their statements: YthlgfmdlecdchaaTotals.lean).
  GIVEN WITH THE SEED: the statements are not yours to turn. If you find one false, say at which input.
  Laid BY PROGRAM, IN A SANDBOX (cutbox-rows.mjs): the forced cells as the released guide's own fill.sh prints them over the translation 36e3c828c4b1df1e… (all of the seat's roots in one cut). By AI agents, Wed Nov 11 2026. No macro, syntax, notation, axiom, sorry.
-/
import Derived.Test.YthlgfmdlecdchaaChecked
import GoSem.Claim
import GoSem.ClaimJoined
import GoSem.ClaimMapViews
import Derived.JoinedTies
import Derived.KernelRfl
namespace Go.Proofs.Ythlgfmdlecdchaa
/- THE CELL 'sum', in the pinned program and in every row, IS THE sha256 OF THE DUMP (.gsa) THAT YthlgfmdlecdchaaProg.lean LOADS. Nothing in Lean hashes anything: it is a label: what it is worth is what the hold of that sum in a sandbox is worth. -/
noncomputable def Try.pinned : Pinned := { name := "ythlgfmdlecdchaa", sum := "36e3c828c4b1df1e59cc29243ff9ba15f0c1873c5c8044870ef8eff3f4f84a1f", checked := Try.checked }
namespace Rows
def none {H : Type} : Left H := { results := [], args := [] }

/-- 'laws.FnRunout': WHATEVER THE INPUT: true; the input reads as it did. -/
def fnRunoutSpec : ChangeSpec := { name := "fnRunout", fn := fun _ => fun
  | [d1, d2] => { results := [.lit (.bool true)], args := [d1, d2] }
  | _ => none }
def fnRunoutRow : OpenClaim := { program := "ythlgfmdlecdchaa", sum := "36e3c828c4b1df1e59cc29243ff9ba15f0c1873c5c8044870ef8eff3f4f84a1f", func := "loop.example/g01013/laws.FnRunout", spec := "fnRunout", unfollowed := true, recurses := true, apart := false }
def FnRunoutSaid : Prop := fnRunoutRow.holds Try.pinned (OpenSpec.ofChange fnRunoutSpec)

/-- ITS FALSE NEIGHBOUR: 'it returns false'. Refute it at one input. -/
def fnRunoutWrong : ChangeSpec := { name := "fnRunout", fn := fun _ => fun
  | [d1, d2] => { results := [.lit (.bool false)], args := [d1, d2] }
  | _ => none }
def FnRunoutWrongFalsely : Prop := fnRunoutRow.holds Try.pinned (OpenSpec.ofChange fnRunoutWrong)

/-- 'laws.FnExactBestDam': WHATEVER THE INPUT: true; the input reads as it did. -/
def fnExactBestDamSpec : ChangeSpec := { name := "fnExactBestDam", fn := fun _ => fun
  | [d1, d2, d3, d4, d5] => { results := [.lit (.bool true)], args := [d1, d2, d3, d4, d5] }
  | _ => none }
def fnExactBestDamRow : OpenClaim := { program := "ythlgfmdlecdchaa", sum := "36e3c828c4b1df1e59cc29243ff9ba15f0c1873c5c8044870ef8eff3f4f84a1f", func := "loop.example/g01013/laws.FnExactBestDam", spec := "fnExactBestDam", unfollowed := true, recurses := true, apart := false }
def FnExactBestDamSaid : Prop := fnExactBestDamRow.holds Try.pinned (OpenSpec.ofChange fnExactBestDamSpec)

/-- ITS FALSE NEIGHBOUR: 'it returns false'. Refute it at one input. -/
def fnExactBestDamWrong : ChangeSpec := { name := "fnExactBestDam", fn := fun _ => fun
  | [d1, d2, d3, d4, d5] => { results := [.lit (.bool false)], args := [d1, d2, d3, d4, d5] }
  | _ => none }
def FnExactBestDamWrongFalsely : Prop := fnExactBestDamRow.holds Try.pinned (OpenSpec.ofChange fnExactBestDamWrong)

/-- 'laws.FnDams': WHATEVER THE INPUT: true; the input reads as it did. -/
def fnDamsSpec : ChangeSpec := { name := "fnDams", fn := fun _ => fun
  | [d1, d2] => { results := [.lit (.bool true)], args := [d1, d2] }
  | _ => none }
def fnDamsRow : OpenClaim := { program := "ythlgfmdlecdchaa", sum := "36e3c828c4b1df1e59cc29243ff9ba15f0c1873c5c8044870ef8eff3f4f84a1f", func := "loop.example/g01013/laws.FnDams", spec := "fnDams", unfollowed := true, recurses := true, apart := false }
def FnDamsSaid : Prop := fnDamsRow.holds Try.pinned (OpenSpec.ofChange fnDamsSpec)

/-- ITS FALSE NEIGHBOUR: 'it returns false'. Refute it at one input. -/
def fnDamsWrong : ChangeSpec := { name := "fnDams", fn := fun _ => fun
  | [d1, d2] => { results := [.lit (.bool false)], args := [d1, d2] }
  | _ => none }
def FnDamsWrongFalsely : Prop := fnDamsRow.holds Try.pinned (OpenSpec.ofChange fnDamsWrong)

/- THE SECOND FORM. 'bulk': how many values and letters a reading holds, each counted each time it is reached (what is shared counts as often as it is met; a slice's spare places count too). A statement '..UptoSaid' is the law's where the arguments, and the package variables that the reading takes, are together of bulk at most 1048576: NARROWER than '..Said'. Prove '..Said' where nothing that the law and all that it calls make is longer than what came in: it says more and counts as full. Else prove '..UptoSaid'. A law counts once. -/
mutual
def uptoBulk {H : Type} : DataW H → Nat
  | .lit (.string bytes) => bytes.length + 1
  | .lit _ => 1
  | .nil => 1
  | .ptr d => uptoBulk d + 1
  | .slice elems spare => uptoBulkAll elems + uptoBulkAll spare + 1
  | .agg parts => uptoBulkAll parts + 1
  | .iface _ d => uptoBulk d + 1
  | .map entries => uptoBulkEntries entries + 1
  | .held _ => 1
def uptoBulkAll {H : Type} : List (DataW H) → Nat
  | [] => 0
  | d :: r => uptoBulk d + uptoBulkAll r
def uptoBulkEntries {H : Type} : List (Lit × DataW H) → Nat
  | [] => 0
  | x :: r => uptoBulkEntry x + uptoBulkEntries r
def uptoBulkEntry {H : Type} : Lit × DataW H → Nat
  | (.string bytes, d) => bytes.length + uptoBulk d + 1
  | (_, d) => uptoBulk d + 1
 end
def uptoSmall : (H : Type) → List (DataW H) → Bool := fun _ ds => decide (uptoBulkAll ds ≤ 1048576)
def OpenSpec.upto (s : _root_.Go.ChangeSpec) : _root_.Go.OpenSpec := { _root_.Go.OpenSpec.ofChange s with cond := some uptoSmall }

/-- 'laws.FnRunout', WHERE WHAT IT READS IS OF BULK AT MOST 1048576: true; the input reads as it did. -/
def fnRunoutUptoRow : OpenClaim := { program := "ythlgfmdlecdchaa", sum := "36e3c828c4b1df1e59cc29243ff9ba15f0c1873c5c8044870ef8eff3f4f84a1f", func := "loop.example/g01013/laws.FnRunout", spec := "fnRunout", unfollowed := true, recurses := true, apart := false, narrowed := true }
def FnRunoutUptoSaid : Prop := fnRunoutUptoRow.holds Try.pinned (OpenSpec.upto fnRunoutSpec)

/-- 'laws.FnExactBestDam', WHERE WHAT IT READS IS OF BULK AT MOST 1048576: true; the input reads as it did. -/
def fnExactBestDamUptoRow : OpenClaim := { program := "ythlgfmdlecdchaa", sum := "36e3c828c4b1df1e59cc29243ff9ba15f0c1873c5c8044870ef8eff3f4f84a1f", func := "loop.example/g01013/laws.FnExactBestDam", spec := "fnExactBestDam", unfollowed := true, recurses := true, apart := false, narrowed := true }
def FnExactBestDamUptoSaid : Prop := fnExactBestDamUptoRow.holds Try.pinned (OpenSpec.upto fnExactBestDamSpec)

/-- 'laws.FnDams', WHERE WHAT IT READS IS OF BULK AT MOST 1048576: true; the input reads as it did. -/
def fnDamsUptoRow : OpenClaim := { program := "ythlgfmdlecdchaa", sum := "36e3c828c4b1df1e59cc29243ff9ba15f0c1873c5c8044870ef8eff3f4f84a1f", func := "loop.example/g01013/laws.FnDams", spec := "fnDams", unfollowed := true, recurses := true, apart := false, narrowed := true }
def FnDamsUptoSaid : Prop := fnDamsUptoRow.holds Try.pinned (OpenSpec.upto fnDamsSpec)

end Rows
end Go.Proofs.Ythlgfmdlecdchaa
