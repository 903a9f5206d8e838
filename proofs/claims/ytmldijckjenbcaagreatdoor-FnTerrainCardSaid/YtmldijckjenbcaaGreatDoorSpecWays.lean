/- The reference's slope of a step (l09Fall) and ways down from a cell (l13Ways). -/
import Derived.Test.YtmldijckjenbcaaGreatDoorBase
import Derived.Test.YtmldijckjenbcaaGreatDoorMem
import Derived.Test.YtmldijckjenbcaaGreatDoorTInt64
import Derived.Test.YtmldijckjenbcaaGreatDoorWithin
import Derived.Test.YtmldijckjenbcaaGreatDoorTGrid
import Derived.Test.YtmldijckjenbcaaGreatDoorGrids
import Derived.Test.YtmldijckjenbcaaGreatDoorWays
import Derived.Test.YtmldijckjenbcaaGreatDoorSpecGo
import Derived.Test.YtmldijckjenbcaaGreatDoorPush2
namespace Go.Proofs.YtmldijckjenbcaaGreatDoor
open Go.RowKit

def wayB (g : Grid) (fr : Int) (c : Nat) (x : Stp) : Bool := decide (ht g x.cell < ht g c) && decide (fr ≤ x.slope)
def waysT (g : Grid) (fr : Int) (c k : Nat) : List Stp := (nextT g c k).filter (wayB g fr c)
section
variable {g : Grid} {fr : Int} {c k : Nat}
theorem waysT_out (h : inC g c k = false) : waysT g fr c (k + 1) = waysT g fr c k := by unfold waysT; rw [nextT_out h]
theorem waysT_yes (h : inC g c k = true) (hw : wayB g fr c ⟨goC g c k, k, slC g c k⟩ = true) : waysT g fr c (k + 1) = waysT g fr c k ++ [⟨goC g c k, k, slC g c k⟩] := by
  unfold waysT; rw [nextT_in h, List.filter_append]; simp [hw]
theorem waysT_no (h : inC g c k = true) (hw : wayB g fr c ⟨goC g c k, k, slC g c k⟩ = false) : waysT g fr c (k + 1) = waysT g fr c k := by
  unfold waysT; rw [nextT_in h, List.filter_append]; simp [hw]
theorem waysT_len (g : Grid) (fr : Int) (c k : Nat) : (waysT g fr c k).length ≤ k := Nat.le_trans (List.length_filter_le _ _) (nextT_len g c k)
end


end Go.Proofs.YtmldijckjenbcaaGreatDoor
