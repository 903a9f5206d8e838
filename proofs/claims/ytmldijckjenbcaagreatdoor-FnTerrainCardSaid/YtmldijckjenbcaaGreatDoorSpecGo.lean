/- The reference's step from a cell to its neighbour (l09Go) and the slope of it (l09Fall). -/
import Derived.Test.YtmldijckjenbcaaGreatDoorBase
import Derived.Test.YtmldijckjenbcaaGreatDoorMem
import Derived.Test.YtmldijckjenbcaaGreatDoorTInt64
import Derived.Test.YtmldijckjenbcaaGreatDoorWithin
import Derived.Test.YtmldijckjenbcaaGreatDoorTGrid
import Derived.Test.YtmldijckjenbcaaGreatDoorGrids
import Derived.Test.YtmldijckjenbcaaGreatDoorWays
import Derived.Deep.RegionHeld3
namespace Go.Proofs.YtmldijckjenbcaaGreatDoor
open Go.RowKit

def goS (g : Grid) (c k : Nat) : Int := if inC g c k then goC g c k else -1


end Go.Proofs.YtmldijckjenbcaaGreatDoor
