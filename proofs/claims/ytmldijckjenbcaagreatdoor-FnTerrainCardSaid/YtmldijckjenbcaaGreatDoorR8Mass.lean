/- The masses that the laws of the routing draw. -/
import Derived.Test.YtmldijckjenbcaaGreatDoorBase
import Derived.Test.YtmldijckjenbcaaGreatDoorMem
import Derived.Test.YtmldijckjenbcaaGreatDoorTInt64
import Derived.Test.YtmldijckjenbcaaGreatDoorTGrid
import Derived.Test.YtmldijckjenbcaaGreatDoorPush2
import Derived.Test.YtmldijckjenbcaaGreatDoorSrc
import Derived.Test.YtmldijckjenbcaaGreatDoorSrcK
namespace Go.Proofs.YtmldijckjenbcaaGreatDoor
open Go.RowKit


end Go.Proofs.YtmldijckjenbcaaGreatDoor
