/- The library's Index, Contains and Clone at []int64, and the reference's look for a number and its copy. -/
import Derived.Test.YtpibiieibofggaaBase
import Derived.Test.YtpibiieibofggaaMem
import Derived.Test.YtpibiieibofggaaTInt64
import Derived.Test.YtpibiieibofggaaHasP
import Derived.Test.YtpibiieibofggaaOwn2
import Derived.Maps.AppendAt
namespace Go.Proofs.Ytpibiieibofggaa
open Go.RowKit


end Go.Proofs.Ytpibiieibofggaa
