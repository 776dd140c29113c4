/- Walks of the disk: the sorted row in memory. -/
import Derived.Test.YtbimkhdiplnbfaaGreatY12
import Derived.Shelf.GgSortFunc.InsertionK

namespace Go.Proofs.YtbimkhdiplnbfaaGreat
set_option maxRecDepth 100000
open Go.RowKit Go.Sort

end Go.Proofs.YtbimkhdiplnbfaaGreat
