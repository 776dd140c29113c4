/- The plain law of a log on a disk that may fail, whatever its area: what it is behind a deed, and behind a loss of power. -/
import Derived.Test.YtbimkhdiplnbfaaGreatO3
import Derived.Test.YtbimkhdiplnbfaaGreatO20
import Derived.Test.YtbimkhdiplnbfaaGreatO27
set_option linter.unusedVariables false
set_option linter.unusedSimpArgs false
namespace Go.Proofs.YtbimkhdiplnbfaaGreat
set_option maxRecDepth 1000000
set_option maxHeartbeats 16000000
section
open Go.RowKit
end
section
open Go.RowKit Go.Shelf
end
end Go.Proofs.YtbimkhdiplnbfaaGreat
