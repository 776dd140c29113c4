/- Walks: the law's batch of an op, for a register, with what it has told. -/
import Derived.Test.YtbimkhdiplnbfaaGreatO25
import Derived.Test.YtbimkhdiplnbfaaGreatO29
set_option linter.unusedVariables false
set_option linter.unusedSimpArgs false
namespace Go.Proofs.YtbimkhdiplnbfaaGreat
set_option maxRecDepth 1000000
set_option maxHeartbeats 16000000
section
open Go.RowKit Go.Shelf
end
end Go.Proofs.YtbimkhdiplnbfaaGreat
