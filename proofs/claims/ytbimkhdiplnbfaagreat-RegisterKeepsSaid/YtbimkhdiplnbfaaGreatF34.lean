/- Walks: all sectors of a disk behind a crash (held). -/
import Derived.Test.YtbimkhdiplnbfaaGreatF5
import Derived.Test.YtbimkhdiplnbfaaGreatF18
import Derived.Test.YtbimkhdiplnbfaaGreatF26
import Derived.Test.YtbimkhdiplnbfaaGreatF32
import Derived.Test.YtbimkhdiplnbfaaGreatF33
set_option linter.unusedVariables false
set_option linter.unusedSimpArgs false

namespace Go.Proofs.YtbimkhdiplnbfaaGreat
set_option maxRecDepth 100000
open Go.RowKit Go.Shelf

theorem Tryz.info4q : (Tryz.prog.info? 4).map (fun i => (i.zero, i.size, i.bytes)) = some (some (.bool false), 1, 1) := by kernel_rfl
end Go.Proofs.YtbimkhdiplnbfaaGreat
