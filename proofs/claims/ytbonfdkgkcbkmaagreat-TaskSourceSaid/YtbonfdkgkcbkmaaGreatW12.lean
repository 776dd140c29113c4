/- The library contract on slices.SortFunc at records, in plain words. -/
import Derived.Shelf.SlSortCmp.WholeK
import Derived.Shelf.SlSortCmp.NoneTotal
import Derived.Ground.SlsfProg
import Derived.Test.YtbonfdkgkcbkmaaGreatProg
set_option linter.unusedVariables false
set_option linter.unusedSimpArgs false

namespace Go.Proofs
set_option maxRecDepth 100000
open Go.Shelf
end Go.Proofs
