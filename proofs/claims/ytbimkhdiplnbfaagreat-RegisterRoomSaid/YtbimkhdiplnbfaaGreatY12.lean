/- Walks of the disk: row's order. -/
import Derived.Test.YtbimkhdiplnbfaaGreatY5
import Derived.Sort.Statements
set_option linter.unusedVariables false
set_option linter.unusedSimpArgs false

namespace Go.Proofs.YtbimkhdiplnbfaaGreat
set_option maxRecDepth 100000
open Go.RowKit

abbrev El : Type := { x : Nat × List Int × Int // x.2.1.length = 64 ∧ 0 ≤ x.2.2 ∧ x.2.2 ≤ 2199023255552 }
instance : Inhabited El := ⟨⟨(0, zblk, 0), by simp [zblk], by simp, by simp⟩⟩
end Go.Proofs.YtbimkhdiplnbfaaGreat
