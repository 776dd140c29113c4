/- Walks of the laws: slices.Repeat of one byte, Call.block, wide. -/
import Derived.Test.YtbimkhdiplnbfaaGreatY4
import Derived.Test.YtbimkhdiplnbfaaGreatY5
import Derived.Laws.CopyOwn
import Derived.Laws.CopyRow
set_option linter.unusedVariables false
set_option linter.unusedSimpArgs false
namespace Go.Proofs.YtbimkhdiplnbfaaGreat
set_option maxRecDepth 1000000
set_option maxHeartbeats 16000000
section
open Go.RowKit Go.Deep
theorem results_cell1 {P : Program} {fn : Func} {ts : Array Value} {w : World} {a : Nat} {t : TypeId} {p : Addr} {v : Value} (hr : fn.results = #[.cell a t]) (ha : ts.getD a undef = .pointer (some p)) (hl : (loadVar t p).run P w = .ok v w) :
  (Go.results fn ts).run P w = .ok v w := by
 unfold Go.results
 rw [hr]
 have ha' : ts[a]?.getD undef = .pointer (some p) := by simpa using ha
 simp [asAddr, ha', hl]
end
end Go.Proofs.YtbimkhdiplnbfaaGreat
