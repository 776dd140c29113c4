/- Walks of the disk: Crash over the disk as a value. -/
import Derived.Test.YtbimkhdiplnbfaaGreatY28
import Derived.Test.YtbimkhdiplnbfaaGreatY32
set_option linter.unusedVariables false
set_option linter.unusedSimpArgs false
namespace Go.Proofs.YtbimkhdiplnbfaaGreat
set_option maxRecDepth 1000000
set_option maxHeartbeats 16000000
section
open Go.RowKit
theorem crash_any {p : Nat} {D : Dk} {F : Nat → Prop} (w : World) (ka : Option Addr) (kc : Nat) (keep : List Bool) (hk : BoolsAt w ka keep) (hkl : keep.length ≤ 1099511627776) (h : Dsk w p D F) (hok : D.Ok 1099511627774) :
  Calls Tryz.prog 16 #[.pointer (some ⟨p, 0, none⟩), .slice ka keep.length kc] w fun e w' => e = .returned (.int .i64 0) ∧ Left w p (D.crash keep) F w' := by
 obtain ⟨R, hR⟩ := row_els hok (Nat.le_refl _)
 have hl : R.length = D.row.length := by rw [← hR]; simp
 have hrl := hok.rowlen
 exact crash_run w ka kc keep R hk hkl h hok hR (by omega) (fun W hu => row_any W (h.kept hu (fun _ _ e => e)) hok hR)
end
end Go.Proofs.YtbimkhdiplnbfaaGreat
