/- Walks: may a batch be: a set looked at, the names met so far in a map. -/
import Derived.Test.YtbimkhdiplnbfaaGreatY5
import Derived.Test.YtbimkhdiplnbfaaGreatY19
import Derived.Maps.Views
import Derived.Maps.OwnSet
import Derived.StringKeys
import Derived.Lib.Bytes
import Derived.Laws.BytesArg
import Derived.Deep.CutBlock
import Derived.Lib.AppendStr
set_option linter.unusedVariables false
set_option linter.unusedSimpArgs false
namespace Go.Proofs.YtbimkhdiplnbfaaGreat
set_option maxRecDepth 1000000
set_option maxHeartbeats 16000000
section
open Go.RowKit Go.Shelf
end
section
open Go.RowKit
end
section
open Go.RowKit Go.Shelf
def RowC (w : World) (C : Nat → Prop) : Prop := ∀ k, C k → ∃ cs, w.heap[k]? = some (.cells cs 5 (0, 0))
theorem OwnB.bytesAt {w : World} {B : Nat} {v : Value} {bs : List Int} (h : OwnB w B v bs) : BytesAt w (fun k => v.ownBlock = some k) v bs ∧ RowC w (fun k => v.ownBlock = some k) ∧ ∀ k, v.ownBlock = some k → B ≤ k := by
 rcases h.2 with ⟨h1, h2⟩ | ⟨g, cap, cur, rfl, hb, hg, h1, h2, h3, h4⟩
 ·refine ⟨.inl ⟨h1, List.length_eq_zero_iff.1 h2⟩, fun k hk => ?_, fun k hk => ?_⟩ <;> (rw [h1] at hk; simp [Value.ownBlock] at hk)
 ·refine ⟨.inr ⟨g, 0, cap, rfl, rfl, h1, h2, fun i u hi => ?_⟩, fun k hk => ?_, fun k hk => ?_⟩
  ·have := World.ownsRow.cells h rfl i u hi
   rwa [Addr.add_mid] at this
  ·simp [Value.ownBlock] at hk
   subst hk
   exact ⟨_, hg⟩
  ·simp [Value.ownBlock] at hk
   omega
/-! ### The register's reader, once more -/
theorem one_in (w : World) (x : Int) : BytesIn (w.alloc (.cells #[.int .u8 x] 5)) (.slice (some ⟨w.heap.size, 0, none⟩) 1 1) [x] := by
 refine .inr ⟨⟨w.heap.size, 0, none⟩, 1, rfl, by simp, by unfold maxLen; omega, fun i u hi => ?_⟩
 rw [Addr.add_mid, Nat.zero_add, cell_of_heap (alloc_at rfl)]
 simpa [bcells] using hi
end
end Go.Proofs.YtbimkhdiplnbfaaGreat
