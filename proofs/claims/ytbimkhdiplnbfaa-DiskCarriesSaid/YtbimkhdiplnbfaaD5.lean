/- Walks of the disk: Crash's closure. -/
import Derived.Test.YtbimkhdiplnbfaaD4
namespace Go.Proofs.Ytbimkhdiplnbfaa
open Go.RowKit

theorem lost_run {kb mb m : Nat} {M : DataW Empty} (v : List Int × Int) (w : World) (hv : okBlk v.1) (hn : 0 ≤ v.2 ∧ v.2 ≤ 1099511627774) (hb : w.heap[kb]? = some (.cells #[.map (some mb)] 138 (0, 0))) (hown : w.ownsMap Try.prog 3 (plainElem Try.prog 4) mb m M) :
    Calls Try.prog 89 (#[.agg (vcells v).toArray] ++ #[.pointer (some ⟨kb, 0, none⟩)]) w fun e w' => e = .returned (.bool (!keptOf M v.2)) ∧ Upd (fun _ => False) w w' := by
  have hl := look_bool (hown.alloc (.cells (vcells v).toArray 130)) (n := v.2) (by omega)
  have hc : (w.alloc (.cells (vcells v).toArray 130)).cell? ⟨w.heap.size, 64, none⟩ = some (.int .i64 v.2) := by
    rw [cell_of_heap (alloc_at rfl)]; simp [vcells, hv.1]
  have hk : (w.alloc (.cells (vcells v).toArray 130)).cell? ⟨kb, 0, none⟩ = some (.map (some mb)) := cells1_of ((alloc_lt (lt_of_heap hb)).trans hb)
  clear hb hown hv hn
  show Calls Try.prog 89 #[.agg (vcells v).toArray, .pointer (some ⟨kb, 0, none⟩)] w _
  generalize keptOf M v.2 = kk at *
  generalize v.2 = nn at *
  generalize vcells v = cs at *
  go_enter Try.func89, Try.ntmps89
  go_wp2
  go_ret
  exact ⟨rfl, (Upd.refl _ w).alloc _⟩

end Go.Proofs.Ytbimkhdiplnbfaa
