/- Walks of the reference: New; Pending of an empty row. -/
import Derived.Test.YtbimkhdiplnbfaaW2
import Derived.Laws.MakeOwn
namespace Go.Proofs.Ytbimkhdiplnbfaa
open Go.RowKit Go.Deep

theorem Try.info56all : (Try.prog.info? 56).map (fun i => (i.zero, i.size, i.bytes)) = some (some (.agg (bcells zblk).toArray), 64, 64) := by kernel_rfl

set_option maxRecDepth 100000 in
set_option maxHeartbeats 1000000 in
theorem refNew_run (n : Nat) (w : World) (hn : 1 ≤ n ∧ n ≤ 2048) :
    Calls Try.prog 43 #[.int .i64 n] w fun e w' => (∃ g, e = .returned (.agg #[.slice (some ⟨g, 0, none⟩) n n, .slice none 0 0, .int .i64 0, .int .i64 (-1), .int .i64 (-1), .bool false]) ∧ w.heap.size ≤ g ∧ w'.heap[g]? = some (.cells (madeCells (bcells zblk).toArray (n * 64)) 56 (0, 0))) ∧ Upd (fun _ => False) w w' := by
  have hmk : ∀ W, (Instr.makeSlice 66 (.int .i64 n) (.int .i64 n)).run Try.prog W = .ok (.slice (some ⟨W.heap.size, 0, none⟩) n n) (W.alloc (.cells (madeCells (bcells zblk).toArray (n * 64)) 56)) := fun W => by
    obtain ⟨i, hi, hz⟩ := Option.map_eq_some_iff.1 Try.info56all
    simp only [Prod.mk.injEq] at hz
    obtain ⟨h1, h2, h3⟩ := hz
    have := run_make (P := Try.prog) W 66 56 i _ Try.underlying66 hi h1 .i64 .i64 n n (by omega) (Int.le_refl _) (by rw [h3]; omega) (by omega)
    simpa only [Int.toNat_natCast, h2, Value.cells] using this
  generalize madeCells (bcells zblk).toArray (n * 64) = mc at *
  go_enter Try.func43, Try.ntmps43
  go_wp2
  obtain ⟨wf, hwf⟩ : ∃ wf, wf = (w.alloc (.cells #[.slice (some ⟨w.heap.size + 1, 0, none⟩) n n, .slice none 0 0, .int .i64 0, .int .i64 (-1), .int .i64 (-1), .bool false] 69)).alloc (.cells mc 56) := ⟨_, rfl⟩
  rw [← hwf]
  have h1 : wf.heap[w.heap.size]? = some (.cells #[.slice (some ⟨w.heap.size + 1, 0, none⟩) n n, .slice none 0 0, .int .i64 0, .int .i64 (-1), .int .i64 (-1), .bool false] 69 (0, 0)) := by rw [hwf]; exact (alloc_lt (by simp)).trans (alloc_at rfl)
  have h2 : wf.heap[w.heap.size + 1]? = some (.cells mc 56 (0, 0)) := by rw [hwf]; exact alloc_at (by simp)
  have hl3 := run_loadVar_mid (P := Try.prog) wf w.heap.size 0 69 [.slice (some ⟨w.heap.size + 1, 0, none⟩) n n, .slice none 0 0, .int .i64 0, .int .i64 (-1), .int .i64 (-1), .bool false] _ (rangeAt_block h1) Try.underlying69 rfl (by kernel_rfl)
  refine bodyPost_ret (results_cell1 Try.results43 rfl hl3) rfl ⟨⟨w.heap.size + 1, rfl, by omega, h2⟩, ?_⟩
  rw [hwf]
  exact ((Upd.refl _ w).alloc _).alloc _

set_option maxRecDepth 100000 in
set_option maxHeartbeats 1000000 in
/-- Of an empty row. -/
theorem refPending_nil (Aa : Option Addr) (An Ac : Nat) (o ar fl : Int) (dd : Bool) (w : World) :
    Calls Try.prog 96 #[.agg #[.slice Aa An Ac, .slice none 0 0, .int .i64 o, .int .i64 ar, .int .i64 fl, .bool dd]] w fun e w' => e = .returned (.slice none 0 0) ∧ Upd (fun _ => False) w w' := by
  have hu : Upd (fun _ => False) w (w.alloc (.cells #[.slice Aa An Ac, .slice none 0 0, .int .i64 o, .int .i64 ar, .int .i64 fl, .bool dd] 69)) := (Upd.refl _ w).alloc _
  have HU := Lib.hid hu
  clear hu
  go_enter Try.func96, Try.ntmps96
  go_wp2
  go_loopg [3, 9] 0 (fun g u i wr => g = 0 ∧ u = .slice none 0 0 ∧ i = .int .i64 0 ∧ Upd (fun _ => False) w wr)
  case atStart => exact ⟨rfl, rfl, rfl, HU.out⟩
  case round =>
    obtain ⟨rfl, rfl, rfl, hu⟩ := hrel
    have HU2 := Lib.hid hu
    clear hu
    go_wp2
    go_ret
    exact ⟨rfl, HU2.out⟩

end Go.Proofs.Ytbimkhdiplnbfaa
