/- Walks of the disk: a nil disk. -/
import Derived.Test.YtbimkhdiplnbfaaB6
import Derived.Test.YtbimkhdiplnbfaaA4
namespace Go.Proofs.Ytbimkhdiplnbfaa
open Go.RowKit

set_option maxHeartbeats 400000 in
theorem call_nil (i : Int) (wr : Bool) (f g : Value) (w : World) : Calls Try.prog 82 #[.pointer none, .int .i64 i, .bool wr, f, g] w fun e w' => e = .returned (.int .i64 1) ∧ w = w' := by
  go_enter Try.func82, Try.ntmps82
  go_wp2_with (go_at_call 101; refine (awake_nil _).mono ?_; rintro e w' ⟨rfl, rfl⟩)
  go_ret
  exact ⟨rfl, rfl⟩

set_option maxHeartbeats 400000 in
theorem arm_nil (n : Int) (w : World) : Calls Try.prog 55 #[.pointer none, .int .i64 n] w fun e w' => e = .returned (.int .i64 1) ∧ w = w' := by
  go_enter Try.func55, Try.ntmps55
  go_wp2_with (go_at_call 101; refine (awake_nil _).mono ?_; rintro e w' ⟨rfl, rfl⟩)
  go_ret
  exact ⟨rfl, rfl⟩

set_option maxHeartbeats 400000 in
theorem fail_nil (n : Int) (w : World) : Calls Try.prog 56 #[.pointer none, .int .i64 n] w fun e w' => e = .returned (.int .i64 1) ∧ w = w' := by
  go_enter Try.func56, Try.ntmps56
  go_wp2_with (go_at_call 101; refine (awake_nil _).mono ?_; rintro e w' ⟨rfl, rfl⟩)
  go_ret
  exact ⟨rfl, rfl⟩

set_option maxHeartbeats 400000 in
theorem sync_nil (w : World) : Calls Try.prog 38 #[.pointer none] w fun e w' => e = .returned (.int .i64 1) ∧ Upd (fun _ => False) w w' := by
  go_enter Try.func38, Try.ntmps38
  go_wp2_with (go_at_call 82; refine (call_nil _ _ _ _ _).mono ?_; rintro e w' ⟨rfl, rfl⟩)
  go_ret
  exact ⟨rfl, by repeat (first | exact Upd.refl _ _ | refine Upd.alloc ?_ _)⟩

set_option maxHeartbeats 400000 in
theorem pending_nil (w : World) : Calls Try.prog 52 #[.pointer none] w fun e w' => e = .returned (.slice none 0 0) ∧ Upd (fun _ => False) w w' := by
  go_enter Try.func52, Try.ntmps52
  go_wp2
  go_ret
  exact ⟨rfl, by repeat (first | exact Upd.refl _ _ | refine Upd.alloc ?_ _)⟩

set_option maxRecDepth 8000 in
set_option maxHeartbeats 1000000 in
theorem write_nil (i : Int) (b : List Int) (hb : b.length = 64) (w : World) : Calls Try.prog 34 #[.pointer none, .int .i64 i, .agg (bcells b).toArray] w fun e w' => e = .returned (.int .i64 1) ∧ Upd (fun _ => False) w w' := by
  have HB : RowKit.Hid ((bcells b).length = 64) := Lib.hid (by simp [bcells, hb])
  clear hb
  generalize bcells b = bs at *
  go_enter Try.func34, Try.ntmps34
  go_wp2_with (go_at_call 82; refine (call_nil _ _ _ _ _).mono ?_; rintro e w' ⟨rfl, rfl⟩)
  go_ret
  exact ⟨rfl, by repeat (first | exact Upd.refl _ _ | refine Upd.alloc ?_ _)⟩

set_option maxRecDepth 8000 in
set_option maxHeartbeats 2000000 in
theorem read_nil (i : Int) (w : World) : Calls Try.prog 42 #[.pointer none, .int .i64 i] w fun e w' => e = .returned (.tuple #[.agg (bcells zblk).toArray, .int .i64 1]) ∧ Upd (fun _ => False) w w' := by
  have hbl : (bcells zblk).length = 64 := by simp [bcells, zblk]
  have H1B := Lib.hid (all_oneCell_toArray (bcells_one zblk))
  have hi : (Try.prog.info? 56).map (·.size) = some (bcells zblk).length := by rw [Try.info56p, hbl]
  have HI := Lib.hid hi; have HB := Lib.hid hbl
  clear hbl hi
  go_enter Try.func42, Try.ntmps42
  go_wp2_with fail
  refine (call_nil _ _ _ _ _).mono ?_
  rintro e w' ⟨rfl, h2⟩
  have hb : w'.heap[w.heap.size]? = some (.cells (bcells zblk).toArray 56 (0, 0)) := by rw [← h2]; exact alloc_at rfl
  have hu : Upd (fun _ => False) w w' := by rw [← h2]; exact (Upd.refl _ w).alloc _
  clear h2
  generalize hbs : bcells zblk = bs at *
  have H2 := Lib.hid hb; have HU := Lib.hid hu
  clear hb hu
  simp only []
  iterate 9 go_step
  refine wpList_load_mid rfl 56 (.tmp 4) rfl w.heap.size 0 rfl bs _ (rangeAt_block H2.out) Try.underlying56 rfl HI.out ?_
  iterate 3 go_step
  refine wpList_store_mid rfl 56 (.tmp 4) (.tmp 10) rfl w.heap.size 0 bs.toArray rfl rfl (there_block H2.out) (by rw [HI.out]; simp) H1B.out ?_
  go_wp2
  have hl3 := run_loadVar_mid (P := Try.prog) (w'.setCells w.heap.size 0 bs) w.heap.size 0 56 bs _ (rangeAt_block (heap_setCells_whole (vs := bs) H2.out (by simp))) Try.underlying56 rfl HI.out
  refine bodyPost_ret (results_cell_tmp Try.results42 rfl hl3) rfl ⟨by rw [hbs]; rfl, ?_⟩
  exact (Upd.setCells (F := fun k => w.heap.size ≤ k) (Nat.le_refl _) bs 0 (HU.out.mono (fun _ _ e => e.elim))).mono (fun j hj e => by omega)

end Go.Proofs.Ytbimkhdiplnbfaa
