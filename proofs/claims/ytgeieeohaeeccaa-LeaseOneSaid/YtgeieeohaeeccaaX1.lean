/- Walks of the lease laws, 1. -/
import Derived.Test.YtgeieeohaeeccaaW9
namespace Go.Proofs.Ytgeieeohaeeccaa
open Go.RowKit

theorem cell_of_heap2 {w : World} {b : Nat} {x y : Value} {t : TypeId} (h : w.heap[b]? = some (.cells #[x, y] t (0, 0))) :
   w.cell? ⟨b, 0, none⟩ = some x ∧ w.cell? ⟨b, 1, none⟩ = some y := by
  simp [World.cell?, h]

theorem set_ne {w : World} {a : Addr} {u : Value} {k : Nat} (h : k ≠ a.block) : (w.setCell a u).heap[k]? = w.heap[k]? := Below.heap_setCell _ _ _ _ h
theorem cells1_of {w : World} {b : Nat} {x : Value} {t : TypeId} (h : w.heap[b]? = some (.cells #[x] t (0, 0))) : w.cell? ⟨b, 0, none⟩ = some x := by simp [World.cell?, h]
theorem cells2_of {w : World} {b : Nat} {x y : Value} {t : TypeId} (h : w.heap[b]? = some (.cells #[x, y] t (0, 0))) : w.cell? ⟨b, 0, none⟩ = some x ∧ w.cell? ⟨b, 1, none⟩ = some y := by simp [World.cell?, h]
theorem cells3_of {w : World} {b : Nat} {x y z : Value} {t : TypeId} (h : w.heap[b]? = some (.cells #[x, y, z] t (0, 0))) : w.cell? ⟨b, 0, none⟩ = some x ∧ w.cell? ⟨b, 1, none⟩ = some y ∧ w.cell? ⟨b, 2, none⟩ = some z := by simp [World.cell?, h]

theorem acq_w1 (w : World) : Calls Try.prog 8 #[.agg #[.int .u64 0, .int .i64 0, .int .i64 0], .int .i64 1, .int .i64 10, .int .i64 5] w fun en w' => en = .returned (.tuple #[.agg #[.int .u64 1, .int .i64 1, .int .i64 15], .int .i64 0]) ∧ Below w.heap.size w w' := acquire_any 0 0 0 1 10 5 w (by omega)
theorem acq_w2 (w : World) : Calls Try.prog 8 #[.agg #[.int .u64 1, .int .i64 1, .int .i64 15], .int .i64 2, .int .i64 14, .int .i64 5] w fun en w' => en = .returned (.tuple #[.agg #[.int .u64 0, .int .i64 0, .int .i64 0], .int .i64 311]) ∧ Below w.heap.size w w' := acquire_any 1 1 15 2 14 5 w (by omega)
theorem acq_w3 (w : World) : Calls Try.prog 8 #[.agg #[.int .u64 1, .int .i64 1, .int .i64 15], .int .i64 2, .int .i64 15, .int .i64 5] w fun en w' => en = .returned (.tuple #[.agg #[.int .u64 2, .int .i64 2, .int .i64 20], .int .i64 0]) ∧ Below w.heap.size w w' := acquire_any 1 1 15 2 15 5 w (by omega)

set_option maxHeartbeats 2000000 in
theorem wakes_any (w : World) :
    Calls Try.prog 7 #[] w fun en w' => en = .returned (.bool true) ∧ Below w.heap.size w w' := by
  go_enter Try.func7, Try.ntmps7
  go_wp2_with (go_at_call 8; fail)
  refine (acq_w1 _).mono ?_; rintro e1 w1 ⟨rfl, hb1⟩
  have z1 := hb1.size
  go_wp2_with (go_at_call 8; fail)
  refine (acq_w2 _).mono ?_; rintro e2 w2 ⟨rfl, hb2⟩
  have hB2 : Below w.heap.size w w2 := Below.step (by go_grown) (by go_size) hb2
  have hz2 := hb2.size; simp at hz2
  have q2 := (hb2.block w1.heap.size (by simp)).trans (alloc_at rfl)
  have c2 := cell_of_heap3 q2
  have l2 := lt_of_heap q2
  have Q2 := Lib.hid q2
  clear q2
  go_wp2_with (go_at_call 8; fail)
  refine (acq_w3 _).mono ?_; rintro e3 w3 ⟨rfl, hb3⟩
  have hB3 : Below w.heap.size w w3 := Below.step (by go_grown) (by go_size) hb3
  have q3 := (hb3.block w1.heap.size (by simp; omega)).trans ((alloc_lt l2).trans Q2.out)
  have c3 := cell_of_heap3 q3
  have l3 := lt_of_heap q3
  clear q3
  go_wp2
  go_ret
  exact ⟨rfl, by go_grown⟩

end Go.Proofs.Ytgeieeohaeeccaa
