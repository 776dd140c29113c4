/- Walks of the lease laws, 2. -/
import Derived.Test.YtgeieeohaeeccaaX1
namespace Go.Proofs.Ytgeieeohaeeccaa
open Go.RowKit

theorem right_chk (e h u : Int) : chk e h u = 0 ∧ right e h u = true ∨ chk e h u = 310 ∧ right e h u = false := by
  unfold chk; cases right e h u <;> simp

set_option maxHeartbeats 2000000 in
theorem leaseAcquires_any (e h u who now span : Int) (w : World) (he : 0 ≤ e) :
    Calls Try.prog 3 #[.agg #[.int .u64 e, .int .i64 h, .int .i64 u], .int .i64 who, .agg #[.int .i64 now, .int .i64 span]] w fun en w' => en = .returned (.bool true) ∧ Below w.heap.size w w' := by
  generalize hZ : acquireF e h u who now span = Z
  obtain ⟨z1, z2, z3, z4⟩ := Z
  have HZ := Lib.hid hZ
  clear hZ
  rcases right_chk e h u with ⟨r1, r2⟩ | ⟨r1, r2⟩
  all_goals
    go_enter Try.func3, Try.ntmps3
    go_wp2_with (go_at_call 7; fail)
    refine (wakes_any _).mono ?_
    rintro e0 w0 ⟨rfl, hb0⟩
    have hB0 : Below w.heap.size w w0 := Below.step (by go_grown) (by go_size) hb0
    have hz0 := hb0.size; try simp at hz0
    have q0_l : w0.heap[w.heap.size]? = some (.cells #[.int .u64 e, .int .i64 h, .int .i64 u] 24 (0, 0)) := (hb0.block (w.heap.size) (by go_size)).trans (by repeat (first | exact alloc_at (by go_size) | refine (alloc_lt (by go_size)).trans ?_ | refine (set_ne (by first | omega | (simp; done) | (simp; omega))).trans ?_))
    have q0_n : w0.heap[w.heap.size + 1]? = some (.cells #[.int .i64 now, .int .i64 span] 26 (0, 0)) := (hb0.block (w.heap.size + 1) (by go_size)).trans (by repeat (first | exact alloc_at (by go_size) | refine (alloc_lt (by go_size)).trans ?_ | refine (set_ne (by first | omega | (simp; done) | (simp; omega))).trans ?_))
    have cq0_l := cells3_of q0_l
    have lq0_l := lt_of_heap q0_l
    have fq0_l : ∀ o, w0.frozen? ⟨w.heap.size, o, none⟩ = false := fun o => frozen_of_heap q0_l
    have cq0_n := cells2_of q0_n
    have lq0_n := lt_of_heap q0_n
    have fq0_n : ∀ o, w0.frozen? ⟨w.heap.size + 1, o, none⟩ = false := fun o => frozen_of_heap q0_n
    have Hq0_l := Lib.hid q0_l; clear q0_l
    have Hq0_n := Lib.hid q0_n; clear q0_n
    go_wp2_with (go_at_call 8; fail)
    refine (acquire_any _ _ _ _ _ _ _ he).mono ?_; rw [HZ.out]
    rintro e1 w1 ⟨rfl, hb1⟩
    have hB1 : Below w.heap.size w w1 := Below.step (by go_grown) (by go_size) hb1
    have hz1 := hb1.size; try simp at hz1
    have q1_l : w1.heap[w.heap.size]? = some (.cells #[.int .u64 e, .int .i64 h, .int .i64 u] 24 (0, 0)) := (hb1.block (w.heap.size) (by go_size)).trans (by repeat (first | exact Hq0_l.out | exact alloc_at (by go_size) | refine (alloc_lt (by go_size)).trans ?_ | refine (set_ne (by first | omega | (simp; done) | (simp; omega))).trans ?_))
    have q1_n : w1.heap[w.heap.size + 1]? = some (.cells #[.int .i64 now, .int .i64 span] 26 (0, 0)) := (hb1.block (w.heap.size + 1) (by go_size)).trans (by repeat (first | exact Hq0_n.out | exact alloc_at (by go_size) | refine (alloc_lt (by go_size)).trans ?_ | refine (set_ne (by first | omega | (simp; done) | (simp; omega))).trans ?_))
    have cq1_l := cells3_of q1_l
    have lq1_l := lt_of_heap q1_l
    have fq1_l : ∀ o, w1.frozen? ⟨w.heap.size, o, none⟩ = false := fun o => frozen_of_heap q1_l
    have cq1_n := cells2_of q1_n
    have lq1_n := lt_of_heap q1_n
    have fq1_n : ∀ o, w1.frozen? ⟨w.heap.size + 1, o, none⟩ = false := fun o => frozen_of_heap q1_n
    have Hq1_l := Lib.hid q1_l; clear q1_l
    have Hq1_n := Lib.hid q1_n; clear q1_n
    clear Hq0_l cq0_l fq0_l Hq0_n cq0_n fq0_n hB0
    go_wp2_with (go_at_call 9; fail)
    refine (refAcquire_any _ _ _ _ _ _ _ he).mono ?_; rw [HZ.out]
    rintro e2 w2 ⟨rfl, hb2⟩
    have hB2 : Below w.heap.size w w2 := Below.step (by go_grown) (by go_size) hb2
    have hz2 := hb2.size; try simp at hz2
    have q2_l : w2.heap[w.heap.size]? = some (.cells #[.int .u64 e, .int .i64 h, .int .i64 u] 24 (0, 0)) := (hb2.block (w.heap.size) (by go_size)).trans (by repeat (first | exact Hq1_l.out | exact alloc_at (by go_size) | refine (alloc_lt (by go_size)).trans ?_ | refine (set_ne (by first | omega | (simp; done) | (simp; omega))).trans ?_))
    have q2_n : w2.heap[w.heap.size + 1]? = some (.cells #[.int .i64 now, .int .i64 span] 26 (0, 0)) := (hb2.block (w.heap.size + 1) (by go_size)).trans (by repeat (first | exact Hq1_n.out | exact alloc_at (by go_size) | refine (alloc_lt (by go_size)).trans ?_ | refine (set_ne (by first | omega | (simp; done) | (simp; omega))).trans ?_))
    have q2_x : w2.heap[w1.heap.size]? = some (.cells #[.int .u64 z2, .int .i64 z3, .int .i64 z4] 24 (0, 0)) := (hb2.block (w1.heap.size) (by go_size)).trans (by repeat (first | exact alloc_at (by go_size) | refine (alloc_lt (by go_size)).trans ?_ | refine (set_ne (by first | omega | (simp; done) | (simp; omega))).trans ?_))
    have cq2_l := cells3_of q2_l
    have lq2_l := lt_of_heap q2_l
    have fq2_l : ∀ o, w2.frozen? ⟨w.heap.size, o, none⟩ = false := fun o => frozen_of_heap q2_l
    have cq2_n := cells2_of q2_n
    have lq2_n := lt_of_heap q2_n
    have fq2_n : ∀ o, w2.frozen? ⟨w.heap.size + 1, o, none⟩ = false := fun o => frozen_of_heap q2_n
    have cq2_x := cells3_of q2_x
    have lq2_x := lt_of_heap q2_x
    have fq2_x : ∀ o, w2.frozen? ⟨w1.heap.size, o, none⟩ = false := fun o => frozen_of_heap q2_x
    have Hq2_l := Lib.hid q2_l; clear q2_l
    have Hq2_n := Lib.hid q2_n; clear q2_n
    have Hq2_x := Lib.hid q2_x; clear q2_x
    clear Hq1_l cq1_l fq1_l Hq1_n cq1_n fq1_n hB1
    go_wp2_with (go_at_call 10; fail)
    refine (check_any _ _ _ _ he).mono ?_
    rintro e3 w3 ⟨rfl, hb3⟩
    have hB3 : Below w.heap.size w w3 := Below.step (by go_grown) (by go_size) hb3
    have hz3 := hb3.size; try simp at hz3
    have q3_l : w3.heap[w.heap.size]? = some (.cells #[.int .u64 e, .int .i64 h, .int .i64 u] 24 (0, 0)) := (hb3.block (w.heap.size) (by go_size)).trans (by repeat (first | exact Hq2_l.out | exact alloc_at (by go_size) | refine (alloc_lt (by go_size)).trans ?_ | refine (set_ne (by first | omega | (simp; done) | (simp; omega))).trans ?_))
    have q3_n : w3.heap[w.heap.size + 1]? = some (.cells #[.int .i64 now, .int .i64 span] 26 (0, 0)) := (hb3.block (w.heap.size + 1) (by go_size)).trans (by repeat (first | exact Hq2_n.out | exact alloc_at (by go_size) | refine (alloc_lt (by go_size)).trans ?_ | refine (set_ne (by first | omega | (simp; done) | (simp; omega))).trans ?_))
    have q3_x : w3.heap[w1.heap.size]? = some (.cells #[.int .u64 z2, .int .i64 z3, .int .i64 z4] 24 (0, 0)) := (hb3.block (w1.heap.size) (by go_size)).trans (by repeat (first | exact Hq2_x.out | exact alloc_at (by go_size) | refine (alloc_lt (by go_size)).trans ?_ | refine (set_ne (by first | omega | (simp; done) | (simp; omega))).trans ?_))
    have q3_y : w3.heap[w2.heap.size]? = some (.cells #[.int .u64 z2, .int .i64 z3, .int .i64 z4] 24 (0, 0)) := (hb3.block (w2.heap.size) (by go_size)).trans (by repeat (first | exact alloc_at (by go_size) | refine (alloc_lt (by go_size)).trans ?_ | refine (set_ne (by first | omega | (simp; done) | (simp; omega))).trans ?_))
    have cq3_l := cells3_of q3_l
    have lq3_l := lt_of_heap q3_l
    have fq3_l : ∀ o, w3.frozen? ⟨w.heap.size, o, none⟩ = false := fun o => frozen_of_heap q3_l
    have cq3_n := cells2_of q3_n
    have lq3_n := lt_of_heap q3_n
    have fq3_n : ∀ o, w3.frozen? ⟨w.heap.size + 1, o, none⟩ = false := fun o => frozen_of_heap q3_n
    have cq3_x := cells3_of q3_x
    have lq3_x := lt_of_heap q3_x
    have fq3_x : ∀ o, w3.frozen? ⟨w1.heap.size, o, none⟩ = false := fun o => frozen_of_heap q3_x
    have cq3_y := cells3_of q3_y
    have lq3_y := lt_of_heap q3_y
    have fq3_y : ∀ o, w3.frozen? ⟨w2.heap.size, o, none⟩ = false := fun o => frozen_of_heap q3_y
    have Hq3_l := Lib.hid q3_l; clear q3_l
    have Hq3_n := Lib.hid q3_n; clear q3_n
    have Hq3_x := Lib.hid q3_x; clear q3_x
    have Hq3_y := Lib.hid q3_y; clear q3_y
    clear Hq2_l cq2_l fq2_l Hq2_n cq2_n fq2_n Hq2_x cq2_x fq2_x hB2
    go_wp2_with (go_at_call 11; fail)
    refine (right_any _ _ _ _ he).mono ?_
    rintro e4 w4 ⟨rfl, hb4⟩
    have hB4 : Below w.heap.size w w4 := Below.step (by go_grown) (by go_size) hb4
    have hz4 := hb4.size; try simp at hz4
    have q4_l : w4.heap[w.heap.size]? = some (.cells #[.int .u64 e, .int .i64 h, .int .i64 u] 24 (0, 0)) := (hb4.block (w.heap.size) (by go_size)).trans (by repeat (first | exact Hq3_l.out | exact alloc_at (by go_size) | refine (alloc_lt (by go_size)).trans ?_ | refine (set_ne (by first | omega | (simp; done) | (simp; omega))).trans ?_))
    have q4_n : w4.heap[w.heap.size + 1]? = some (.cells #[.int .i64 now, .int .i64 span] 26 (0, 0)) := (hb4.block (w.heap.size + 1) (by go_size)).trans (by repeat (first | exact Hq3_n.out | exact alloc_at (by go_size) | refine (alloc_lt (by go_size)).trans ?_ | refine (set_ne (by first | omega | (simp; done) | (simp; omega))).trans ?_))
    have q4_x : w4.heap[w1.heap.size]? = some (.cells #[.int .u64 z2, .int .i64 z3, .int .i64 z4] 24 (0, 0)) := (hb4.block (w1.heap.size) (by go_size)).trans (by repeat (first | exact Hq3_x.out | exact alloc_at (by go_size) | refine (alloc_lt (by go_size)).trans ?_ | refine (set_ne (by first | omega | (simp; done) | (simp; omega))).trans ?_))
    have q4_y : w4.heap[w2.heap.size]? = some (.cells #[.int .u64 z2, .int .i64 z3, .int .i64 z4] 24 (0, 0)) := (hb4.block (w2.heap.size) (by go_size)).trans (by repeat (first | exact Hq3_y.out | exact alloc_at (by go_size) | refine (alloc_lt (by go_size)).trans ?_ | refine (set_ne (by first | omega | (simp; done) | (simp; omega))).trans ?_))
    have cq4_l := cells3_of q4_l
    have lq4_l := lt_of_heap q4_l
    have fq4_l : ∀ o, w4.frozen? ⟨w.heap.size, o, none⟩ = false := fun o => frozen_of_heap q4_l
    have cq4_n := cells2_of q4_n
    have lq4_n := lt_of_heap q4_n
    have fq4_n : ∀ o, w4.frozen? ⟨w.heap.size + 1, o, none⟩ = false := fun o => frozen_of_heap q4_n
    have cq4_x := cells3_of q4_x
    have lq4_x := lt_of_heap q4_x
    have fq4_x : ∀ o, w4.frozen? ⟨w1.heap.size, o, none⟩ = false := fun o => frozen_of_heap q4_x
    have cq4_y := cells3_of q4_y
    have lq4_y := lt_of_heap q4_y
    have fq4_y : ∀ o, w4.frozen? ⟨w2.heap.size, o, none⟩ = false := fun o => frozen_of_heap q4_y
    have Hq4_l := Lib.hid q4_l; clear q4_l
    have Hq4_n := Lib.hid q4_n; clear q4_n
    have Hq4_x := Lib.hid q4_x; clear q4_x
    have Hq4_y := Lib.hid q4_y; clear q4_y
    clear Hq3_l cq3_l fq3_l Hq3_n cq3_n fq3_n Hq3_x cq3_x fq3_x Hq3_y cq3_y fq3_y hB3
    go_wp2
    go_ret
    exact ⟨ret_bool (by simp [*]), by go_grown⟩

end Go.Proofs.Ytgeieeohaeeccaa
