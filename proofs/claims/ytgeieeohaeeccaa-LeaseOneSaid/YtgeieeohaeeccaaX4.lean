/- Walks of the lease laws, 4. -/
import Derived.Test.YtgeieeohaeeccaaX1
import Derived.Deep.RegionHeld3
namespace Go.Proofs.Ytgeieeohaeeccaa
open Go.RowKit

theorem keepc {B : Nat} {W W' : World} {a : Addr} {v : Value} (hb : Below W.heap.size W W') (h : W.cell? a = some v) (_ : B = 0) : W'.cell? a = some v :=
  (hb.cell (World.block_lt_of_cell? _ _ h)).trans h

theorem keepa {W : World} {a : Addr} {v : Value} {o : Obj} (h : W.cell? a = some v) : (W.alloc o).cell? a = some v :=
  (World.cell?_alloc_lt _ _ _ (World.block_lt_of_cell? W a h)).trans h

set_option maxHeartbeats 2000000 in
theorem leaseKeeps_no (e o u who ep now span c : Int) (w : World) (he : 0 ≤ e) (hc : renewF e o u who ep now span = (c, 0, 0, 0)) (hn : (c != 0) = true) :
    Calls Try.prog 6 #[.agg #[.int .u64 e, .int .i64 o, .int .i64 u], .agg #[.int .i64 who, .int .u64 ep], .agg #[.int .i64 now, .int .i64 span]] w fun en w' => en = .returned (.bool true) ∧ Below w.heap.size w w' := by
  have HZ := Lib.hid hc
  clear hc
  go_enter Try.func6, Try.ntmps6
  go_wp2_with (go_at_call 7; fail)
  refine (wakes_any _).mono ?_
  rintro e0 w0 ⟨rfl, hb0⟩
  have hB0 : Below w.heap.size w w0 := Below.step (by go_grown) (by go_size) hb0
  have hz0 := hb0.size; try simp at hz0
  have q0_l : w0.heap[w.heap.size]? = some (.cells #[.int .u64 e, .int .i64 o, .int .i64 u] 24 (0, 0)) := (hb0.block (w.heap.size) (by go_size)).trans (by repeat (first | exact alloc_at (by go_size) | refine (alloc_lt (by go_size)).trans ?_ | refine (set_ne (by first | omega | (simp; done) | (simp; omega))).trans ?_))
  have q0_p : w0.heap[w.heap.size + 1]? = some (.cells #[.int .i64 who, .int .u64 ep] 35 (0, 0)) := (hb0.block (w.heap.size + 1) (by go_size)).trans (by repeat (first | exact alloc_at (by go_size) | refine (alloc_lt (by go_size)).trans ?_ | refine (set_ne (by first | omega | (simp; done) | (simp; omega))).trans ?_))
  have q0_n : w0.heap[w.heap.size + 2]? = some (.cells #[.int .i64 now, .int .i64 span] 26 (0, 0)) := (hb0.block (w.heap.size + 2) (by go_size)).trans (by repeat (first | exact alloc_at (by go_size) | refine (alloc_lt (by go_size)).trans ?_ | refine (set_ne (by first | omega | (simp; done) | (simp; omega))).trans ?_))
  have cq0_l := cells3_of q0_l
  have lq0_l := lt_of_heap q0_l
  have fq0_l : ∀ k, w0.frozen? ⟨w.heap.size, k, none⟩ = false := fun k => frozen_of_heap q0_l
  have cq0_p := cells2_of q0_p
  have lq0_p := lt_of_heap q0_p
  have fq0_p : ∀ k, w0.frozen? ⟨w.heap.size + 1, k, none⟩ = false := fun k => frozen_of_heap q0_p
  have cq0_n := cells2_of q0_n
  have lq0_n := lt_of_heap q0_n
  have fq0_n : ∀ k, w0.frozen? ⟨w.heap.size + 2, k, none⟩ = false := fun k => frozen_of_heap q0_n
  have Hq0_l := Lib.hid q0_l; clear q0_l
  have Hq0_p := Lib.hid q0_p; clear q0_p
  have Hq0_n := Lib.hid q0_n; clear q0_n
  go_wp2_with (go_at_call 12; fail)
  refine (renew_any _ _ _ _ _ _ _ _ he).mono ?_; rw [HZ.out]
  rintro e1 w1 ⟨rfl, hb1⟩
  have hB1 : Below w.heap.size w w1 := Below.step (by go_grown) (by go_size) hb1
  have hz1 := hb1.size; try simp at hz1
  have q1_l : w1.heap[w.heap.size]? = some (.cells #[.int .u64 e, .int .i64 o, .int .i64 u] 24 (0, 0)) := (hb1.block (w.heap.size) (by go_size)).trans (by repeat (first | exact Hq0_l.out | exact alloc_at (by go_size) | refine (alloc_lt (by go_size)).trans ?_ | refine (set_ne (by first | omega | (simp; done) | (simp; omega))).trans ?_))
  have q1_p : w1.heap[w.heap.size + 1]? = some (.cells #[.int .i64 who, .int .u64 ep] 35 (0, 0)) := (hb1.block (w.heap.size + 1) (by go_size)).trans (by repeat (first | exact Hq0_p.out | exact alloc_at (by go_size) | refine (alloc_lt (by go_size)).trans ?_ | refine (set_ne (by first | omega | (simp; done) | (simp; omega))).trans ?_))
  have q1_n : w1.heap[w.heap.size + 2]? = some (.cells #[.int .i64 now, .int .i64 span] 26 (0, 0)) := (hb1.block (w.heap.size + 2) (by go_size)).trans (by repeat (first | exact Hq0_n.out | exact alloc_at (by go_size) | refine (alloc_lt (by go_size)).trans ?_ | refine (set_ne (by first | omega | (simp; done) | (simp; omega))).trans ?_))
  have cq1_l := cells3_of q1_l
  have lq1_l := lt_of_heap q1_l
  have fq1_l : ∀ k, w1.frozen? ⟨w.heap.size, k, none⟩ = false := fun k => frozen_of_heap q1_l
  have cq1_p := cells2_of q1_p
  have lq1_p := lt_of_heap q1_p
  have fq1_p : ∀ k, w1.frozen? ⟨w.heap.size + 1, k, none⟩ = false := fun k => frozen_of_heap q1_p
  have cq1_n := cells2_of q1_n
  have lq1_n := lt_of_heap q1_n
  have fq1_n : ∀ k, w1.frozen? ⟨w.heap.size + 2, k, none⟩ = false := fun k => frozen_of_heap q1_n
  have Hq1_l := Lib.hid q1_l; clear q1_l
  have Hq1_p := Lib.hid q1_p; clear q1_p
  have Hq1_n := Lib.hid q1_n; clear q1_n
  clear Hq0_l cq0_l fq0_l Hq0_p cq0_p fq0_p Hq0_n cq0_n fq0_n hB0
  go_wp2
  go_ret
  exact ⟨rfl, by go_grown⟩

set_option maxHeartbeats 4000000 in
theorem leaseKeeps_max (e o u v who ep now span D1 D2 : Int) (w : World) (he : 0 ≤ e) (hc : renewF e o u who ep now span = (0, e, o, v)) (hD1 : leftF e o v now = D1) (hD2 : leftF e o u now = D2)
    (g1 : D2 ≤ D1) (g2 : span ≤ D1) (hy : yieldF e o v who ep now = (0, e, o, now)) (hh : holdsF e o now who ep now = false) (b1 : 1 ≤ who) (b2 : who ≤ 3) (_b3 : e ≤ 2147483647) (hm : (e == 2147483647) = true) (ha : acquireF e o now (who % 3 + 1) now span = (6, 0, 0, 0)) :
    Calls Try.prog 6 #[.agg #[.int .u64 e, .int .i64 o, .int .i64 u], .agg #[.int .i64 who, .int .u64 ep], .agg #[.int .i64 now, .int .i64 span]] w fun en w' => en = .returned (.bool true) ∧ Below w.heap.size w w' := by
  have HZ := Lib.hid hc
  have HD1 := Lib.hid hD1
  have HD2 := Lib.hid hD2
  have HY := Lib.hid hy
  have HH := Lib.hid hh
  have HA := Lib.hid ha
  clear hc hD1 hD2 hy hh ha
  go_enter Try.func6, Try.ntmps6
  go_wp2_with (go_at_call 7; fail)
  refine (wakes_any _).mono ?_
  rintro e0 w0 ⟨rfl, hb0⟩
  have hB0 : Below w.heap.size w w0 := Below.step (by go_grown) (by go_size) hb0
  have hz0 := hb0.size; try simp at hz0
  have q0_l : w0.heap[w.heap.size]? = some (.cells #[.int .u64 e, .int .i64 o, .int .i64 u] 24 (0, 0)) := (hb0.block (w.heap.size) (by go_size)).trans (by repeat (first | exact alloc_at (by go_size) | refine (alloc_lt (by go_size)).trans ?_ | refine (set_ne (by first | omega | (simp; done) | (simp; omega))).trans ?_))
  have q0_p : w0.heap[w.heap.size + 1]? = some (.cells #[.int .i64 who, .int .u64 ep] 35 (0, 0)) := (hb0.block (w.heap.size + 1) (by go_size)).trans (by repeat (first | exact alloc_at (by go_size) | refine (alloc_lt (by go_size)).trans ?_ | refine (set_ne (by first | omega | (simp; done) | (simp; omega))).trans ?_))
  have q0_n : w0.heap[w.heap.size + 2]? = some (.cells #[.int .i64 now, .int .i64 span] 26 (0, 0)) := (hb0.block (w.heap.size + 2) (by go_size)).trans (by repeat (first | exact alloc_at (by go_size) | refine (alloc_lt (by go_size)).trans ?_ | refine (set_ne (by first | omega | (simp; done) | (simp; omega))).trans ?_))
  have cq0_l := cells3_of q0_l
  have lq0_l := lt_of_heap q0_l
  have fq0_l : ∀ k, w0.frozen? ⟨w.heap.size, k, none⟩ = false := fun k => frozen_of_heap q0_l
  have cq0_p := cells2_of q0_p
  have lq0_p := lt_of_heap q0_p
  have fq0_p : ∀ k, w0.frozen? ⟨w.heap.size + 1, k, none⟩ = false := fun k => frozen_of_heap q0_p
  have cq0_n := cells2_of q0_n
  have lq0_n := lt_of_heap q0_n
  have fq0_n : ∀ k, w0.frozen? ⟨w.heap.size + 2, k, none⟩ = false := fun k => frozen_of_heap q0_n
  have Hq0_l := Lib.hid q0_l; clear q0_l
  have Hq0_p := Lib.hid q0_p; clear q0_p
  have Hq0_n := Lib.hid q0_n; clear q0_n
  go_wp2_with (go_at_call 12; fail)
  refine (renew_any _ _ _ _ _ _ _ _ he).mono ?_; rw [HZ.out]
  rintro e1 w1 ⟨rfl, hb1⟩
  have hB1 : Below w.heap.size w w1 := Below.step (by go_grown) (by go_size) hb1
  have hz1 := hb1.size; try simp at hz1
  have q1_l : w1.heap[w.heap.size]? = some (.cells #[.int .u64 e, .int .i64 o, .int .i64 u] 24 (0, 0)) := (hb1.block (w.heap.size) (by go_size)).trans (by repeat (first | exact Hq0_l.out | exact alloc_at (by go_size) | refine (alloc_lt (by go_size)).trans ?_ | refine (set_ne (by first | omega | (simp; done) | (simp; omega))).trans ?_))
  have q1_p : w1.heap[w.heap.size + 1]? = some (.cells #[.int .i64 who, .int .u64 ep] 35 (0, 0)) := (hb1.block (w.heap.size + 1) (by go_size)).trans (by repeat (first | exact Hq0_p.out | exact alloc_at (by go_size) | refine (alloc_lt (by go_size)).trans ?_ | refine (set_ne (by first | omega | (simp; done) | (simp; omega))).trans ?_))
  have q1_n : w1.heap[w.heap.size + 2]? = some (.cells #[.int .i64 now, .int .i64 span] 26 (0, 0)) := (hb1.block (w.heap.size + 2) (by go_size)).trans (by repeat (first | exact Hq0_n.out | exact alloc_at (by go_size) | refine (alloc_lt (by go_size)).trans ?_ | refine (set_ne (by first | omega | (simp; done) | (simp; omega))).trans ?_))
  have cq1_l := cells3_of q1_l
  have lq1_l := lt_of_heap q1_l
  have fq1_l : ∀ k, w1.frozen? ⟨w.heap.size, k, none⟩ = false := fun k => frozen_of_heap q1_l
  have cq1_p := cells2_of q1_p
  have lq1_p := lt_of_heap q1_p
  have fq1_p : ∀ k, w1.frozen? ⟨w.heap.size + 1, k, none⟩ = false := fun k => frozen_of_heap q1_p
  have cq1_n := cells2_of q1_n
  have lq1_n := lt_of_heap q1_n
  have fq1_n : ∀ k, w1.frozen? ⟨w.heap.size + 2, k, none⟩ = false := fun k => frozen_of_heap q1_n
  have Hq1_l := Lib.hid q1_l; clear q1_l
  have Hq1_p := Lib.hid q1_p; clear q1_p
  have Hq1_n := Lib.hid q1_n; clear q1_n
  clear Hq0_l cq0_l fq0_l Hq0_p cq0_p fq0_p Hq0_n cq0_n fq0_n hB0
  go_wp2_with fail
  have hBx : Below w.heap.size w (w1.alloc (.cells #[.int .u64 e, .int .i64 o, .int .i64 v] 24)) := by go_grown
  have hS0 : (fun W' => Below w.heap.size w W' ∧ W'.cell? ⟨w.heap.size, 0, none⟩ = some (.int .u64 e) ∧ W'.cell? ⟨w.heap.size, 1, none⟩ = some (.int .i64 o) ∧ W'.cell? ⟨w.heap.size, 2, none⟩ = some (.int .i64 u) ∧ W'.cell? ⟨w.heap.size + 1, 0, none⟩ = some (.int .i64 who) ∧ W'.cell? ⟨w.heap.size + 1, 1, none⟩ = some (.int .u64 ep) ∧ W'.cell? ⟨w.heap.size + 1 + 1, 0, none⟩ = some (.int .i64 now) ∧ W'.cell? ⟨w.heap.size + 1 + 1, 1, none⟩ = some (.int .i64 span) ∧ W'.cell? ⟨w1.heap.size, 0, none⟩ = some (.int .u64 e) ∧ W'.cell? ⟨w1.heap.size, 1, none⟩ = some (.int .i64 o) ∧ W'.cell? ⟨w1.heap.size, 2, none⟩ = some (.int .i64 v) ∧ Hid (W'.heap[w.heap.size]? = some (.cells #[.int .u64 e, .int .i64 o, .int .i64 u] 24 (0, 0))) ∧ Hid (W'.heap[w.heap.size + 1]? = some (.cells #[.int .i64 who, .int .u64 ep] 35 (0, 0))) ∧ Hid (W'.heap[w.heap.size + 2]? = some (.cells #[.int .i64 now, .int .i64 span] 26 (0, 0))) ∧ Hid (W'.heap[w1.heap.size]? = some (.cells #[.int .u64 e, .int .i64 o, .int .i64 v] 24 (0, 0)))) (w1.alloc (.cells #[.int .u64 e, .int .i64 o, .int .i64 v] 24)).drew := ⟨hBx.drew, keepa (by simp [*]), keepa (by simp [*]), keepa (by simp [*]), keepa (by simp [*]), keepa (by simp [*]), keepa (by simp [*]), keepa (by simp [*]), (cells3_of (alloc_at rfl)).1, (cells3_of (alloc_at rfl)).2.1, (cells3_of (alloc_at rfl)).2.2, Lib.hid ((alloc_lt lq1_l).trans Hq1_l.out), Lib.hid ((alloc_lt lq1_p).trans Hq1_p.out), Lib.hid ((alloc_lt lq1_n).trans Hq1_n.out), Lib.hid (alloc_at rfl)⟩
  have HS := Lib.hid hS0; clear hS0
  have hK : ∀ W1 W2, (fun W' => Below w.heap.size w W' ∧ W'.cell? ⟨w.heap.size, 0, none⟩ = some (.int .u64 e) ∧ W'.cell? ⟨w.heap.size, 1, none⟩ = some (.int .i64 o) ∧ W'.cell? ⟨w.heap.size, 2, none⟩ = some (.int .i64 u) ∧ W'.cell? ⟨w.heap.size + 1, 0, none⟩ = some (.int .i64 who) ∧ W'.cell? ⟨w.heap.size + 1, 1, none⟩ = some (.int .u64 ep) ∧ W'.cell? ⟨w.heap.size + 1 + 1, 0, none⟩ = some (.int .i64 now) ∧ W'.cell? ⟨w.heap.size + 1 + 1, 1, none⟩ = some (.int .i64 span) ∧ W'.cell? ⟨w1.heap.size, 0, none⟩ = some (.int .u64 e) ∧ W'.cell? ⟨w1.heap.size, 1, none⟩ = some (.int .i64 o) ∧ W'.cell? ⟨w1.heap.size, 2, none⟩ = some (.int .i64 v) ∧ Hid (W'.heap[w.heap.size]? = some (.cells #[.int .u64 e, .int .i64 o, .int .i64 u] 24 (0, 0))) ∧ Hid (W'.heap[w.heap.size + 1]? = some (.cells #[.int .i64 who, .int .u64 ep] 35 (0, 0))) ∧ Hid (W'.heap[w.heap.size + 2]? = some (.cells #[.int .i64 now, .int .i64 span] 26 (0, 0))) ∧ Hid (W'.heap[w1.heap.size]? = some (.cells #[.int .u64 e, .int .i64 o, .int .i64 v] 24 (0, 0)))) W1 → Below W1.heap.size W1 W2 → (fun W' => Below w.heap.size w W' ∧ W'.cell? ⟨w.heap.size, 0, none⟩ = some (.int .u64 e) ∧ W'.cell? ⟨w.heap.size, 1, none⟩ = some (.int .i64 o) ∧ W'.cell? ⟨w.heap.size, 2, none⟩ = some (.int .i64 u) ∧ W'.cell? ⟨w.heap.size + 1, 0, none⟩ = some (.int .i64 who) ∧ W'.cell? ⟨w.heap.size + 1, 1, none⟩ = some (.int .u64 ep) ∧ W'.cell? ⟨w.heap.size + 1 + 1, 0, none⟩ = some (.int .i64 now) ∧ W'.cell? ⟨w.heap.size + 1 + 1, 1, none⟩ = some (.int .i64 span) ∧ W'.cell? ⟨w1.heap.size, 0, none⟩ = some (.int .u64 e) ∧ W'.cell? ⟨w1.heap.size, 1, none⟩ = some (.int .i64 o) ∧ W'.cell? ⟨w1.heap.size, 2, none⟩ = some (.int .i64 v) ∧ Hid (W'.heap[w.heap.size]? = some (.cells #[.int .u64 e, .int .i64 o, .int .i64 u] 24 (0, 0))) ∧ Hid (W'.heap[w.heap.size + 1]? = some (.cells #[.int .i64 who, .int .u64 ep] 35 (0, 0))) ∧ Hid (W'.heap[w.heap.size + 2]? = some (.cells #[.int .i64 now, .int .i64 span] 26 (0, 0))) ∧ Hid (W'.heap[w1.heap.size]? = some (.cells #[.int .u64 e, .int .i64 o, .int .i64 v] 24 (0, 0)))) W2 := fun W1 W2 ⟨s0, s1, s2, s3, s4, s5, s6, s7, s8, s9, s10, s11, s12, s13, s14⟩ hb => ⟨Below.step s0 (Nat.le_refl _) hb, keepc (B := 0) hb s1 rfl, keepc (B := 0) hb s2 rfl, keepc (B := 0) hb s3 rfl, keepc (B := 0) hb s4 rfl, keepc (B := 0) hb s5 rfl, keepc (B := 0) hb s6 rfl, keepc (B := 0) hb s7 rfl, keepc (B := 0) hb s8 rfl, keepc (B := 0) hb s9 rfl, keepc (B := 0) hb s10 rfl, Lib.hid ((hb.block _ (lt_of_heap (Hid.out s11))).trans (Hid.out s11)), Lib.hid ((hb.block _ (lt_of_heap (Hid.out s12))).trans (Hid.out s12)), Lib.hid ((hb.block _ (lt_of_heap (Hid.out s13))).trans (Hid.out s13)), Lib.hid ((hb.block _ (lt_of_heap (Hid.out s14))).trans (Hid.out s14))⟩
  have HK := Lib.hid hK; clear hK
  go_region_held3 (fun W' => Below w.heap.size w W' ∧ W'.cell? ⟨w.heap.size, 0, none⟩ = some (.int .u64 e) ∧ W'.cell? ⟨w.heap.size, 1, none⟩ = some (.int .i64 o) ∧ W'.cell? ⟨w.heap.size, 2, none⟩ = some (.int .i64 u) ∧ W'.cell? ⟨w.heap.size + 1, 0, none⟩ = some (.int .i64 who) ∧ W'.cell? ⟨w.heap.size + 1, 1, none⟩ = some (.int .u64 ep) ∧ W'.cell? ⟨w.heap.size + 1 + 1, 0, none⟩ = some (.int .i64 now) ∧ W'.cell? ⟨w.heap.size + 1 + 1, 1, none⟩ = some (.int .i64 span) ∧ W'.cell? ⟨w1.heap.size, 0, none⟩ = some (.int .u64 e) ∧ W'.cell? ⟨w1.heap.size, 1, none⟩ = some (.int .i64 o) ∧ W'.cell? ⟨w1.heap.size, 2, none⟩ = some (.int .i64 v) ∧ Hid (W'.heap[w.heap.size]? = some (.cells #[.int .u64 e, .int .i64 o, .int .i64 u] 24 (0, 0))) ∧ Hid (W'.heap[w.heap.size + 1]? = some (.cells #[.int .i64 who, .int .u64 ep] 35 (0, 0))) ∧ Hid (W'.heap[w.heap.size + 2]? = some (.cells #[.int .i64 now, .int .i64 span] 26 (0, 0))) ∧ Hid (W'.heap[w1.heap.size]? = some (.cells #[.int .u64 e, .int .i64 o, .int .i64 v] 24 (0, 0)))) (first | exact HS.out | exact hT) (first | (go_at_call 17; refine (left_any _ _ _ _ _ he).mono ?_; (first | rw [HD1.out] | rw [HD2.out]); rintro ev wv ⟨rfl, hbv⟩; first | (have hT := HK.out _ _ HS.out hbv) | (rename_i hHeld _ _; have hT := HK.out _ _ hHeld hbv)))
  all_goals
    clear HS HK
    obtain ⟨hB2, q0, q1, q2, q3, q4, q5, q6, q7, q8, q9, Hq2_l, Hq2_p, Hq2_n, Hq2_x⟩ := hT
    have lq2_l := lt_of_heap Hq2_l.out; have lq2_p := lt_of_heap Hq2_p.out; have lq2_n := lt_of_heap Hq2_n.out; have lq2_x := lt_of_heap Hq2_x.out
    clear Hq1_l lq1_l fq1_l cq1_l Hq1_p lq1_p fq1_p cq1_p Hq1_n lq1_n cq1_n fq1_n hB1 hBx hb1
    try clear hHeld
    have cq2_l := cells3_of Hq2_l.out; have fq2_l : ∀ k, wv.frozen? ⟨w.heap.size, k, none⟩ = false := fun k => frozen_of_heap Hq2_l.out
    have cq2_p := cells2_of Hq2_p.out; have fq2_p : ∀ k, wv.frozen? ⟨w.heap.size + 1, k, none⟩ = false := fun k => frozen_of_heap Hq2_p.out
    have cq2_n := cells2_of Hq2_n.out; have fq2_n : ∀ k, wv.frozen? ⟨w.heap.size + 2, k, none⟩ = false := fun k => frozen_of_heap Hq2_n.out
    have cq2_x := cells3_of Hq2_x.out; have fq2_x : ∀ k, wv.frozen? ⟨w1.heap.size, k, none⟩ = false := fun k => frozen_of_heap Hq2_x.out
    clear q0 q1 q2 q3 q4 q5 q6 q7 q8 q9
    go_wp2_with (go_at_call 14; fail)
    all_goals
      refine (yield_any _ _ _ _ _ _ _ he).mono ?_; rw [HY.out]
      rintro e3 w3 ⟨rfl, hb3⟩
      have hB3 : Below w.heap.size w w3 := Below.step (by go_grown) (by go_size) hb3
      have hz3 := hb3.size; try simp at hz3
      have q3_l : w3.heap[w.heap.size]? = some (.cells #[.int .u64 e, .int .i64 o, .int .i64 u] 24 (0, 0)) := (hb3.block (w.heap.size) (by go_size)).trans (by repeat (first | exact Hq2_l.out | exact alloc_at (by go_size) | refine (alloc_lt (by go_size)).trans ?_ | refine (set_ne (by first | omega | (simp; done) | (simp; omega))).trans ?_))
      have q3_p : w3.heap[w.heap.size + 1]? = some (.cells #[.int .i64 who, .int .u64 ep] 35 (0, 0)) := (hb3.block (w.heap.size + 1) (by go_size)).trans (by repeat (first | exact Hq2_p.out | exact alloc_at (by go_size) | refine (alloc_lt (by go_size)).trans ?_ | refine (set_ne (by first | omega | (simp; done) | (simp; omega))).trans ?_))
      have q3_n : w3.heap[w.heap.size + 2]? = some (.cells #[.int .i64 now, .int .i64 span] 26 (0, 0)) := (hb3.block (w.heap.size + 2) (by go_size)).trans (by repeat (first | exact Hq2_n.out | exact alloc_at (by go_size) | refine (alloc_lt (by go_size)).trans ?_ | refine (set_ne (by first | omega | (simp; done) | (simp; omega))).trans ?_))
      have q3_x : w3.heap[w1.heap.size]? = some (.cells #[.int .u64 e, .int .i64 o, .int .i64 v] 24 (0, 0)) := (hb3.block (w1.heap.size) (by go_size)).trans (by repeat (first | exact Hq2_x.out | exact alloc_at (by go_size) | refine (alloc_lt (by go_size)).trans ?_ | refine (set_ne (by first | omega | (simp; done) | (simp; omega))).trans ?_))
      have cq3_l := cells3_of q3_l
      have lq3_l := lt_of_heap q3_l
      have fq3_l : ∀ k, w3.frozen? ⟨w.heap.size, k, none⟩ = false := fun k => frozen_of_heap q3_l
      have cq3_p := cells2_of q3_p
      have lq3_p := lt_of_heap q3_p
      have fq3_p : ∀ k, w3.frozen? ⟨w.heap.size + 1, k, none⟩ = false := fun k => frozen_of_heap q3_p
      have cq3_n := cells2_of q3_n
      have lq3_n := lt_of_heap q3_n
      have fq3_n : ∀ k, w3.frozen? ⟨w.heap.size + 2, k, none⟩ = false := fun k => frozen_of_heap q3_n
      have cq3_x := cells3_of q3_x
      have lq3_x := lt_of_heap q3_x
      have fq3_x : ∀ k, w3.frozen? ⟨w1.heap.size, k, none⟩ = false := fun k => frozen_of_heap q3_x
      have Hq3_l := Lib.hid q3_l; clear q3_l
      have Hq3_p := Lib.hid q3_p; clear q3_p
      have Hq3_n := Lib.hid q3_n; clear q3_n
      have Hq3_x := Lib.hid q3_x; clear q3_x
      clear Hq2_l cq2_l fq2_l Hq2_p cq2_p fq2_p Hq2_n cq2_n fq2_n Hq2_x cq2_x fq2_x hB2
      go_wp2_with (go_at_call 16; fail)
      refine (holds_any _ _ _ _ _ _ _ he).mono ?_; rw [HH.out]
      rintro e4 w4 ⟨rfl, hb4⟩
      have hB4 : Below w.heap.size w w4 := Below.step (by go_grown) (by go_size) hb4
      have hz4 := hb4.size; try simp at hz4
      have q4_l : w4.heap[w.heap.size]? = some (.cells #[.int .u64 e, .int .i64 o, .int .i64 u] 24 (0, 0)) := (hb4.block (w.heap.size) (by go_size)).trans (by repeat (first | exact Hq3_l.out | exact alloc_at (by go_size) | refine (alloc_lt (by go_size)).trans ?_ | refine (set_ne (by first | omega | (simp; done) | (simp; omega))).trans ?_))
      have q4_p : w4.heap[w.heap.size + 1]? = some (.cells #[.int .i64 who, .int .u64 ep] 35 (0, 0)) := (hb4.block (w.heap.size + 1) (by go_size)).trans (by repeat (first | exact Hq3_p.out | exact alloc_at (by go_size) | refine (alloc_lt (by go_size)).trans ?_ | refine (set_ne (by first | omega | (simp; done) | (simp; omega))).trans ?_))
      have q4_n : w4.heap[w.heap.size + 2]? = some (.cells #[.int .i64 now, .int .i64 span] 26 (0, 0)) := (hb4.block (w.heap.size + 2) (by go_size)).trans (by repeat (first | exact Hq3_n.out | exact alloc_at (by go_size) | refine (alloc_lt (by go_size)).trans ?_ | refine (set_ne (by first | omega | (simp; done) | (simp; omega))).trans ?_))
      have q4_x : w4.heap[w1.heap.size]? = some (.cells #[.int .u64 e, .int .i64 o, .int .i64 v] 24 (0, 0)) := (hb4.block (w1.heap.size) (by go_size)).trans (by repeat (first | exact Hq3_x.out | exact alloc_at (by go_size) | refine (alloc_lt (by go_size)).trans ?_ | refine (set_ne (by first | omega | (simp; done) | (simp; omega))).trans ?_))
      have q4_y : w4.heap[w3.heap.size]? = some (.cells #[.int .u64 e, .int .i64 o, .int .i64 now] 24 (0, 0)) := (hb4.block (w3.heap.size) (by go_size)).trans (by repeat (first | exact alloc_at (by go_size) | refine (alloc_lt (by go_size)).trans ?_ | refine (set_ne (by first | omega | (simp; done) | (simp; omega))).trans ?_))
      have cq4_l := cells3_of q4_l
      have lq4_l := lt_of_heap q4_l
      have fq4_l : ∀ k, w4.frozen? ⟨w.heap.size, k, none⟩ = false := fun k => frozen_of_heap q4_l
      have cq4_p := cells2_of q4_p
      have lq4_p := lt_of_heap q4_p
      have fq4_p : ∀ k, w4.frozen? ⟨w.heap.size + 1, k, none⟩ = false := fun k => frozen_of_heap q4_p
      have cq4_n := cells2_of q4_n
      have lq4_n := lt_of_heap q4_n
      have fq4_n : ∀ k, w4.frozen? ⟨w.heap.size + 2, k, none⟩ = false := fun k => frozen_of_heap q4_n
      have cq4_x := cells3_of q4_x
      have lq4_x := lt_of_heap q4_x
      have fq4_x : ∀ k, w4.frozen? ⟨w1.heap.size, k, none⟩ = false := fun k => frozen_of_heap q4_x
      have cq4_y := cells3_of q4_y
      have lq4_y := lt_of_heap q4_y
      have fq4_y : ∀ k, w4.frozen? ⟨w3.heap.size, k, none⟩ = false := fun k => frozen_of_heap q4_y
      have Hq4_l := Lib.hid q4_l; clear q4_l
      have Hq4_p := Lib.hid q4_p; clear q4_p
      have Hq4_n := Lib.hid q4_n; clear q4_n
      have Hq4_x := Lib.hid q4_x; clear q4_x
      have Hq4_y := Lib.hid q4_y; clear q4_y
      clear Hq3_l cq3_l fq3_l Hq3_p cq3_p fq3_p Hq3_n cq3_n fq3_n Hq3_x cq3_x fq3_x hB3
      go_wp2_with (go_at_call 8; fail)
      refine (acquire_any _ _ _ _ _ _ _ he).mono ?_; rw [HA.out]
      rintro e5 w5 ⟨rfl, hb5⟩
      have hB5 : Below w.heap.size w w5 := Below.step (by go_grown) (by go_size) hb5
      have hz5 := hb5.size; try simp at hz5
      have q5_l : w5.heap[w.heap.size]? = some (.cells #[.int .u64 e, .int .i64 o, .int .i64 u] 24 (0, 0)) := (hb5.block (w.heap.size) (by go_size)).trans (by repeat (first | exact Hq4_l.out | exact alloc_at (by go_size) | refine (alloc_lt (by go_size)).trans ?_ | refine (set_ne (by first | omega | (simp; done) | (simp; omega))).trans ?_))
      have q5_p : w5.heap[w.heap.size + 1]? = some (.cells #[.int .i64 who, .int .u64 ep] 35 (0, 0)) := (hb5.block (w.heap.size + 1) (by go_size)).trans (by repeat (first | exact Hq4_p.out | exact alloc_at (by go_size) | refine (alloc_lt (by go_size)).trans ?_ | refine (set_ne (by first | omega | (simp; done) | (simp; omega))).trans ?_))
      have q5_n : w5.heap[w.heap.size + 2]? = some (.cells #[.int .i64 now, .int .i64 span] 26 (0, 0)) := (hb5.block (w.heap.size + 2) (by go_size)).trans (by repeat (first | exact Hq4_n.out | exact alloc_at (by go_size) | refine (alloc_lt (by go_size)).trans ?_ | refine (set_ne (by first | omega | (simp; done) | (simp; omega))).trans ?_))
      have q5_x : w5.heap[w1.heap.size]? = some (.cells #[.int .u64 e, .int .i64 o, .int .i64 v] 24 (0, 0)) := (hb5.block (w1.heap.size) (by go_size)).trans (by repeat (first | exact Hq4_x.out | exact alloc_at (by go_size) | refine (alloc_lt (by go_size)).trans ?_ | refine (set_ne (by first | omega | (simp; done) | (simp; omega))).trans ?_))
      have q5_y : w5.heap[w3.heap.size]? = some (.cells #[.int .u64 e, .int .i64 o, .int .i64 now] 24 (0, 0)) := (hb5.block (w3.heap.size) (by go_size)).trans (by repeat (first | exact Hq4_y.out | exact alloc_at (by go_size) | refine (alloc_lt (by go_size)).trans ?_ | refine (set_ne (by first | omega | (simp; done) | (simp; omega))).trans ?_))
      have cq5_l := cells3_of q5_l
      have lq5_l := lt_of_heap q5_l
      have fq5_l : ∀ k, w5.frozen? ⟨w.heap.size, k, none⟩ = false := fun k => frozen_of_heap q5_l
      have cq5_p := cells2_of q5_p
      have lq5_p := lt_of_heap q5_p
      have fq5_p : ∀ k, w5.frozen? ⟨w.heap.size + 1, k, none⟩ = false := fun k => frozen_of_heap q5_p
      have cq5_n := cells2_of q5_n
      have lq5_n := lt_of_heap q5_n
      have fq5_n : ∀ k, w5.frozen? ⟨w.heap.size + 2, k, none⟩ = false := fun k => frozen_of_heap q5_n
      have cq5_x := cells3_of q5_x
      have lq5_x := lt_of_heap q5_x
      have fq5_x : ∀ k, w5.frozen? ⟨w1.heap.size, k, none⟩ = false := fun k => frozen_of_heap q5_x
      have cq5_y := cells3_of q5_y
      have lq5_y := lt_of_heap q5_y
      have fq5_y : ∀ k, w5.frozen? ⟨w3.heap.size, k, none⟩ = false := fun k => frozen_of_heap q5_y
      have Hq5_l := Lib.hid q5_l; clear q5_l
      have Hq5_p := Lib.hid q5_p; clear q5_p
      have Hq5_n := Lib.hid q5_n; clear q5_n
      have Hq5_x := Lib.hid q5_x; clear q5_x
      have Hq5_y := Lib.hid q5_y; clear q5_y
      clear Hq4_l cq4_l fq4_l Hq4_p cq4_p fq4_p Hq4_n cq4_n fq4_n Hq4_x cq4_x fq4_x Hq4_y cq4_y fq4_y hB4
      go_wp2
      go_ret
      exact ⟨rfl, by go_grown⟩

set_option maxHeartbeats 4000000 in
theorem leaseKeeps_go (e o u v who ep now span D1 D2 : Int) (w : World) (he : 0 ≤ e) (hc : renewF e o u who ep now span = (0, e, o, v)) (hD1 : leftF e o v now = D1) (hD2 : leftF e o u now = D2)
    (g1 : D2 ≤ D1) (g2 : span ≤ D1) (hy : yieldF e o v who ep now = (0, e, o, now)) (hh : holdsF e o now who ep now = false) (b1 : 1 ≤ who) (b2 : who ≤ 3) (_b3 : e ≤ 2147483647) (hm : (e == 2147483647) = false) (ha : acquireF e o now (who % 3 + 1) now span = (0, e + 1, who % 3 + 1, now + span)) (ht : staleF (e + 1) (who % 3 + 1) (now + span) ep = true) :
    Calls Try.prog 6 #[.agg #[.int .u64 e, .int .i64 o, .int .i64 u], .agg #[.int .i64 who, .int .u64 ep], .agg #[.int .i64 now, .int .i64 span]] w fun en w' => en = .returned (.bool true) ∧ Below w.heap.size w w' := by
  have HZ := Lib.hid hc
  have HD1 := Lib.hid hD1
  have HD2 := Lib.hid hD2
  have HY := Lib.hid hy
  have HH := Lib.hid hh
  have HA := Lib.hid ha
  clear hc hD1 hD2 hy hh ha
  have HT := Lib.hid ht
  clear ht
  go_enter Try.func6, Try.ntmps6
  go_wp2_with (go_at_call 7; fail)
  refine (wakes_any _).mono ?_
  rintro e0 w0 ⟨rfl, hb0⟩
  have hB0 : Below w.heap.size w w0 := Below.step (by go_grown) (by go_size) hb0
  have hz0 := hb0.size; try simp at hz0
  have q0_l : w0.heap[w.heap.size]? = some (.cells #[.int .u64 e, .int .i64 o, .int .i64 u] 24 (0, 0)) := (hb0.block (w.heap.size) (by go_size)).trans (by repeat (first | exact alloc_at (by go_size) | refine (alloc_lt (by go_size)).trans ?_ | refine (set_ne (by first | omega | (simp; done) | (simp; omega))).trans ?_))
  have q0_p : w0.heap[w.heap.size + 1]? = some (.cells #[.int .i64 who, .int .u64 ep] 35 (0, 0)) := (hb0.block (w.heap.size + 1) (by go_size)).trans (by repeat (first | exact alloc_at (by go_size) | refine (alloc_lt (by go_size)).trans ?_ | refine (set_ne (by first | omega | (simp; done) | (simp; omega))).trans ?_))
  have q0_n : w0.heap[w.heap.size + 2]? = some (.cells #[.int .i64 now, .int .i64 span] 26 (0, 0)) := (hb0.block (w.heap.size + 2) (by go_size)).trans (by repeat (first | exact alloc_at (by go_size) | refine (alloc_lt (by go_size)).trans ?_ | refine (set_ne (by first | omega | (simp; done) | (simp; omega))).trans ?_))
  have cq0_l := cells3_of q0_l
  have lq0_l := lt_of_heap q0_l
  have fq0_l : ∀ k, w0.frozen? ⟨w.heap.size, k, none⟩ = false := fun k => frozen_of_heap q0_l
  have cq0_p := cells2_of q0_p
  have lq0_p := lt_of_heap q0_p
  have fq0_p : ∀ k, w0.frozen? ⟨w.heap.size + 1, k, none⟩ = false := fun k => frozen_of_heap q0_p
  have cq0_n := cells2_of q0_n
  have lq0_n := lt_of_heap q0_n
  have fq0_n : ∀ k, w0.frozen? ⟨w.heap.size + 2, k, none⟩ = false := fun k => frozen_of_heap q0_n
  have Hq0_l := Lib.hid q0_l; clear q0_l
  have Hq0_p := Lib.hid q0_p; clear q0_p
  have Hq0_n := Lib.hid q0_n; clear q0_n
  go_wp2_with (go_at_call 12; fail)
  refine (renew_any _ _ _ _ _ _ _ _ he).mono ?_; rw [HZ.out]
  rintro e1 w1 ⟨rfl, hb1⟩
  have hB1 : Below w.heap.size w w1 := Below.step (by go_grown) (by go_size) hb1
  have hz1 := hb1.size; try simp at hz1
  have q1_l : w1.heap[w.heap.size]? = some (.cells #[.int .u64 e, .int .i64 o, .int .i64 u] 24 (0, 0)) := (hb1.block (w.heap.size) (by go_size)).trans (by repeat (first | exact Hq0_l.out | exact alloc_at (by go_size) | refine (alloc_lt (by go_size)).trans ?_ | refine (set_ne (by first | omega | (simp; done) | (simp; omega))).trans ?_))
  have q1_p : w1.heap[w.heap.size + 1]? = some (.cells #[.int .i64 who, .int .u64 ep] 35 (0, 0)) := (hb1.block (w.heap.size + 1) (by go_size)).trans (by repeat (first | exact Hq0_p.out | exact alloc_at (by go_size) | refine (alloc_lt (by go_size)).trans ?_ | refine (set_ne (by first | omega | (simp; done) | (simp; omega))).trans ?_))
  have q1_n : w1.heap[w.heap.size + 2]? = some (.cells #[.int .i64 now, .int .i64 span] 26 (0, 0)) := (hb1.block (w.heap.size + 2) (by go_size)).trans (by repeat (first | exact Hq0_n.out | exact alloc_at (by go_size) | refine (alloc_lt (by go_size)).trans ?_ | refine (set_ne (by first | omega | (simp; done) | (simp; omega))).trans ?_))
  have cq1_l := cells3_of q1_l
  have lq1_l := lt_of_heap q1_l
  have fq1_l : ∀ k, w1.frozen? ⟨w.heap.size, k, none⟩ = false := fun k => frozen_of_heap q1_l
  have cq1_p := cells2_of q1_p
  have lq1_p := lt_of_heap q1_p
  have fq1_p : ∀ k, w1.frozen? ⟨w.heap.size + 1, k, none⟩ = false := fun k => frozen_of_heap q1_p
  have cq1_n := cells2_of q1_n
  have lq1_n := lt_of_heap q1_n
  have fq1_n : ∀ k, w1.frozen? ⟨w.heap.size + 2, k, none⟩ = false := fun k => frozen_of_heap q1_n
  have Hq1_l := Lib.hid q1_l; clear q1_l
  have Hq1_p := Lib.hid q1_p; clear q1_p
  have Hq1_n := Lib.hid q1_n; clear q1_n
  clear Hq0_l cq0_l fq0_l Hq0_p cq0_p fq0_p Hq0_n cq0_n fq0_n hB0
  go_wp2_with fail
  have hBx : Below w.heap.size w (w1.alloc (.cells #[.int .u64 e, .int .i64 o, .int .i64 v] 24)) := by go_grown
  have hS0 : (fun W' => Below w.heap.size w W' ∧ W'.cell? ⟨w.heap.size, 0, none⟩ = some (.int .u64 e) ∧ W'.cell? ⟨w.heap.size, 1, none⟩ = some (.int .i64 o) ∧ W'.cell? ⟨w.heap.size, 2, none⟩ = some (.int .i64 u) ∧ W'.cell? ⟨w.heap.size + 1, 0, none⟩ = some (.int .i64 who) ∧ W'.cell? ⟨w.heap.size + 1, 1, none⟩ = some (.int .u64 ep) ∧ W'.cell? ⟨w.heap.size + 1 + 1, 0, none⟩ = some (.int .i64 now) ∧ W'.cell? ⟨w.heap.size + 1 + 1, 1, none⟩ = some (.int .i64 span) ∧ W'.cell? ⟨w1.heap.size, 0, none⟩ = some (.int .u64 e) ∧ W'.cell? ⟨w1.heap.size, 1, none⟩ = some (.int .i64 o) ∧ W'.cell? ⟨w1.heap.size, 2, none⟩ = some (.int .i64 v) ∧ Hid (W'.heap[w.heap.size]? = some (.cells #[.int .u64 e, .int .i64 o, .int .i64 u] 24 (0, 0))) ∧ Hid (W'.heap[w.heap.size + 1]? = some (.cells #[.int .i64 who, .int .u64 ep] 35 (0, 0))) ∧ Hid (W'.heap[w.heap.size + 2]? = some (.cells #[.int .i64 now, .int .i64 span] 26 (0, 0))) ∧ Hid (W'.heap[w1.heap.size]? = some (.cells #[.int .u64 e, .int .i64 o, .int .i64 v] 24 (0, 0)))) (w1.alloc (.cells #[.int .u64 e, .int .i64 o, .int .i64 v] 24)).drew := ⟨hBx.drew, keepa (by simp [*]), keepa (by simp [*]), keepa (by simp [*]), keepa (by simp [*]), keepa (by simp [*]), keepa (by simp [*]), keepa (by simp [*]), (cells3_of (alloc_at rfl)).1, (cells3_of (alloc_at rfl)).2.1, (cells3_of (alloc_at rfl)).2.2, Lib.hid ((alloc_lt lq1_l).trans Hq1_l.out), Lib.hid ((alloc_lt lq1_p).trans Hq1_p.out), Lib.hid ((alloc_lt lq1_n).trans Hq1_n.out), Lib.hid (alloc_at rfl)⟩
  have HS := Lib.hid hS0; clear hS0
  have hK : ∀ W1 W2, (fun W' => Below w.heap.size w W' ∧ W'.cell? ⟨w.heap.size, 0, none⟩ = some (.int .u64 e) ∧ W'.cell? ⟨w.heap.size, 1, none⟩ = some (.int .i64 o) ∧ W'.cell? ⟨w.heap.size, 2, none⟩ = some (.int .i64 u) ∧ W'.cell? ⟨w.heap.size + 1, 0, none⟩ = some (.int .i64 who) ∧ W'.cell? ⟨w.heap.size + 1, 1, none⟩ = some (.int .u64 ep) ∧ W'.cell? ⟨w.heap.size + 1 + 1, 0, none⟩ = some (.int .i64 now) ∧ W'.cell? ⟨w.heap.size + 1 + 1, 1, none⟩ = some (.int .i64 span) ∧ W'.cell? ⟨w1.heap.size, 0, none⟩ = some (.int .u64 e) ∧ W'.cell? ⟨w1.heap.size, 1, none⟩ = some (.int .i64 o) ∧ W'.cell? ⟨w1.heap.size, 2, none⟩ = some (.int .i64 v) ∧ Hid (W'.heap[w.heap.size]? = some (.cells #[.int .u64 e, .int .i64 o, .int .i64 u] 24 (0, 0))) ∧ Hid (W'.heap[w.heap.size + 1]? = some (.cells #[.int .i64 who, .int .u64 ep] 35 (0, 0))) ∧ Hid (W'.heap[w.heap.size + 2]? = some (.cells #[.int .i64 now, .int .i64 span] 26 (0, 0))) ∧ Hid (W'.heap[w1.heap.size]? = some (.cells #[.int .u64 e, .int .i64 o, .int .i64 v] 24 (0, 0)))) W1 → Below W1.heap.size W1 W2 → (fun W' => Below w.heap.size w W' ∧ W'.cell? ⟨w.heap.size, 0, none⟩ = some (.int .u64 e) ∧ W'.cell? ⟨w.heap.size, 1, none⟩ = some (.int .i64 o) ∧ W'.cell? ⟨w.heap.size, 2, none⟩ = some (.int .i64 u) ∧ W'.cell? ⟨w.heap.size + 1, 0, none⟩ = some (.int .i64 who) ∧ W'.cell? ⟨w.heap.size + 1, 1, none⟩ = some (.int .u64 ep) ∧ W'.cell? ⟨w.heap.size + 1 + 1, 0, none⟩ = some (.int .i64 now) ∧ W'.cell? ⟨w.heap.size + 1 + 1, 1, none⟩ = some (.int .i64 span) ∧ W'.cell? ⟨w1.heap.size, 0, none⟩ = some (.int .u64 e) ∧ W'.cell? ⟨w1.heap.size, 1, none⟩ = some (.int .i64 o) ∧ W'.cell? ⟨w1.heap.size, 2, none⟩ = some (.int .i64 v) ∧ Hid (W'.heap[w.heap.size]? = some (.cells #[.int .u64 e, .int .i64 o, .int .i64 u] 24 (0, 0))) ∧ Hid (W'.heap[w.heap.size + 1]? = some (.cells #[.int .i64 who, .int .u64 ep] 35 (0, 0))) ∧ Hid (W'.heap[w.heap.size + 2]? = some (.cells #[.int .i64 now, .int .i64 span] 26 (0, 0))) ∧ Hid (W'.heap[w1.heap.size]? = some (.cells #[.int .u64 e, .int .i64 o, .int .i64 v] 24 (0, 0)))) W2 := fun W1 W2 ⟨s0, s1, s2, s3, s4, s5, s6, s7, s8, s9, s10, s11, s12, s13, s14⟩ hb => ⟨Below.step s0 (Nat.le_refl _) hb, keepc (B := 0) hb s1 rfl, keepc (B := 0) hb s2 rfl, keepc (B := 0) hb s3 rfl, keepc (B := 0) hb s4 rfl, keepc (B := 0) hb s5 rfl, keepc (B := 0) hb s6 rfl, keepc (B := 0) hb s7 rfl, keepc (B := 0) hb s8 rfl, keepc (B := 0) hb s9 rfl, keepc (B := 0) hb s10 rfl, Lib.hid ((hb.block _ (lt_of_heap (Hid.out s11))).trans (Hid.out s11)), Lib.hid ((hb.block _ (lt_of_heap (Hid.out s12))).trans (Hid.out s12)), Lib.hid ((hb.block _ (lt_of_heap (Hid.out s13))).trans (Hid.out s13)), Lib.hid ((hb.block _ (lt_of_heap (Hid.out s14))).trans (Hid.out s14))⟩
  have HK := Lib.hid hK; clear hK
  go_region_held3 (fun W' => Below w.heap.size w W' ∧ W'.cell? ⟨w.heap.size, 0, none⟩ = some (.int .u64 e) ∧ W'.cell? ⟨w.heap.size, 1, none⟩ = some (.int .i64 o) ∧ W'.cell? ⟨w.heap.size, 2, none⟩ = some (.int .i64 u) ∧ W'.cell? ⟨w.heap.size + 1, 0, none⟩ = some (.int .i64 who) ∧ W'.cell? ⟨w.heap.size + 1, 1, none⟩ = some (.int .u64 ep) ∧ W'.cell? ⟨w.heap.size + 1 + 1, 0, none⟩ = some (.int .i64 now) ∧ W'.cell? ⟨w.heap.size + 1 + 1, 1, none⟩ = some (.int .i64 span) ∧ W'.cell? ⟨w1.heap.size, 0, none⟩ = some (.int .u64 e) ∧ W'.cell? ⟨w1.heap.size, 1, none⟩ = some (.int .i64 o) ∧ W'.cell? ⟨w1.heap.size, 2, none⟩ = some (.int .i64 v) ∧ Hid (W'.heap[w.heap.size]? = some (.cells #[.int .u64 e, .int .i64 o, .int .i64 u] 24 (0, 0))) ∧ Hid (W'.heap[w.heap.size + 1]? = some (.cells #[.int .i64 who, .int .u64 ep] 35 (0, 0))) ∧ Hid (W'.heap[w.heap.size + 2]? = some (.cells #[.int .i64 now, .int .i64 span] 26 (0, 0))) ∧ Hid (W'.heap[w1.heap.size]? = some (.cells #[.int .u64 e, .int .i64 o, .int .i64 v] 24 (0, 0)))) (first | exact HS.out | exact hT) (first | (go_at_call 17; refine (left_any _ _ _ _ _ he).mono ?_; (first | rw [HD1.out] | rw [HD2.out]); rintro ev wv ⟨rfl, hbv⟩; first | (have hT := HK.out _ _ HS.out hbv) | (rename_i hHeld _ _; have hT := HK.out _ _ hHeld hbv)))
  all_goals
    clear HS HK
    obtain ⟨hB2, q0, q1, q2, q3, q4, q5, q6, q7, q8, q9, Hq2_l, Hq2_p, Hq2_n, Hq2_x⟩ := hT
    have lq2_l := lt_of_heap Hq2_l.out; have lq2_p := lt_of_heap Hq2_p.out; have lq2_n := lt_of_heap Hq2_n.out; have lq2_x := lt_of_heap Hq2_x.out
    clear Hq1_l lq1_l fq1_l cq1_l Hq1_p lq1_p fq1_p cq1_p Hq1_n lq1_n cq1_n fq1_n hB1 hBx hb1
    try clear hHeld
    have cq2_l := cells3_of Hq2_l.out; have fq2_l : ∀ k, wv.frozen? ⟨w.heap.size, k, none⟩ = false := fun k => frozen_of_heap Hq2_l.out
    have cq2_p := cells2_of Hq2_p.out; have fq2_p : ∀ k, wv.frozen? ⟨w.heap.size + 1, k, none⟩ = false := fun k => frozen_of_heap Hq2_p.out
    have cq2_n := cells2_of Hq2_n.out; have fq2_n : ∀ k, wv.frozen? ⟨w.heap.size + 2, k, none⟩ = false := fun k => frozen_of_heap Hq2_n.out
    have cq2_x := cells3_of Hq2_x.out; have fq2_x : ∀ k, wv.frozen? ⟨w1.heap.size, k, none⟩ = false := fun k => frozen_of_heap Hq2_x.out
    clear q0 q1 q2 q3 q4 q5 q6 q7 q8 q9
    go_wp2_with (go_at_call 14; fail)
    all_goals
      refine (yield_any _ _ _ _ _ _ _ he).mono ?_; rw [HY.out]
      rintro e3 w3 ⟨rfl, hb3⟩
      have hB3 : Below w.heap.size w w3 := Below.step (by go_grown) (by go_size) hb3
      have hz3 := hb3.size; try simp at hz3
      have q3_l : w3.heap[w.heap.size]? = some (.cells #[.int .u64 e, .int .i64 o, .int .i64 u] 24 (0, 0)) := (hb3.block (w.heap.size) (by go_size)).trans (by repeat (first | exact Hq2_l.out | exact alloc_at (by go_size) | refine (alloc_lt (by go_size)).trans ?_ | refine (set_ne (by first | omega | (simp; done) | (simp; omega))).trans ?_))
      have q3_p : w3.heap[w.heap.size + 1]? = some (.cells #[.int .i64 who, .int .u64 ep] 35 (0, 0)) := (hb3.block (w.heap.size + 1) (by go_size)).trans (by repeat (first | exact Hq2_p.out | exact alloc_at (by go_size) | refine (alloc_lt (by go_size)).trans ?_ | refine (set_ne (by first | omega | (simp; done) | (simp; omega))).trans ?_))
      have q3_n : w3.heap[w.heap.size + 2]? = some (.cells #[.int .i64 now, .int .i64 span] 26 (0, 0)) := (hb3.block (w.heap.size + 2) (by go_size)).trans (by repeat (first | exact Hq2_n.out | exact alloc_at (by go_size) | refine (alloc_lt (by go_size)).trans ?_ | refine (set_ne (by first | omega | (simp; done) | (simp; omega))).trans ?_))
      have q3_x : w3.heap[w1.heap.size]? = some (.cells #[.int .u64 e, .int .i64 o, .int .i64 v] 24 (0, 0)) := (hb3.block (w1.heap.size) (by go_size)).trans (by repeat (first | exact Hq2_x.out | exact alloc_at (by go_size) | refine (alloc_lt (by go_size)).trans ?_ | refine (set_ne (by first | omega | (simp; done) | (simp; omega))).trans ?_))
      have cq3_l := cells3_of q3_l
      have lq3_l := lt_of_heap q3_l
      have fq3_l : ∀ k, w3.frozen? ⟨w.heap.size, k, none⟩ = false := fun k => frozen_of_heap q3_l
      have cq3_p := cells2_of q3_p
      have lq3_p := lt_of_heap q3_p
      have fq3_p : ∀ k, w3.frozen? ⟨w.heap.size + 1, k, none⟩ = false := fun k => frozen_of_heap q3_p
      have cq3_n := cells2_of q3_n
      have lq3_n := lt_of_heap q3_n
      have fq3_n : ∀ k, w3.frozen? ⟨w.heap.size + 2, k, none⟩ = false := fun k => frozen_of_heap q3_n
      have cq3_x := cells3_of q3_x
      have lq3_x := lt_of_heap q3_x
      have fq3_x : ∀ k, w3.frozen? ⟨w1.heap.size, k, none⟩ = false := fun k => frozen_of_heap q3_x
      have Hq3_l := Lib.hid q3_l; clear q3_l
      have Hq3_p := Lib.hid q3_p; clear q3_p
      have Hq3_n := Lib.hid q3_n; clear q3_n
      have Hq3_x := Lib.hid q3_x; clear q3_x
      clear Hq2_l cq2_l fq2_l Hq2_p cq2_p fq2_p Hq2_n cq2_n fq2_n Hq2_x cq2_x fq2_x hB2
      go_wp2_with (go_at_call 16; fail)
      refine (holds_any _ _ _ _ _ _ _ he).mono ?_; rw [HH.out]
      rintro e4 w4 ⟨rfl, hb4⟩
      have hB4 : Below w.heap.size w w4 := Below.step (by go_grown) (by go_size) hb4
      have hz4 := hb4.size; try simp at hz4
      have q4_l : w4.heap[w.heap.size]? = some (.cells #[.int .u64 e, .int .i64 o, .int .i64 u] 24 (0, 0)) := (hb4.block (w.heap.size) (by go_size)).trans (by repeat (first | exact Hq3_l.out | exact alloc_at (by go_size) | refine (alloc_lt (by go_size)).trans ?_ | refine (set_ne (by first | omega | (simp; done) | (simp; omega))).trans ?_))
      have q4_p : w4.heap[w.heap.size + 1]? = some (.cells #[.int .i64 who, .int .u64 ep] 35 (0, 0)) := (hb4.block (w.heap.size + 1) (by go_size)).trans (by repeat (first | exact Hq3_p.out | exact alloc_at (by go_size) | refine (alloc_lt (by go_size)).trans ?_ | refine (set_ne (by first | omega | (simp; done) | (simp; omega))).trans ?_))
      have q4_n : w4.heap[w.heap.size + 2]? = some (.cells #[.int .i64 now, .int .i64 span] 26 (0, 0)) := (hb4.block (w.heap.size + 2) (by go_size)).trans (by repeat (first | exact Hq3_n.out | exact alloc_at (by go_size) | refine (alloc_lt (by go_size)).trans ?_ | refine (set_ne (by first | omega | (simp; done) | (simp; omega))).trans ?_))
      have q4_x : w4.heap[w1.heap.size]? = some (.cells #[.int .u64 e, .int .i64 o, .int .i64 v] 24 (0, 0)) := (hb4.block (w1.heap.size) (by go_size)).trans (by repeat (first | exact Hq3_x.out | exact alloc_at (by go_size) | refine (alloc_lt (by go_size)).trans ?_ | refine (set_ne (by first | omega | (simp; done) | (simp; omega))).trans ?_))
      have q4_y : w4.heap[w3.heap.size]? = some (.cells #[.int .u64 e, .int .i64 o, .int .i64 now] 24 (0, 0)) := (hb4.block (w3.heap.size) (by go_size)).trans (by repeat (first | exact alloc_at (by go_size) | refine (alloc_lt (by go_size)).trans ?_ | refine (set_ne (by first | omega | (simp; done) | (simp; omega))).trans ?_))
      have cq4_l := cells3_of q4_l
      have lq4_l := lt_of_heap q4_l
      have fq4_l : ∀ k, w4.frozen? ⟨w.heap.size, k, none⟩ = false := fun k => frozen_of_heap q4_l
      have cq4_p := cells2_of q4_p
      have lq4_p := lt_of_heap q4_p
      have fq4_p : ∀ k, w4.frozen? ⟨w.heap.size + 1, k, none⟩ = false := fun k => frozen_of_heap q4_p
      have cq4_n := cells2_of q4_n
      have lq4_n := lt_of_heap q4_n
      have fq4_n : ∀ k, w4.frozen? ⟨w.heap.size + 2, k, none⟩ = false := fun k => frozen_of_heap q4_n
      have cq4_x := cells3_of q4_x
      have lq4_x := lt_of_heap q4_x
      have fq4_x : ∀ k, w4.frozen? ⟨w1.heap.size, k, none⟩ = false := fun k => frozen_of_heap q4_x
      have cq4_y := cells3_of q4_y
      have lq4_y := lt_of_heap q4_y
      have fq4_y : ∀ k, w4.frozen? ⟨w3.heap.size, k, none⟩ = false := fun k => frozen_of_heap q4_y
      have Hq4_l := Lib.hid q4_l; clear q4_l
      have Hq4_p := Lib.hid q4_p; clear q4_p
      have Hq4_n := Lib.hid q4_n; clear q4_n
      have Hq4_x := Lib.hid q4_x; clear q4_x
      have Hq4_y := Lib.hid q4_y; clear q4_y
      clear Hq3_l cq3_l fq3_l Hq3_p cq3_p fq3_p Hq3_n cq3_n fq3_n Hq3_x cq3_x fq3_x hB3
      go_wp2_with (go_at_call 8; fail)
      refine (acquire_any _ _ _ _ _ _ _ he).mono ?_; rw [HA.out]
      rintro e5 w5 ⟨rfl, hb5⟩
      have hB5 : Below w.heap.size w w5 := Below.step (by go_grown) (by go_size) hb5
      have hz5 := hb5.size; try simp at hz5
      have q5_l : w5.heap[w.heap.size]? = some (.cells #[.int .u64 e, .int .i64 o, .int .i64 u] 24 (0, 0)) := (hb5.block (w.heap.size) (by go_size)).trans (by repeat (first | exact Hq4_l.out | exact alloc_at (by go_size) | refine (alloc_lt (by go_size)).trans ?_ | refine (set_ne (by first | omega | (simp; done) | (simp; omega))).trans ?_))
      have q5_p : w5.heap[w.heap.size + 1]? = some (.cells #[.int .i64 who, .int .u64 ep] 35 (0, 0)) := (hb5.block (w.heap.size + 1) (by go_size)).trans (by repeat (first | exact Hq4_p.out | exact alloc_at (by go_size) | refine (alloc_lt (by go_size)).trans ?_ | refine (set_ne (by first | omega | (simp; done) | (simp; omega))).trans ?_))
      have q5_n : w5.heap[w.heap.size + 2]? = some (.cells #[.int .i64 now, .int .i64 span] 26 (0, 0)) := (hb5.block (w.heap.size + 2) (by go_size)).trans (by repeat (first | exact Hq4_n.out | exact alloc_at (by go_size) | refine (alloc_lt (by go_size)).trans ?_ | refine (set_ne (by first | omega | (simp; done) | (simp; omega))).trans ?_))
      have q5_x : w5.heap[w1.heap.size]? = some (.cells #[.int .u64 e, .int .i64 o, .int .i64 v] 24 (0, 0)) := (hb5.block (w1.heap.size) (by go_size)).trans (by repeat (first | exact Hq4_x.out | exact alloc_at (by go_size) | refine (alloc_lt (by go_size)).trans ?_ | refine (set_ne (by first | omega | (simp; done) | (simp; omega))).trans ?_))
      have q5_y : w5.heap[w3.heap.size]? = some (.cells #[.int .u64 e, .int .i64 o, .int .i64 now] 24 (0, 0)) := (hb5.block (w3.heap.size) (by go_size)).trans (by repeat (first | exact Hq4_y.out | exact alloc_at (by go_size) | refine (alloc_lt (by go_size)).trans ?_ | refine (set_ne (by first | omega | (simp; done) | (simp; omega))).trans ?_))
      have cq5_l := cells3_of q5_l
      have lq5_l := lt_of_heap q5_l
      have fq5_l : ∀ k, w5.frozen? ⟨w.heap.size, k, none⟩ = false := fun k => frozen_of_heap q5_l
      have cq5_p := cells2_of q5_p
      have lq5_p := lt_of_heap q5_p
      have fq5_p : ∀ k, w5.frozen? ⟨w.heap.size + 1, k, none⟩ = false := fun k => frozen_of_heap q5_p
      have cq5_n := cells2_of q5_n
      have lq5_n := lt_of_heap q5_n
      have fq5_n : ∀ k, w5.frozen? ⟨w.heap.size + 2, k, none⟩ = false := fun k => frozen_of_heap q5_n
      have cq5_x := cells3_of q5_x
      have lq5_x := lt_of_heap q5_x
      have fq5_x : ∀ k, w5.frozen? ⟨w1.heap.size, k, none⟩ = false := fun k => frozen_of_heap q5_x
      have cq5_y := cells3_of q5_y
      have lq5_y := lt_of_heap q5_y
      have fq5_y : ∀ k, w5.frozen? ⟨w3.heap.size, k, none⟩ = false := fun k => frozen_of_heap q5_y
      have Hq5_l := Lib.hid q5_l; clear q5_l
      have Hq5_p := Lib.hid q5_p; clear q5_p
      have Hq5_n := Lib.hid q5_n; clear q5_n
      have Hq5_x := Lib.hid q5_x; clear q5_x
      have Hq5_y := Lib.hid q5_y; clear q5_y
      clear Hq4_l cq4_l fq4_l Hq4_p cq4_p fq4_p Hq4_n cq4_n fq4_n Hq4_x cq4_x fq4_x Hq4_y cq4_y fq4_y hB4
      go_wp2_with (go_at_call 18; fail)
      refine (stale_any _ _ _ _ _ (by omega)).mono ?_; rw [HT.out]
      rintro e6 w6 ⟨rfl, hb6⟩
      have hB6 : Below w.heap.size w w6 := Below.step (by go_grown) (by go_size) hb6
      have hz6 := hb6.size; try simp at hz6
      have q6_l : w6.heap[w.heap.size]? = some (.cells #[.int .u64 e, .int .i64 o, .int .i64 u] 24 (0, 0)) := (hb6.block (w.heap.size) (by go_size)).trans (by repeat (first | exact Hq5_l.out | exact alloc_at (by go_size) | refine (alloc_lt (by go_size)).trans ?_ | refine (set_ne (by first | omega | (simp; done) | (simp; omega))).trans ?_))
      have q6_p : w6.heap[w.heap.size + 1]? = some (.cells #[.int .i64 who, .int .u64 ep] 35 (0, 0)) := (hb6.block (w.heap.size + 1) (by go_size)).trans (by repeat (first | exact Hq5_p.out | exact alloc_at (by go_size) | refine (alloc_lt (by go_size)).trans ?_ | refine (set_ne (by first | omega | (simp; done) | (simp; omega))).trans ?_))
      have q6_n : w6.heap[w.heap.size + 2]? = some (.cells #[.int .i64 now, .int .i64 span] 26 (0, 0)) := (hb6.block (w.heap.size + 2) (by go_size)).trans (by repeat (first | exact Hq5_n.out | exact alloc_at (by go_size) | refine (alloc_lt (by go_size)).trans ?_ | refine (set_ne (by first | omega | (simp; done) | (simp; omega))).trans ?_))
      have q6_x : w6.heap[w1.heap.size]? = some (.cells #[.int .u64 e, .int .i64 o, .int .i64 v] 24 (0, 0)) := (hb6.block (w1.heap.size) (by go_size)).trans (by repeat (first | exact Hq5_x.out | exact alloc_at (by go_size) | refine (alloc_lt (by go_size)).trans ?_ | refine (set_ne (by first | omega | (simp; done) | (simp; omega))).trans ?_))
      have q6_y : w6.heap[w3.heap.size]? = some (.cells #[.int .u64 e, .int .i64 o, .int .i64 now] 24 (0, 0)) := (hb6.block (w3.heap.size) (by go_size)).trans (by repeat (first | exact Hq5_y.out | exact alloc_at (by go_size) | refine (alloc_lt (by go_size)).trans ?_ | refine (set_ne (by first | omega | (simp; done) | (simp; omega))).trans ?_))
      have q6_z : w6.heap[w5.heap.size]? = some (.cells #[.int .u64 (e + 1), .int .i64 (who % 3 + 1), .int .i64 (now + span)] 24 (0, 0)) := (hb6.block (w5.heap.size) (by go_size)).trans (by repeat (first | exact alloc_at (by go_size) | refine (alloc_lt (by go_size)).trans ?_ | refine (set_ne (by first | omega | (simp; done) | (simp; omega))).trans ?_))
      have cq6_l := cells3_of q6_l
      have lq6_l := lt_of_heap q6_l
      have fq6_l : ∀ k, w6.frozen? ⟨w.heap.size, k, none⟩ = false := fun k => frozen_of_heap q6_l
      have cq6_p := cells2_of q6_p
      have lq6_p := lt_of_heap q6_p
      have fq6_p : ∀ k, w6.frozen? ⟨w.heap.size + 1, k, none⟩ = false := fun k => frozen_of_heap q6_p
      have cq6_n := cells2_of q6_n
      have lq6_n := lt_of_heap q6_n
      have fq6_n : ∀ k, w6.frozen? ⟨w.heap.size + 2, k, none⟩ = false := fun k => frozen_of_heap q6_n
      have cq6_x := cells3_of q6_x
      have lq6_x := lt_of_heap q6_x
      have fq6_x : ∀ k, w6.frozen? ⟨w1.heap.size, k, none⟩ = false := fun k => frozen_of_heap q6_x
      have cq6_y := cells3_of q6_y
      have lq6_y := lt_of_heap q6_y
      have fq6_y : ∀ k, w6.frozen? ⟨w3.heap.size, k, none⟩ = false := fun k => frozen_of_heap q6_y
      have cq6_z := cells3_of q6_z
      have lq6_z := lt_of_heap q6_z
      have fq6_z : ∀ k, w6.frozen? ⟨w5.heap.size, k, none⟩ = false := fun k => frozen_of_heap q6_z
      have Hq6_l := Lib.hid q6_l; clear q6_l
      have Hq6_p := Lib.hid q6_p; clear q6_p
      have Hq6_n := Lib.hid q6_n; clear q6_n
      have Hq6_x := Lib.hid q6_x; clear q6_x
      have Hq6_y := Lib.hid q6_y; clear q6_y
      have Hq6_z := Lib.hid q6_z; clear q6_z
      clear Hq5_l cq5_l fq5_l Hq5_p cq5_p fq5_p Hq5_n cq5_n fq5_n Hq5_x cq5_x fq5_x Hq5_y cq5_y fq5_y hB5
      go_wp2
      go_ret
      exact ⟨rfl, by go_grown⟩

end Go.Proofs.Ytgeieeohaeeccaa
