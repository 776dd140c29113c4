/- Walks of the lease layer, 2. -/
import Derived.Test.YtgeieeohaeeccaaW1
import Derived.Lib.Hide
namespace Go.Proofs.Ytgeieeohaeeccaa
open Go.RowKit

theorem lt_of_heap {w : World} {b : Nat} {o : Obj} (h : w.heap[b]? = some o) : b < w.heap.size := by
  rcases Nat.lt_or_ge b w.heap.size with h' | h'
  · exact h'
  · simp [Array.getElem?_eq_none h'] at h

theorem undrew {B : Nat} {w w' : World} (h : Below B w.drew w') : Below B w w' := ⟨h.os, h.tape, h.output, h.size, h.block⟩

theorem grown_of_below {w w' : World} {r : Option Nat} (h : Below w.heap.size w w') : w.grownBy w' r := ⟨h.os, h.tape, h.output, h.size, fun k hk _ => h.block k hk⟩

theorem blk_set3 {w : World} {b : Nat} {x y z x' y' z' : Value} {t : TypeId} (h : w.heap[b]? = some (.cells #[x, y, z] t (0, 0))) :
    (((w.setCell ⟨b, 0, none⟩ x').setCell ⟨b, 1, none⟩ y').setCell ⟨b, 2, none⟩ z').heap[b]? = some (.cells #[x', y', z'] t (0, 0)) := by
  simp [World.setCell, Array.getElem?_modify, h]
theorem blk_set {w : World} {b i : Nat} {cs : Array Value} {v : Value} {t : TypeId} (h : w.heap[b]? = some (.cells cs t (0, 0))) :
    (w.setCell ⟨b, i, none⟩ v).heap[b]? = some (.cells (cs.setIfInBounds i v) t (0, 0)) := by
  simp [World.setCell, Array.getElem?_modify, h]
theorem grown_set {w w1 : World} {b k : Nat} {v : Value} (h : w.grownBy w1 (some b)) : w.grownBy (w1.setCell ⟨b, k, none⟩ v) (some b) :=
  ⟨h.os, h.tape, h.output, by simpa [World.setCell] using h.size, fun j hj hne => by
    have hne' : j ≠ b := fun e => hne (by rw [e])
    rw [Below.heap_setCell _ _ _ _ hne']; exact h.block j hj hne⟩
theorem grown_drew {w w1 : World} {r : Option Nat} (h : w.grownBy w1 r) : w.grownBy w1.drew r := ⟨h.os, h.tape, h.output, h.size, h.block⟩

def acq (e h u who now span : Int) : Int × Int × Int × Int := if now < u then (311, e, h, u) else if e = 2147483647 then (6, e, h, u) else (0, e + 1, who, now + span)

set_option maxHeartbeats 1000000 in
theorem acq1_any (e h u who now span : Int) (b b1 b2 b3 : Nat) (w : World) (he : 0 ≤ e) (he' : e ≤ 18446744073709551614) (h1 : 0 ≤ now) (h2 : now ≤ 1099511627776) (h3 : 0 ≤ span) (h4 : span ≤ 100)
    (hb : w.heap[b]? = some (.cells #[.int .u64 e, .int .i64 h, .int .i64 u] 24 (0, 0)))
    (hw : w.heap[b2]? = some (.cells #[.int .i64 who] 3 (0, 0))) (hn : w.heap[b1]? = some (.cells #[.int .i64 now] 2 (0, 0))) (hs : w.heap[b3]? = some (.cells #[.int .i64 span] 2 (0, 0))) :
    Calls Try.prog 20 #[.pointer (some ⟨b, 0, none⟩), .pointer (some ⟨b1, 0, none⟩), .pointer (some ⟨b2, 0, none⟩), .pointer (some ⟨b3, 0, none⟩)] w fun en w' =>
      en = .returned (.int .i64 (acq e h u who now span).1) ∧ w'.heap[b]? = some (.cells #[.int .u64 (acq e h u who now span).2.1, .int .i64 (acq e h u who now span).2.2.1, .int .i64 (acq e h u who now span).2.2.2] 24 (0, 0)) ∧ w.grownBy w' (some b) := by
  have c0 := cell_of_heap3 hb
  have f0 : ∀ n, w.frozen? ⟨b, n, none⟩ = false := fun n => frozen_of_heap hb
  have c1 := cell_of_heap (n := 0) hw
  have c2 := cell_of_heap (n := 0) hn
  have c3 := cell_of_heap (n := 0) hs
  simp at c1 c2 c3
  have l0 := lt_of_heap hb
  have l1 := lt_of_heap hn
  have l2 := lt_of_heap hw
  have l3 := lt_of_heap hs
  have Hb := Lib.hid hb; clear hb
  have Hn := Lib.hid hn; clear hn
  have Hw := Lib.hid hw; clear hw
  have Hs := Lib.hid hs; clear hs
  go_enter Try.func20, Try.ntmps20
  go_wp2
  go_still_tail 4, (by kernel_rfl)
  change wpList _ _ _ _ _ w.drew
  go_wp2_with (go_at_call 21; refine (held_any _ _ _ _ _).mono ?_; rintro e w' ⟨rfl, hb⟩; have hb : Below w.heap.size w w' := undrew hb; obtain ⟨hc, hf⟩ := bcell hb)
  · go_ret
    refine ⟨ret_int (by simp [acq, *]), ?_, ?_⟩
    · rw [hb.block _ l0, Hb.out]; simp [acq, *]
    · exact grown_of_below hb
  · go_ret
    have : e = 2147483647 := by simp_all
    have : ¬ now < u := by omega
    refine ⟨ret_int (by simp [acq, *]), ?_, ?_⟩
    · rw [hb.block _ l0, Hb.out]; simp [acq, *]
    · exact grown_of_below hb
  · go_still_tail 11, (by kernel_rfl)
    change wpList _ _ _ _ _ (World.drew _)
    go_wp2
    have h7 : ¬ now < u := by omega
    have h8 : e ≠ 2147483647 := by simp_all
    go_ret
    refine ⟨ret_int (by simp [acq, *]), ?_, ?_⟩
    · rw [show acq e h u who now span = (0, e + 1, who, now + span) by simp [acq, h7, h8]]
      exact blk_set3 ((hb.block _ l0).trans Hb.out)
    · exact grown_drew (grown_set (grown_set (grown_set (grown_of_below hb))))

def ren (e h u who ep now span : Int) : Int × Int := if refu e h u who ep now ≠ 0 then (refu e h u who ep now, u) else (0, if now + span > u then now + span else u)

set_option maxHeartbeats 1000000 in
theorem ren1_any (e o u who ep now span : Int) (b b1 b2 b3 b4 : Nat) (w : World) (h1 : 0 ≤ now) (h2 : now ≤ 1099511627776) (h3 : 0 ≤ span) (h4 : span ≤ 100)
    (hb : w.heap[b]? = some (.cells #[.int .u64 e, .int .i64 o, .int .i64 u] 24 (0, 0)))
    (hw : w.heap[b1]? = some (.cells #[.int .i64 who] 3 (0, 0))) (he : w.heap[b2]? = some (.cells #[.int .u64 ep] 22 (0, 0))) (hn : w.heap[b3]? = some (.cells #[.int .i64 now] 2 (0, 0))) (hs : w.heap[b4]? = some (.cells #[.int .i64 span] 2 (0, 0))) :
    Calls Try.prog 24 #[.pointer (some ⟨b, 0, none⟩), .pointer (some ⟨b1, 0, none⟩), .pointer (some ⟨b2, 0, none⟩), .pointer (some ⟨b3, 0, none⟩), .pointer (some ⟨b4, 0, none⟩)] w fun en w' =>
      en = .returned (.int .i64 (ren e o u who ep now span).1) ∧ w'.heap[b]? = some (.cells #[.int .u64 e, .int .i64 o, .int .i64 (ren e o u who ep now span).2] 24 (0, 0)) ∧ w.grownBy w' (some b) := by
  have c0 := cell_of_heap3 hb
  have f0 : ∀ n, w.frozen? ⟨b, n, none⟩ = false := fun n => frozen_of_heap hb
  have c1 := cell_of_heap (n := 0) hw
  have c2 := cell_of_heap (n := 0) hn
  have c3 := cell_of_heap (n := 0) hs
  have c4 := cell_of_heap (n := 0) he
  simp at c1 c2 c3 c4
  have l0 := lt_of_heap hb
  have l1 := lt_of_heap hn
  have l2 := lt_of_heap hw
  have l3 := lt_of_heap hs
  have l4 := lt_of_heap he
  have Hb := Lib.hid hb; clear hb
  clear hn hw hs he
  by_cases hr : refu e o u who ep now = 0
  · go_enter Try.func24, Try.ntmps24
    go_wp2
    go_still_tail 6, (by kernel_rfl)
    change wpList _ _ _ _ _ w.drew
    go_wp2_with (go_at_call 25; refine (refuses_any _ _ _ _ _ _ _).mono ?_; rintro e w' ⟨rfl, hb⟩; have hb : Below w.heap.size w w' := undrew hb; obtain ⟨hc, hf⟩ := bcell hb)
    have hr1 : (ren e o u who ep now span).1 = 0 := by simp [ren, hr]
    by_cases hm : u < now + span
    · have hr2 : (ren e o u who ep now span).2 = now + span := by simp [ren, hr, hm]
      have hwr : IntKind.i64.wrap (now + span) = now + span := IntWalk.i64_in _ (by omega)
      go_still_tail 9, (by kernel_rfl)
      clear hwr
      change wpList _ _ _ _ _ (World.drew _)
      go_wp2
      go_ret
      refine ⟨ret_int (by first | rfl | exact hr1.symm), ?_, ?_⟩
      · first | exact blk_set ((hb.block _ l0).trans Hb.out) | (rw [hr2]; exact blk_set ((hb.block _ l0).trans Hb.out))
      · exact grown_drew (grown_set (grown_of_below hb))
    · have hr2 : (ren e o u who ep now span).2 = u := by simp [ren, hr, hm]
      have hwr : IntKind.i64.wrap (now + span) = now + span := IntWalk.i64_in _ (by omega)
      go_still_tail 9, (by kernel_rfl)
      clear hwr
      change wpList _ _ _ _ _ (World.drew _)
      go_wp2
      go_ret
      refine ⟨ret_int (by first | rfl | exact hr1.symm), ?_, ?_⟩
      · first | exact blk_set ((hb.block _ l0).trans Hb.out) | (rw [hr2]; exact blk_set ((hb.block _ l0).trans Hb.out))
      · exact grown_drew (grown_set (grown_of_below hb))
  · go_enter Try.func24, Try.ntmps24
    go_wp2
    go_still_tail 6, (by kernel_rfl)
    change wpList _ _ _ _ _ w.drew
    go_wp2_with (go_at_call 25; refine (refuses_any _ _ _ _ _ _ _).mono ?_; rintro e w' ⟨rfl, hb⟩; have hb : Below w.heap.size w w' := undrew hb; obtain ⟨hc, hf⟩ := bcell hb)
    go_ret
    refine ⟨ret_int (by simp [ren, *]), ?_, ?_⟩
    · rw [hb.block _ l0, Hb.out]; simp [ren, *]
    · exact grown_of_below hb


def yie (e h u who ep now : Int) : Int × Int := if refu e h u who ep now ≠ 0 then (refu e h u who ep now, u) else (0, now)

set_option maxHeartbeats 1000000 in
theorem yie1_any (e h u who ep now : Int) (b b1 b2 b3 : Nat) (w : World)
    (hb : w.heap[b]? = some (.cells #[.int .u64 e, .int .i64 h, .int .i64 u] 24 (0, 0)))
    (hw : w.heap[b1]? = some (.cells #[.int .i64 who] 3 (0, 0))) (he : w.heap[b2]? = some (.cells #[.int .u64 ep] 22 (0, 0))) (hn : w.heap[b3]? = some (.cells #[.int .i64 now] 2 (0, 0))) :
    Calls Try.prog 26 #[.pointer (some ⟨b, 0, none⟩), .pointer (some ⟨b1, 0, none⟩), .pointer (some ⟨b2, 0, none⟩), .pointer (some ⟨b3, 0, none⟩)] w fun en w' =>
      en = .returned (.int .i64 (yie e h u who ep now).1) ∧ w'.heap[b]? = some (.cells #[.int .u64 e, .int .i64 h, .int .i64 (yie e h u who ep now).2] 24 (0, 0)) ∧ w.grownBy w' (some b) := by
  have c0 := cell_of_heap3 hb
  have f0 : ∀ n, w.frozen? ⟨b, n, none⟩ = false := fun n => frozen_of_heap hb
  have c1 := cell_of_heap (n := 0) hw
  have c2 := cell_of_heap (n := 0) hn
  have c4 := cell_of_heap (n := 0) he
  simp at c1 c2 c4
  have l0 := lt_of_heap hb
  have l1 := lt_of_heap hn
  have l2 := lt_of_heap hw
  have l4 := lt_of_heap he
  have Hb := Lib.hid hb; clear hb
  clear hn hw he
  by_cases hr : refu e h u who ep now = 0
  · go_enter Try.func26, Try.ntmps26
    go_wp2
    go_still_tail 6, (by kernel_rfl)
    change wpList _ _ _ _ _ w.drew
    go_wp2_with (go_at_call 25; refine (refuses_any _ _ _ _ _ _ _).mono ?_; rintro e w' ⟨rfl, hb⟩; have hb : Below w.heap.size w w' := undrew hb; obtain ⟨hc, hf⟩ := bcell hb)
    go_ret
    refine ⟨ret_int (by simp [yie, *]), ?_, ?_⟩
    · rw [show (yie e h u who ep now).2 = now by simp [yie, hr]]
      exact blk_set ((hb.block _ l0).trans Hb.out)
    · exact (grown_set (grown_of_below hb))
  · go_enter Try.func26, Try.ntmps26
    go_wp2
    go_still_tail 6, (by kernel_rfl)
    change wpList _ _ _ _ _ w.drew
    go_wp2_with (go_at_call 25; refine (refuses_any _ _ _ _ _ _ _).mono ?_; rintro e w' ⟨rfl, hb⟩; have hb : Below w.heap.size w w' := undrew hb; obtain ⟨hc, hf⟩ := bcell hb)
    go_ret
    refine ⟨ret_int (by simp [yie, *]), ?_, ?_⟩
    · rw [hb.block _ l0, Hb.out]; simp [yie, *]
    · exact grown_of_below hb

end Go.Proofs.Ytgeieeohaeeccaa
