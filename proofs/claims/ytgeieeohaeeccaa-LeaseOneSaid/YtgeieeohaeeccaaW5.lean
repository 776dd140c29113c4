/- Walks of the lease layer, 5. -/
import Derived.Test.YtgeieeohaeeccaaW4
namespace Go.Proofs.Ytgeieeohaeeccaa
open Go.RowKit

attribute [simp] lres

def acquireF (e h u who now span : Int) : Int × Int × Int × Int :=
  if asked e h u who now span ≠ 0 then (asked e h u who now span, 0, 0, 0) else (if (acq e h u who now span).1 ≠ 0 then ((acq e h u who now span).1, 0, 0, 0) else acq e h u who now span)
theorem asked_zero {e h u who now span : Int} (ha : asked e h u who now span = 0) : right e h u = true ∧ 1 ≤ who ∧ who ≤ 3 ∧ 0 ≤ now ∧ now ≤ 1099511627676 ∧ 1 ≤ span ∧ span ≤ 100 := by
  unfold asked at ha
  split at ha
  · simp at ha
  · split at ha
    · simp at ha
    · rename_i h1 h2
      refine ⟨by simpa using h1, ?_⟩
      omega
theorem right_bd {e h u : Int} (hr : right e h u = true) : 0 ≤ e ∧ e ≤ 2147483647 ∧ 0 ≤ h ∧ h ≤ 3 ∧ 0 ≤ u ∧ u ≤ 1099511627776 := by
  unfold right at hr
  split at hr
  · simp at hr; omega
  · simp at hr; omega

set_option maxHeartbeats 1000000 in
theorem acquire_any (e h u who now span : Int) (w : World) (he : 0 ≤ e) :
    Calls Try.prog 8 #[.agg #[.int .u64 e, .int .i64 h, .int .i64 u], .int .i64 who, .int .i64 now, .int .i64 span] w fun en w' => en = .returned (lres (acquireF e h u who now span)) ∧ Below w.heap.size w w' := by
  by_cases ha : asked e h u who now span = 0
  · have hF : acquireF e h u who now span = (if (acq e h u who now span).1 ≠ 0 then ((acq e h u who now span).1, 0, 0, 0) else (acq e h u who now span)) := by simp only [acquireF, ha]; simp
    obtain ⟨hr, h1, h2, h3, h4, h5, h6⟩ := asked_zero ha
    obtain ⟨_, g2, _, _, _, _⟩ := right_bd hr
    rw [hF]
    generalize hZ : (if (acq e h u who now span).1 ≠ 0 then ((acq e h u who now span).1, 0, 0, 0) else (acq e h u who now span)) = Z
    have HZ := Lib.hid hZ
    clear hr
    have HA := Lib.hid ha
    clear hF ha hZ
    go_enter Try.func8, Try.ntmps8
    go_wp2_with (go_at_call 19; fail)
    refine (turn_good_acq _ _ _ _ _ _ _ _ _ (acq e h u who now span) _ he HA.out ?_).mono ?_
    · intro W b hb hB
      refine acq1_any e h u who now span b _ _ _ W he (by omega) h3 (by omega) (by omega) h6 hb ?_ ?_ ?_
      all_goals
        refine (hB.block _ (by simp; try omega)).trans ?_
        repeat (first | exact alloc_at (by simp) | refine (alloc_lt (by simp; try omega)).trans ?_)
    rw [HZ.out]
    rintro e2 w' ⟨rfl, hb1⟩; obtain ⟨hc, hf⟩ := bcell hb1; simp only [World.size_alloc] at hc hf; have hB1 : Below w.heap.size w w' := Below.step (by go_grown) (by go_size) hb1
    go_wp2
    refine bodyPost_ret (v := lres Z) (by simp [results, Try.results8, go_sem, hc]) rfl ⟨rfl, ?_⟩
    go_grown
  · have hF : acquireF e h u who now span = (asked e h u who now span, 0, 0, 0) := by simp [acquireF, ha]
    rw [hF]
    have HA := Lib.hid ha
    clear ha hF
    generalize hZ : asked e h u who now span = Z at *
    have HZ := Lib.hid hZ; clear hZ
    go_enter Try.func8, Try.ntmps8
    go_wp2_with (go_at_call 19; refine (turn_bad _ _ _ _ _ _ _ _ he (by rw [HZ.out]; exact HA.out)).mono ?_; rw [HZ.out]; rintro e2 w' ⟨rfl, hb1⟩; obtain ⟨hc, hf⟩ := bcell hb1; simp only [World.size_alloc] at hc hf; have hB1 : Below w.heap.size w w' := Below.step (by go_grown) (by go_size) hb1)
    refine bodyPost_ret (v := lres (Z, 0, 0, 0)) (by simp [results, Try.results8, go_sem, hc]) rfl ⟨rfl, ?_⟩
    go_grown

end Go.Proofs.Ytgeieeohaeeccaa
