/- Walks of the lease layer, 6. -/
import Derived.Test.YtgeieeohaeeccaaW5
namespace Go.Proofs.Ytgeieeohaeeccaa
open Go.RowKit

def renX (e h u who ep now span : Int) : Int × Int × Int × Int := ((ren e h u who ep now span).1, e, h, (ren e h u who ep now span).2)
def yieX (e h u who ep now : Int) : Int × Int × Int × Int := ((yie e h u who ep now).1, e, h, (yie e h u who ep now).2)
def renewF (e h u who ep now span : Int) : Int × Int × Int × Int :=
  if asked e h u who now span ≠ 0 then (asked e h u who now span, 0, 0, 0) else (if (renX e h u who ep now span).1 ≠ 0 then ((renX e h u who ep now span).1, 0, 0, 0) else renX e h u who ep now span)
def yieldF (e h u who ep now : Int) : Int × Int × Int × Int :=
  if asked e h u who now 1 ≠ 0 then (asked e h u who now 1, 0, 0, 0) else (if (yieX e h u who ep now).1 ≠ 0 then ((yieX e h u who ep now).1, 0, 0, 0) else yieX e h u who ep now)

set_option maxHeartbeats 1000000 in
theorem renew_any (e h u who ep now span : Int) (w : World) (he : 0 ≤ e) :
    Calls Try.prog 12 #[.agg #[.int .u64 e, .int .i64 h, .int .i64 u], .int .i64 who, .int .u64 ep, .int .i64 now, .int .i64 span] w fun en w' => en = .returned (lres (renewF e h u who ep now span)) ∧ Below w.heap.size w w' := by
  by_cases ha : asked e h u who now span = 0
  · have hF : renewF e h u who ep now span = (if (renX e h u who ep now span).1 ≠ 0 then ((renX e h u who ep now span).1, 0, 0, 0) else (renX e h u who ep now span)) := by simp only [renewF, ha]; simp
    obtain ⟨hr, h1, h2, h3, h4, h5, h6⟩ := asked_zero ha
    obtain ⟨_, g2, _, _, _, _⟩ := right_bd hr
    rw [hF]
    generalize hZ : (if (renX e h u who ep now span).1 ≠ 0 then ((renX e h u who ep now span).1, 0, 0, 0) else (renX e h u who ep now span)) = Z
    have HZ := Lib.hid hZ
    clear hr
    have HA := Lib.hid ha
    clear hF ha hZ
    go_enter Try.func12, Try.ntmps12
    go_wp2_with (go_at_call 19; fail)
    refine (turn_good_ren _ _ _ _ _ _ _ _ _ _ (renX e h u who ep now span) _ he HA.out ?_).mono ?_
    · intro W b hb hB
      refine ren1_any e h u who ep now span b _ _ _ _ W (by omega) (by omega) (by omega) h6 hb ?_ ?_ ?_ ?_
      all_goals
        refine (hB.block _ (by simp; try omega)).trans ?_
        repeat (first | exact alloc_at (by simp) | refine (alloc_lt (by simp; try omega)).trans ?_)
    rw [HZ.out]
    rintro e2 w' ⟨rfl, hb1⟩; obtain ⟨hc, hf⟩ := bcell hb1; simp only [World.size_alloc] at hc hf; have hB1 : Below w.heap.size w w' := Below.step (by go_grown) (by go_size) hb1
    go_wp2
    refine bodyPost_ret (v := lres Z) (by simp [results, Try.results12, go_sem, hc]) rfl ⟨rfl, ?_⟩
    go_grown
  · have hF : renewF e h u who ep now span = (asked e h u who now span, 0, 0, 0) := by simp [renewF, ha]
    rw [hF]
    have HA := Lib.hid ha
    clear ha hF
    generalize hZ : asked e h u who now span = Z at *
    have HZ := Lib.hid hZ; clear hZ
    go_enter Try.func12, Try.ntmps12
    go_wp2_with (go_at_call 19; refine (turn_bad _ _ _ _ _ _ _ _ he (by rw [HZ.out]; exact HA.out)).mono ?_; rw [HZ.out]; rintro e2 w' ⟨rfl, hb1⟩; obtain ⟨hc, hf⟩ := bcell hb1; simp only [World.size_alloc] at hc hf; have hB1 : Below w.heap.size w w' := Below.step (by go_grown) (by go_size) hb1)
    refine bodyPost_ret (v := lres (Z, 0, 0, 0)) (by simp [results, Try.results12, go_sem, hc]) rfl ⟨rfl, ?_⟩
    go_grown

set_option maxHeartbeats 1000000 in
theorem yield_any (e h u who ep now : Int) (w : World) (he : 0 ≤ e) :
    Calls Try.prog 14 #[.agg #[.int .u64 e, .int .i64 h, .int .i64 u], .int .i64 who, .int .u64 ep, .int .i64 now] w fun en w' => en = .returned (lres (yieldF e h u who ep now)) ∧ Below w.heap.size w w' := by
  by_cases ha : asked e h u who now 1 = 0
  · have hF : yieldF e h u who ep now = (if (yieX e h u who ep now).1 ≠ 0 then ((yieX e h u who ep now).1, 0, 0, 0) else (yieX e h u who ep now)) := by simp only [yieldF, ha]; simp
    obtain ⟨hr, h1, h2, h3, h4, h5, h6⟩ := asked_zero ha
    obtain ⟨_, g2, _, _, _, _⟩ := right_bd hr
    rw [hF]
    generalize hZ : (if (yieX e h u who ep now).1 ≠ 0 then ((yieX e h u who ep now).1, 0, 0, 0) else (yieX e h u who ep now)) = Z
    have HZ := Lib.hid hZ
    clear hr
    have HA := Lib.hid ha
    clear hF ha hZ
    go_enter Try.func14, Try.ntmps14
    go_wp2_with (go_at_call 19; fail)
    refine (turn_good_yie _ _ _ _ _ _ _ _ _ (yieX e h u who ep now) _ he HA.out ?_).mono ?_
    · intro W b hb hB
      refine yie1_any e h u who ep now b _ _ _ W hb ?_ ?_ ?_
      all_goals
        refine (hB.block _ (by simp; try omega)).trans ?_
        repeat (first | exact alloc_at (by simp) | refine (alloc_lt (by simp; try omega)).trans ?_)
    rw [HZ.out]
    rintro e2 w' ⟨rfl, hb1⟩; obtain ⟨hc, hf⟩ := bcell hb1; simp only [World.size_alloc] at hc hf; have hB1 : Below w.heap.size w w' := Below.step (by go_grown) (by go_size) hb1
    go_wp2
    refine bodyPost_ret (v := lres Z) (by simp [results, Try.results14, go_sem, hc]) rfl ⟨rfl, ?_⟩
    go_grown
  · have hF : yieldF e h u who ep now = (asked e h u who now 1, 0, 0, 0) := by simp [yieldF, ha]
    rw [hF]
    have HA := Lib.hid ha
    clear ha hF
    generalize hZ : asked e h u who now 1 = Z at *
    have HZ := Lib.hid hZ; clear hZ
    go_enter Try.func14, Try.ntmps14
    go_wp2_with (go_at_call 19; refine (turn_bad _ _ _ _ _ _ _ _ he (by rw [HZ.out]; exact HA.out)).mono ?_; rw [HZ.out]; rintro e2 w' ⟨rfl, hb1⟩; obtain ⟨hc, hf⟩ := bcell hb1; simp only [World.size_alloc] at hc hf; have hB1 : Below w.heap.size w w' := Below.step (by go_grown) (by go_size) hb1)
    refine bodyPost_ret (v := lres (Z, 0, 0, 0)) (by simp [results, Try.results14, go_sem, hc]) rfl ⟨rfl, ?_⟩
    go_grown

end Go.Proofs.Ytgeieeohaeeccaa
