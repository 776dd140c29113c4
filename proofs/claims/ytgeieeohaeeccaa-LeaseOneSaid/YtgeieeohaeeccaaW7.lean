/- Walks of the lease layer, 7. -/
import Derived.Test.YtgeieeohaeeccaaW6
namespace Go.Proofs.Ytgeieeohaeeccaa
open Go.RowKit

set_option maxHeartbeats 1000000 in
theorem refAcquire_any (e h u who now span : Int) (w : World) (he : 0 ≤ e) :
    Calls Try.prog 9 #[.agg #[.int .u64 e, .int .i64 h, .int .i64 u], .int .i64 who, .int .i64 now, .int .i64 span] w fun en w' => en = .returned (lres (acquireF e h u who now span)) ∧ Below w.heap.size w w' := by
  generalize hZ : acquireF e h u who now span = Z
  have key : ((asked e h u who now span != 0) = true ∧ Z = (asked e h u who now span, 0, 0, 0)) ∨ ((asked e h u who now span != 0) = false ∧ now < u ∧ Z = (311, 0, 0, 0)) ∨
      ((asked e h u who now span != 0) = false ∧ ¬ now < u ∧ (e == 2147483647) = true ∧ Z = (6, 0, 0, 0)) ∨
      ((asked e h u who now span != 0) = false ∧ ¬ now < u ∧ (e == 2147483647) = false ∧ IntKind.u64.wrap (e + 1) = e + 1 ∧ IntKind.i64.wrap (now + span) = now + span ∧ Z = (0, e + 1, who, now + span)) := by
    subst hZ
    by_cases ha : asked e h u who now span = 0
    · have hb := asked_zero ha
      have hr := right_bd hb.1
      by_cases h1 : now < u
      · simp [acquireF, acq, ha, h1]
      · by_cases h2 : e = 2147483647
        · refine .inr (.inr (.inl ⟨by simp [ha], h1, by simp [h2], ?_⟩))
          subst h2; simp [acquireF, acq, ha, h1]
        · have w1 : IntKind.u64.wrap (e + 1) = e + 1 := IntWalk.u64_in _ (by omega)
          have w2 : IntKind.i64.wrap (now + span) = now + span := IntWalk.i64_in _ (by omega)
          refine .inr (.inr (.inr ⟨by simp [ha], h1, by simp [h2], w1, w2, ?_⟩))
          simp [acquireF, acq, ha, h1, h2]
    · left; simp [acquireF, ha]
  clear hZ
  rcases key with ⟨k1, rfl⟩ | ⟨k1, k2, rfl⟩ | ⟨k1, k2, k3, rfl⟩ | ⟨k1, k2, k3, k4, k5, rfl⟩
  all_goals
    go_enter Try.func9, Try.ntmps9
    go_wp2_with (go_at_call 22; refine (asked_any _ _ _ _ _ _ _ he).mono ?_; rintro e2 w' ⟨rfl, hb1⟩; obtain ⟨hc, hf⟩ := bcell hb1; simp only [World.size_alloc] at hc hf; have hB1 : Below w.heap.size w w' := Below.step (by go_grown) (by go_size) hb1)
    refine bodyPost_ret ?_ rfl ⟨rfl, ?_⟩
    · simp [results, Try.results9, go_sem, *]
    · go_grown

end Go.Proofs.Ytgeieeohaeeccaa
