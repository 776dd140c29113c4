/- Walks of the lease layer, 8. -/
import Derived.Test.YtgeieeohaeeccaaW7
namespace Go.Proofs.Ytgeieeohaeeccaa
open Go.RowKit

set_option maxHeartbeats 2000000 in
theorem refRenew_any (e h u who ep now span : Int) (w : World) (he : 0 ≤ e) :
    Calls Try.prog 13 #[.agg #[.int .u64 e, .int .i64 h, .int .i64 u], .int .i64 who, .int .u64 ep, .int .i64 now, .int .i64 span] w fun en w' => en = .returned (lres (renewF e h u who ep now span)) ∧ Below w.heap.size w w' := by
  generalize hZ : renewF e h u who ep now span = Z
  have key : ((asked e h u who now span != 0) = true ∧ Z = (asked e h u who now span, 0, 0, 0)) ∨ ((asked e h u who now span != 0) = false ∧ (ep != e) = true ∧ Z = (312, 0, 0, 0)) ∨
      ((asked e h u who now span != 0) = false ∧ (ep != e) = false ∧ (who != h) = true ∧ Z = (312, 0, 0, 0)) ∨
      ((asked e h u who now span != 0) = false ∧ (ep != e) = false ∧ (who != h) = false ∧ u ≤ now ∧ Z = (313, 0, 0, 0)) ∨
      ((asked e h u who now span != 0) = false ∧ (ep != e) = false ∧ (who != h) = false ∧ now < u ∧ u < now + span ∧ IntKind.i64.wrap (now + span) = now + span ∧ Z = (0, e, h, now + span)) ∨
      ((asked e h u who now span != 0) = false ∧ (ep != e) = false ∧ (who != h) = false ∧ now < u ∧ now + span ≤ u ∧ IntKind.i64.wrap (now + span) = now + span ∧ Z = (0, e, h, u)) := by
    subst hZ
    by_cases ha : asked e h u who now span = 0
    · have hb := asked_zero ha
      have hr := right_bd hb.1
      have w2 : IntKind.i64.wrap (now + span) = now + span := IntWalk.i64_in _ (by omega)
      by_cases h1 : ep = e
      · by_cases h2 : who = h
        · by_cases h3 : now < u
          · by_cases h4 : u < now + span
            · refine .inr (.inr (.inr (.inr (.inl ⟨by simp [ha], by simp [h1], by simp [h2], h3, h4, w2, ?_⟩))))
              subst h1; subst h2; simp [renewF, renX, ren, refu, ha, h3, h4]
            · refine .inr (.inr (.inr (.inr (.inr ⟨by simp [ha], by simp [h1], by simp [h2], h3, by omega, w2, ?_⟩))))
              subst h1; subst h2; simp [renewF, renX, ren, refu, ha, h3, h4]
          · refine .inr (.inr (.inr (.inl ⟨by simp [ha], by simp [h1], by simp [h2], by omega, ?_⟩)))
            subst h1; subst h2; simp [renewF, renX, ren, refu, ha, h3]
        · refine .inr (.inr (.inl ⟨by simp [ha], by simp [h1], by simp [h2], ?_⟩))
          simp [renewF, renX, ren, refu, ha, h2]
      · refine .inr (.inl ⟨by simp [ha], by simp [h1], ?_⟩)
        simp [renewF, renX, ren, refu, ha, h1]
    · left; simp [renewF, ha]
  clear hZ
  rcases key with ⟨k1, rfl⟩ | ⟨k1, k2, rfl⟩ | ⟨k1, k2, k3, rfl⟩ | ⟨k1, k2, k3, k4, rfl⟩ | ⟨k1, k2, k3, k4, k5, k6, rfl⟩ | ⟨k1, k2, k3, k4, k5, k6, rfl⟩
  all_goals
    go_enter Try.func13, Try.ntmps13
    go_wp2_with (go_at_call 22; refine (asked_any _ _ _ _ _ _ _ he).mono ?_; rintro e2 w' ⟨rfl, hb1⟩; obtain ⟨hc, hf⟩ := bcell hb1; simp only [World.size_alloc] at hc hf; have q := (hb1.block w.heap.size (by simp; omega)).trans ((alloc_lt (by simp)).trans (alloc_at rfl)); have q0 := cell_of_heap3 q; clear q; have hB1 : Below w.heap.size w w' := Below.step (by go_grown) (by go_size) hb1)
    refine bodyPost_ret ?_ rfl ⟨rfl, ?_⟩
    · simp [results, Try.results13, go_sem, *]
    · go_grown

set_option maxHeartbeats 2000000 in
theorem refYield_any (e h u who ep now : Int) (w : World) (he : 0 ≤ e) :
    Calls Try.prog 15 #[.agg #[.int .u64 e, .int .i64 h, .int .i64 u], .int .i64 who, .int .u64 ep, .int .i64 now] w fun en w' => en = .returned (lres (yieldF e h u who ep now)) ∧ Below w.heap.size w w' := by
  generalize hZ : yieldF e h u who ep now = Z
  have key : ((asked e h u who now 1 != 0) = true ∧ Z = (asked e h u who now 1, 0, 0, 0)) ∨ ((asked e h u who now 1 != 0) = false ∧ (ep != e) = true ∧ Z = (312, 0, 0, 0)) ∨
      ((asked e h u who now 1 != 0) = false ∧ (ep != e) = false ∧ (who != h) = true ∧ Z = (312, 0, 0, 0)) ∨
      ((asked e h u who now 1 != 0) = false ∧ (ep != e) = false ∧ (who != h) = false ∧ u ≤ now ∧ Z = (313, 0, 0, 0)) ∨
      ((asked e h u who now 1 != 0) = false ∧ (ep != e) = false ∧ (who != h) = false ∧ now < u ∧ Z = (0, e, h, now)) := by
    subst hZ
    by_cases ha : asked e h u who now 1 = 0
    · by_cases h1 : ep = e
      · by_cases h2 : who = h
        · by_cases h3 : now < u
          · refine .inr (.inr (.inr (.inr ⟨by simp [ha], by simp [h1], by simp [h2], h3, ?_⟩)))
            subst h1; subst h2; simp [yieldF, yieX, yie, refu, ha, h3]
          · refine .inr (.inr (.inr (.inl ⟨by simp [ha], by simp [h1], by simp [h2], by omega, ?_⟩)))
            subst h1; subst h2; simp [yieldF, yieX, yie, refu, ha, h3]
        · refine .inr (.inr (.inl ⟨by simp [ha], by simp [h1], by simp [h2], ?_⟩))
          simp [yieldF, yieX, yie, refu, ha, h2]
      · refine .inr (.inl ⟨by simp [ha], by simp [h1], ?_⟩)
        simp [yieldF, yieX, yie, refu, ha, h1]
    · left; simp [yieldF, ha]
  clear hZ
  rcases key with ⟨k1, rfl⟩ | ⟨k1, k2, rfl⟩ | ⟨k1, k2, k3, rfl⟩ | ⟨k1, k2, k3, k4, rfl⟩ | ⟨k1, k2, k3, k4, rfl⟩
  all_goals
    go_enter Try.func15, Try.ntmps15
    go_wp2_with (go_at_call 22; refine (asked_any _ _ _ _ _ _ _ he).mono ?_; rintro e2 w' ⟨rfl, hb1⟩; obtain ⟨hc, hf⟩ := bcell hb1; simp only [World.size_alloc] at hc hf; have hB1 : Below w.heap.size w w' := Below.step (by go_grown) (by go_size) hb1)
    refine bodyPost_ret ?_ rfl ⟨rfl, ?_⟩
    · simp [results, Try.results15, go_sem, *]
    · go_grown

end Go.Proofs.Ytgeieeohaeeccaa
