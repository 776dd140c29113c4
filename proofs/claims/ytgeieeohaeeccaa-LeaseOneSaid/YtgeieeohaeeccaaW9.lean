/- Walks of the lease layer, 9. -/
import Derived.Test.YtgeieeohaeeccaaW8
namespace Go.Proofs.Ytgeieeohaeeccaa
open Go.RowKit

def holdsF (e h u who ep now : Int) : Bool := right e h u && decide (e = ep ∧ h = who) && decide (now < u)
def leftF (e h u now : Int) : Int := if right e h u = true ∧ now < u then u - max now 0 else 0
def staleF (e h u ep : Int) : Bool := !right e h u || decide (ep < e)

theorem chk_ok (e h u : Int) : (chk e h u == 0) = right e h u := by
  unfold chk; cases right e h u <;> simp
theorem chk_ne (e h u : Int) : (chk e h u != 0) = !right e h u := by
  unfold chk; cases right e h u <;> simp

set_option maxHeartbeats 2000000 in
theorem stale_any (e h u ep : Int) (w : World) (he : 0 ≤ e) :
    Calls Try.prog 18 #[.agg #[.int .u64 e, .int .i64 h, .int .i64 u], .int .u64 ep] w fun en w' => en = .returned (.bool (staleF e h u ep)) ∧ Below w.heap.size w w' := by
  have key : ((chk e h u != 0) = true ∧ staleF e h u ep = true) ∨ ((chk e h u != 0) = false ∧ staleF e h u ep = decide (ep < e)) := by
    rw [chk_ne]; unfold staleF; cases right e h u <;> simp
  rcases key with ⟨k1, k2⟩ | ⟨k1, k2⟩
  all_goals
    rw [k2]; clear k2
    go_enter Try.func18, Try.ntmps18
    go_wp2_with (go_at_call 10; refine (check_any _ _ _ _ he).mono ?_; rintro e2 w' ⟨rfl, hb1⟩; obtain ⟨hc, hf⟩ := bcell hb1; simp only [World.size_alloc] at hc hf; have q := (hb1.block w.heap.size (by simp)).trans (alloc_at rfl); have q0 := cell_of_heap3 q; clear q; have hB1 : Below w.heap.size w w' := Below.step (by go_grown) (by go_size) hb1)
    go_ret
    exact ⟨rfl, by go_grown⟩

set_option maxHeartbeats 2000000 in
theorem left_any (e h u now : Int) (w : World) (he : 0 ≤ e) :
    Calls Try.prog 17 #[.agg #[.int .u64 e, .int .i64 h, .int .i64 u], .int .i64 now] w fun en w' => en = .returned (.int .i64 (leftF e h u now)) ∧ Below w.heap.size w w' := by
  have key : ((chk e h u != 0) = true ∧ leftF e h u now = 0) ∨ ((chk e h u != 0) = false ∧ decide (now < u) = false ∧ leftF e h u now = 0) ∨ ((chk e h u != 0) = false ∧ decide (now < u) = true ∧ 0 ≤ u ∧ u ≤ 1099511627776 ∧ now < 0 ∧ leftF e h u now = u - 0) ∨ ((chk e h u != 0) = false ∧ decide (now < u) = true ∧ 0 ≤ u ∧ u ≤ 1099511627776 ∧ 0 ≤ now ∧ now < u ∧ leftF e h u now = u - now) := by
    rw [chk_ne]; unfold leftF
    by_cases hr : right e h u = true
    · obtain ⟨_, _, _, _, h5, h6⟩ := right_bd hr
      by_cases h1 : now < u
      · by_cases h2 : now < 0
        · refine .inr (.inr (.inl ⟨by simp [hr], by simp [h1], h5, h6, h2, ?_⟩)); rw [if_pos ⟨hr, h1⟩]; omega
        · refine .inr (.inr (.inr ⟨by simp [hr], by simp [h1], h5, h6, by omega, h1, ?_⟩)); rw [if_pos ⟨hr, h1⟩]; omega
      · refine .inr (.inl ⟨by simp [hr], by simp [h1], ?_⟩); rw [if_neg (by omega)]
    · left; simp [hr]
  rcases key with ⟨k1, k2⟩ | ⟨k1, k3, k2⟩ | ⟨k1, k3, k4, k5, k6, k2⟩ | ⟨k1, k3, k4, k5, k6, k7, k2⟩
  all_goals
    rw [k2]; clear k2
    go_enter Try.func17, Try.ntmps17
    go_wp2_with (first | (go_at_call 10; refine (check_any _ _ _ _ he).mono ?_; rintro e2 w' ⟨rfl, hb1⟩; have q := (hb1.block w.heap.size (by simp)).trans (alloc_at rfl); have q0 := cell_of_heap3 q; have Q := Lib.hid q; clear q; have hB1 : Below w.heap.size w w' := Below.step (by go_grown) (by go_size) hb1) | (go_at_call 21; refine (held_any _ _ _ _ _).mono ?_; rintro e3 w2 ⟨rfl, hb2⟩; have q := (hb2.block w.heap.size (lt_of_heap Q.out)).trans Q.out; have q1 := cell_of_heap3 q; clear q; have hB2 : Below w.heap.size w w2 := Below.step hB1 (Nat.le_refl _) hb2))
    go_ret
    exact ⟨ret_int (by first | rfl | (simp; done) | (show IntKind.i64.wrap _ = _; exact IntWalk.i64_in _ (by omega)) | (show (_ : Int) = _; omega)), by go_grown⟩

set_option maxHeartbeats 2000000 in
theorem holds_any (e h u who ep now : Int) (w : World) (he : 0 ≤ e) :
    Calls Try.prog 16 #[.agg #[.int .u64 e, .int .i64 h, .int .i64 u], .int .i64 who, .int .u64 ep, .int .i64 now] w fun en w' => en = .returned (.bool (holdsF e h u who ep now)) ∧ Below w.heap.size w w' := by
  have key : ((chk e h u == 0) = false ∧ holdsF e h u who ep now = false) ∨ ((chk e h u == 0) = true ∧ e ≠ ep ∧ (e == ep) = false ∧ holdsF e h u who ep now = false) ∨ ((chk e h u == 0) = true ∧ e = ep ∧ (h == who) = false ∧ holdsF e h u who ep now = false) ∨ ((chk e h u == 0) = true ∧ e = ep ∧ h = who ∧ holdsF e h u who ep now = decide (now < u)) := by
    rw [chk_ok]; unfold holdsF
    by_cases hr : right e h u = true
    · by_cases h1 : e = ep
      · by_cases h2 : h = who
        · subst h1; subst h2; refine .inr (.inr (.inr ⟨hr, rfl, rfl, ?_⟩)); simp [hr]
        · refine .inr (.inr (.inl ⟨hr, h1, by simp [h2], ?_⟩)); simp [h2]
      · refine .inr (.inl ⟨hr, h1, by simp [h1], ?_⟩); simp [h1]
    · left; simp [hr]
  rcases key with ⟨k1, k2⟩ | ⟨k1, k3, k4, k2⟩ | ⟨k1, rfl, k4, k2⟩ | ⟨k1, rfl, rfl, k2⟩
  all_goals
    rw [k2]; clear k2
    go_enter Try.func16, Try.ntmps16
    go_wp2_with (first | (go_at_call 10; refine (check_any _ _ _ _ he).mono ?_; rintro e2 w' ⟨rfl, hb1⟩; have q := (hb1.block w.heap.size (by simp)).trans (alloc_at rfl); have q0 := cell_of_heap3 q; have Q := Lib.hid q; clear q; have hB1 : Below w.heap.size w w' := Below.step (by go_grown) (by go_size) hb1) | (go_at_call 21; refine (held_any _ _ _ _ _).mono ?_; rintro e3 w2 ⟨rfl, hb2⟩; have hB2 : Below w.heap.size w w2 := Below.step hB1 (Nat.le_refl _) hb2))
    go_ret
    exact ⟨rfl, by go_grown⟩

end Go.Proofs.Ytgeieeohaeeccaa
