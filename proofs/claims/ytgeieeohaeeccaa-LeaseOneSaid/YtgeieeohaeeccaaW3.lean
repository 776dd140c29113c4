/- Walks of the lease layer, 3. -/
import Derived.Test.YtgeieeohaeeccaaW2
namespace Go.Proofs.Ytgeieeohaeeccaa
open Go.RowKit

def turnF (e h u who now span : Int) (X : Int × Int × Int × Int) : Int × Int × Int × Int :=
  if asked e h u who now span ≠ 0 then (asked e h u who now span, 0, 0, 0) else if X.1 ≠ 0 then (X.1, 0, 0, 0) else X

def lres (x : Int × Int × Int × Int) : Value := .tuple #[.agg #[.int .u64 x.2.1, .int .i64 x.2.2.1, .int .i64 x.2.2.2], .int .i64 x.1]

theorem ret_lres {a : Value} {x y : Int × Int × Int × Int} (h : a = lres x) (hx : x = y) : Ending.returned a = .returned (lres y) := by rw [h, hx]

set_option maxHeartbeats 1000000 in
theorem turn_bad (e h u who now span : Int) (fv : Value) (w : World) (he : 0 ≤ e) (ha : asked e h u who now span ≠ 0) :
    Calls Try.prog 19 #[.agg #[.int .u64 e, .int .i64 h, .int .i64 u], .int .i64 who, .int .i64 now, .int .i64 span, fv] w fun en w' =>
      en = .returned (lres (asked e h u who now span, 0, 0, 0)) ∧ Below w.heap.size w w' := by
  by_cases hr : right e h u = true
  · have hk : chk e h u = 0 := by simp [chk, hr]
    have h2 : asked e h u who now span = 2 := by
      unfold asked at ha ⊢; rw [if_neg (by simp [hr])] at ha ⊢; split <;> simp_all
    have hbad : who < 1 ∨ who > 3 ∨ now < 0 ∨ now > 1099511627676 ∨ span < 1 ∨ span > 100 := by
      unfold asked at h2; rw [if_neg (by simp [hr])] at h2; split at h2
      · assumption
      · simp at h2
    rw [h2]
    have hB := Lib.hid hbad
    clear ha h2 hr hbad
    go_enter Try.func19, Try.ntmps19
    go_wp2_with (first | (go_at_call 10; refine (check_any _ _ _ _ he).mono ?_; rintro e w' ⟨rfl, hb1⟩; obtain ⟨hc, hf⟩ := bcell hb1; simp only [World.size_alloc] at hc hf; have hB1 : Below w.heap.size w w' := Below.step (by go_grown) (by go_size) hb1) | (go_at_call 23; refine (manager_any _ _).mono ?_; rintro e w' ⟨rfl, rfl⟩))
    all_goals first
      | (refine bodyPost_ret (v := lres (2, 0, 0, 0)) (by simp [lres, results, Try.results19, go_sem, hc]) rfl ⟨rfl, ?_⟩
         go_grown)
      | (exfalso; have hx := hB.out; simp [isM] at *; omega)
  · have hk : (chk e h u != 0) = true := by simp [chk, hr]
    have h2 : asked e h u who now span = 310 := by simp [asked, hr]
    rw [h2]
    clear ha h2 hr
    go_enter Try.func19, Try.ntmps19
    go_wp2_with (first | (go_at_call 10; refine (check_any _ _ _ _ he).mono ?_; rintro e w' ⟨rfl, hb1⟩; obtain ⟨hc, hf⟩ := bcell hb1; simp only [World.size_alloc] at hc hf; have hB1 : Below w.heap.size w w' := Below.step (by go_grown) (by go_size) hb1) | (go_at_call 23; refine (manager_any _ _).mono ?_; rintro e w' ⟨rfl, rfl⟩))
    refine bodyPost_ret (v := lres (310, 0, 0, 0)) (by simp [lres, results, Try.results19, go_sem, hc]) rfl ⟨rfl, ?_⟩
    go_grown

end Go.Proofs.Ytgeieeohaeeccaa
