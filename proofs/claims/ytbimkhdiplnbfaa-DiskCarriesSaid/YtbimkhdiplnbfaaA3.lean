/- Walks of the disk: Arm, Fail. -/
import Derived.Test.YtbimkhdiplnbfaaA2
namespace Go.Proofs.Ytbimkhdiplnbfaa
open Go.RowKit

theorem upd_own (w : World) (p i : Nat) (v : Value) : Upd (fun k => k = p) w (w.setCell ⟨p, i, none⟩ v) := Upd.setCell (F := fun k => k = p) (Upd.refl _ _) (p := ⟨p, i, none⟩) (.inl rfl) _

theorem DiskAt.withMain {w w' : World} {p s : Nat} {D D' : Dk} {g c : Nat → Nat} (h : DiskAt w p D s g c) (ha : D'.arr = D.arr) (hr : D'.row = D.row)
    (hm : w'.heap[p]? = some (.cells #[.slice (some ⟨s, 0, none⟩) D'.arr.length D'.arr.length, .int .i64 D'.sent, .int .i64 D'.ops, .int .i64 D'.arm, .int .i64 D'.fail, .bool D'.dead] 128 (0, 0)))
    (hu : Upd (fun k => k = p) w w') : DiskAt w' p D' s g c := by
  have hv : ∀ i, D'.vers i = D.vers i := fun i => by simp [Dk.vers, ha, hr]
  refine ⟨hm, ?_, ?_, h.ps, ?_, ?_, ?_⟩
  · rw [hu.block s (lt_of_heap h.sec) (fun e => h.ps e.symm), h.sec, ha]
    simp [hv]
  · intro i hi
    rw [ha] at hi
    rw [hv]
    obtain ⟨h1, h2⟩ := h.rows i hi
    refine ⟨h1, ?_⟩
    rcases h2 with ⟨h2, _⟩ | ⟨gg, cap, cur, hv, hb, hh, r⟩
    · simp at h2
    · refine .inr ⟨gg, cap, cur, hv, hb, ?_, r⟩
      simp at hv
      exact (hu.block gg (lt_of_heap hh) (fun e => h.gp i hi (hv.1.trans e))).trans hh
  · rw [ha]; exact h.gp
  · rw [ha]; exact h.gs
  · rw [ha]; exact h.gg

set_option maxHeartbeats 400000 in
theorem doArm_dead {p : Nat} {x0 x1 x2 x3 x4 : Value} (n : Int) (w : World) (hm : w.heap[p]? = some (.cells #[x0, x1, x2, x3, x4, .bool true] 128 (0, 0))) :
    Calls Try.prog 55 #[.pointer (some ⟨p, 0, none⟩), .int .i64 n] w fun e w' => e = .returned (.int .i64 9) ∧ w = w' := by
  have H := Lib.hid hm; clear hm
  go_enter Try.func55, Try.ntmps55
  go_wp2_with (go_at_call 101; refine (awake_at _ H.out).mono ?_; rintro e w' ⟨rfl, rfl⟩)
  go_ret
  exact ⟨rfl, rfl⟩

set_option maxHeartbeats 400000 in
theorem doArm_live {p : Nat} {x0 x1 x2 x3 x4 : Value} (n : Int) (w : World) (hm : w.heap[p]? = some (.cells #[x0, x1, x2, x3, x4, .bool false] 128 (0, 0))) :
    Calls Try.prog 55 #[.pointer (some ⟨p, 0, none⟩), .int .i64 n] w fun e w' => e = .returned (.int .i64 0) ∧ w'.heap[p]? = some (.cells #[x0, x1, x2, .int .i64 (max n (-1)), x4, .bool false] 128 (0, 0)) ∧ Upd (fun k => k = p) w w' := by
  have c0 := cells6_of hm
  have f0 : ∀ k, w.frozen? ⟨p, k, none⟩ = false := fun k => frozen_of_heap hm
  have H := Lib.hid hm; clear hm
  by_cases hn : n < -1
  · have hx : max n (-1) = -1 := by omega
    rw [hx]; clear hx
    go_enter Try.func55, Try.ntmps55
    go_wp2_with (go_at_call 101; refine (awake_at _ H.out).mono ?_; rintro e w' ⟨rfl, rfl⟩)
    go_ret
    exact ⟨rfl, blk_set H.out, upd_own _ _ _ _⟩
  · have hx : max n (-1) = n := by omega
    rw [hx]; clear hx
    go_enter Try.func55, Try.ntmps55
    go_wp2_with (go_at_call 101; refine (awake_at _ H.out).mono ?_; rintro e w' ⟨rfl, rfl⟩)
    go_ret
    exact ⟨rfl, blk_set H.out, upd_own _ _ _ _⟩

def Dk.doArm (D : Dk) (n : Int) : Dk := if D.dead then D else { D with arm := max n (-1) }

theorem doArm_any {p : Nat} {D : Dk} {F : Nat → Prop} (n : Int) (w : World) (h : Dsk w p D F) :
    Calls Try.prog 55 #[.pointer (some ⟨p, 0, none⟩), .int .i64 n] w fun e w' => e = .returned (.int .i64 D.awake) ∧ Dsk w' p (D.doArm n) F ∧ Upd (fun k => k = p) w w' := by
  obtain ⟨s, g, c, h1, h2⟩ := h
  have hm := h1.main
  cases hd : D.dead
  · rw [hd] at hm
    refine (doArm_live n w hm).mono fun e w' ⟨he, h3, h4⟩ => ⟨by rw [he]; simp [Dk.awake, hd], ?_, h4⟩
    refine ⟨s, g, c, h1.withMain (by simp [Dk.doArm, hd]) (by simp [Dk.doArm, hd]) (by rw [h3]; simp [Dk.doArm, hd]) h4, ?_⟩
    simpa [Dk.doArm, hd] using h2
  · rw [hd] at hm
    refine (doArm_dead n w hm).mono fun e w' ⟨he, h3⟩ => ⟨by rw [he]; simp [Dk.awake, hd], ?_, by subst h3; exact Upd.refl _ _⟩
    subst h3
    refine ⟨s, g, c, ?_, ?_⟩
    · simpa [Dk.doArm, hd] using h1
    · simpa [Dk.doArm, hd] using h2

set_option maxHeartbeats 400000 in
theorem doFail_dead {p : Nat} {x0 x1 x2 x3 x4 : Value} (n : Int) (w : World) (hm : w.heap[p]? = some (.cells #[x0, x1, x2, x3, x4, .bool true] 128 (0, 0))) :
    Calls Try.prog 56 #[.pointer (some ⟨p, 0, none⟩), .int .i64 n] w fun e w' => e = .returned (.int .i64 9) ∧ w = w' := by
  have H := Lib.hid hm; clear hm
  go_enter Try.func56, Try.ntmps56
  go_wp2_with (go_at_call 101; refine (awake_at _ H.out).mono ?_; rintro e w' ⟨rfl, rfl⟩)
  go_ret
  exact ⟨rfl, rfl⟩

set_option maxHeartbeats 400000 in
theorem doFail_live {p : Nat} {x0 x1 x2 x3 x4 : Value} (n : Int) (w : World) (hm : w.heap[p]? = some (.cells #[x0, x1, x2, x3, x4, .bool false] 128 (0, 0))) :
    Calls Try.prog 56 #[.pointer (some ⟨p, 0, none⟩), .int .i64 n] w fun e w' => e = .returned (.int .i64 0) ∧ w'.heap[p]? = some (.cells #[x0, x1, x2, x3, .int .i64 (max n (-1)), .bool false] 128 (0, 0)) ∧ Upd (fun k => k = p) w w' := by
  have c0 := cells6_of hm
  have f0 : ∀ k, w.frozen? ⟨p, k, none⟩ = false := fun k => frozen_of_heap hm
  have H := Lib.hid hm; clear hm
  by_cases hn : n < -1
  · have hx : max n (-1) = -1 := by omega
    rw [hx]; clear hx
    go_enter Try.func56, Try.ntmps56
    go_wp2_with (go_at_call 101; refine (awake_at _ H.out).mono ?_; rintro e w' ⟨rfl, rfl⟩)
    go_ret
    exact ⟨rfl, blk_set H.out, upd_own _ _ _ _⟩
  · have hx : max n (-1) = n := by omega
    rw [hx]; clear hx
    go_enter Try.func56, Try.ntmps56
    go_wp2_with (go_at_call 101; refine (awake_at _ H.out).mono ?_; rintro e w' ⟨rfl, rfl⟩)
    go_ret
    exact ⟨rfl, blk_set H.out, upd_own _ _ _ _⟩

def Dk.doFail (D : Dk) (n : Int) : Dk := if D.dead then D else { D with fail := max n (-1) }

theorem doFail_any {p : Nat} {D : Dk} {F : Nat → Prop} (n : Int) (w : World) (h : Dsk w p D F) :
    Calls Try.prog 56 #[.pointer (some ⟨p, 0, none⟩), .int .i64 n] w fun e w' => e = .returned (.int .i64 D.awake) ∧ Dsk w' p (D.doFail n) F ∧ Upd (fun k => k = p) w w' := by
  obtain ⟨s, g, c, h1, h2⟩ := h
  have hm := h1.main
  cases hd : D.dead
  · rw [hd] at hm
    refine (doFail_live n w hm).mono fun e w' ⟨he, h3, h4⟩ => ⟨by rw [he]; simp [Dk.awake, hd], ?_, h4⟩
    refine ⟨s, g, c, h1.withMain (by simp [Dk.doFail, hd]) (by simp [Dk.doFail, hd]) (by rw [h3]; simp [Dk.doFail, hd]) h4, ?_⟩
    simpa [Dk.doFail, hd] using h2
  · rw [hd] at hm
    refine (doFail_dead n w hm).mono fun e w' ⟨he, h3⟩ => ⟨by rw [he]; simp [Dk.awake, hd], ?_, by subst h3; exact Upd.refl _ _⟩
    subst h3
    refine ⟨s, g, c, ?_, ?_⟩
    · simpa [Dk.doFail, hd] using h1
    · simpa [Dk.doFail, hd] using h2

end Go.Proofs.Ytbimkhdiplnbfaa
