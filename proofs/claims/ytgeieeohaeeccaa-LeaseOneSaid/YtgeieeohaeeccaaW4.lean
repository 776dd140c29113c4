/- Walks of the lease layer, 4. -/
import Derived.Test.YtgeieeohaeeccaaW3
namespace Go.Proofs.Ytgeieeohaeeccaa
open Go.RowKit

theorem alloc_at {w : World} {o : Obj} {k : Nat} (h : k = w.heap.size) : (w.alloc o).heap[k]? = some o := by
  subst h; show (w.heap.push o)[w.heap.size]? = _; simp
theorem alloc_lt {w : World} {o : Obj} {k : Nat} (h : k < w.heap.size) : (w.alloc o).heap[k]? = w.heap[k]? := Below.heap_alloc _ _ _ h
set_option maxHeartbeats 1000000 in
theorem turn_good_acq (e h u who now span : Int) (c1 c2 c3 : Value) (X : Int × Int × Int × Int) (w : World) (he : 0 ≤ e) (ha : asked e h u who now span = 0)
    (hcl : ∀ (W : World) (b : Nat), W.heap[b]? = some (.cells #[.int .u64 e, .int .i64 h, .int .i64 u] 24 (0, 0)) → Below w.heap.size w W → Calls Try.prog 20 #[.pointer (some ⟨b, 0, none⟩), c1, c2, c3] W fun en w' =>
      en = .returned (.int .i64 X.1) ∧ w'.heap[b]? = some (.cells #[.int .u64 X.2.1, .int .i64 X.2.2.1, .int .i64 X.2.2.2] 24 (0, 0)) ∧ W.grownBy w' (some b)) :
    Calls Try.prog 19 #[.agg #[.int .u64 e, .int .i64 h, .int .i64 u], .int .i64 who, .int .i64 now, .int .i64 span, .func (.func 20) #[] #[c1, c2, c3]] w fun en w' =>
      en = .returned (lres (if X.1 ≠ 0 then (X.1, 0, 0, 0) else X)) ∧ Below w.heap.size w w' := by
  have hr : right e h u = true := by
    unfold asked at ha; cases hq : right e h u
    · simp [hq] at ha
    · rfl
  have hk : (chk e h u != 0) = false := by simp [chk, hr]
  have hgood : ¬ (who < 1 ∨ who > 3 ∨ now < 0 ∨ now > 1099511627676 ∨ span < 1 ∨ span > 100) := by
    intro hq; unfold asked at ha; rw [if_neg (by simp [hr]), if_pos hq] at ha; simp at ha
  have hM : isM who = true := by simp [isM]; omega
  have h3 : 0 ≤ now := by omega
  have h4 : now ≤ 1099511627676 := by omega
  have h5 : 1 ≤ span := by omega
  have h6 : span ≤ 100 := by omega
  have hC := Lib.hid hcl
  clear ha hr hgood hcl
  go_enter Try.func19, Try.ntmps19
  go_wp2_with (first | (go_at_call 10; refine (check_any _ _ _ _ he).mono ?_; rintro e w' ⟨rfl, hb1⟩; obtain ⟨hc, hf⟩ := bcell hb1; simp only [World.size_alloc] at hc hf; have hB1 : Below w.heap.size w w' := Below.step (by go_grown) (by go_size) hb1) | (go_at_call 23; refine (manager_any _ _).mono ?_; rintro e w' ⟨rfl, rfl⟩) | (go_at_call 20; fail))
  have hsz : w.heap.size + 2 ≤ w'.heap.size := by have := hb1.size; simp at this; omega
  refine (hC.out _ w.heap.size ((hb1.block _ (by simp; omega)).trans ((alloc_lt (by simp)).trans (alloc_at rfl))) hB1).mono ?_
  rintro e2 w2 ⟨rfl, hblk, hg⟩
  have k0 := cell_of_heap3 hblk
  have k1 : ∀ o, w2.frozen? ⟨w.heap.size, o, none⟩ = false := fun o => frozen_of_heap hblk
  have hblk2 : w2.heap[w.heap.size + 1]? = some (.cells #[.int .u64 0, .int .i64 0, .int .i64 0] 24 (0, 0)) :=
    (hg.block _ (by omega) (by simp)).trans ((hb1.block _ (by simp)).trans (alloc_at (by simp)))
  have k2 := cell_of_heap3 hblk2
  have k3 : ∀ o, w2.frozen? ⟨w.heap.size + 1, o, none⟩ = false := fun o => frozen_of_heap hblk2
  have hB2 : Below w.heap.size w w2 := hB1.grown hg (by omega) (by simp)
  have Hh := Lib.hid hblk; have Hh2 := Lib.hid hblk2; clear hblk hblk2 hc hf hb1 hg hB1
  by_cases hX : X.1 = 0
  · go_wp2
    refine bodyPost_ret (v := lres X) (by simp [lres, results, Try.results19, go_sem, k2, hX]) rfl ⟨rfl, ?_⟩
    go_grown
  · go_wp2
    refine bodyPost_ret (v := lres (X.1, 0, 0, 0)) (by simp [lres, results, Try.results19, go_sem, k2]) rfl ⟨rfl, ?_⟩
    go_grown

set_option maxHeartbeats 1000000 in
theorem turn_good_yie (e h u who now span : Int) (c1 c2 c3 : Value) (X : Int × Int × Int × Int) (w : World) (he : 0 ≤ e) (ha : asked e h u who now span = 0)
    (hcl : ∀ (W : World) (b : Nat), W.heap[b]? = some (.cells #[.int .u64 e, .int .i64 h, .int .i64 u] 24 (0, 0)) → Below w.heap.size w W → Calls Try.prog 26 #[.pointer (some ⟨b, 0, none⟩), c1, c2, c3] W fun en w' =>
      en = .returned (.int .i64 X.1) ∧ w'.heap[b]? = some (.cells #[.int .u64 X.2.1, .int .i64 X.2.2.1, .int .i64 X.2.2.2] 24 (0, 0)) ∧ W.grownBy w' (some b)) :
    Calls Try.prog 19 #[.agg #[.int .u64 e, .int .i64 h, .int .i64 u], .int .i64 who, .int .i64 now, .int .i64 span, .func (.func 26) #[] #[c1, c2, c3]] w fun en w' =>
      en = .returned (lres (if X.1 ≠ 0 then (X.1, 0, 0, 0) else X)) ∧ Below w.heap.size w w' := by
  have hr : right e h u = true := by
    unfold asked at ha; cases hq : right e h u
    · simp [hq] at ha
    · rfl
  have hk : (chk e h u != 0) = false := by simp [chk, hr]
  have hgood : ¬ (who < 1 ∨ who > 3 ∨ now < 0 ∨ now > 1099511627676 ∨ span < 1 ∨ span > 100) := by
    intro hq; unfold asked at ha; rw [if_neg (by simp [hr]), if_pos hq] at ha; simp at ha
  have hM : isM who = true := by simp [isM]; omega
  have h3 : 0 ≤ now := by omega
  have h4 : now ≤ 1099511627676 := by omega
  have h5 : 1 ≤ span := by omega
  have h6 : span ≤ 100 := by omega
  have hC := Lib.hid hcl
  clear ha hr hgood hcl
  go_enter Try.func19, Try.ntmps19
  go_wp2_with (first | (go_at_call 10; refine (check_any _ _ _ _ he).mono ?_; rintro e w' ⟨rfl, hb1⟩; obtain ⟨hc, hf⟩ := bcell hb1; simp only [World.size_alloc] at hc hf; have hB1 : Below w.heap.size w w' := Below.step (by go_grown) (by go_size) hb1) | (go_at_call 23; refine (manager_any _ _).mono ?_; rintro e w' ⟨rfl, rfl⟩) | (go_at_call 26; fail))
  have hsz : w.heap.size + 2 ≤ w'.heap.size := by have := hb1.size; simp at this; omega
  refine (hC.out _ w.heap.size ((hb1.block _ (by simp; omega)).trans ((alloc_lt (by simp)).trans (alloc_at rfl))) hB1).mono ?_
  rintro e2 w2 ⟨rfl, hblk, hg⟩
  have k0 := cell_of_heap3 hblk
  have k1 : ∀ o, w2.frozen? ⟨w.heap.size, o, none⟩ = false := fun o => frozen_of_heap hblk
  have hblk2 : w2.heap[w.heap.size + 1]? = some (.cells #[.int .u64 0, .int .i64 0, .int .i64 0] 24 (0, 0)) :=
    (hg.block _ (by omega) (by simp)).trans ((hb1.block _ (by simp)).trans (alloc_at (by simp)))
  have k2 := cell_of_heap3 hblk2
  have k3 : ∀ o, w2.frozen? ⟨w.heap.size + 1, o, none⟩ = false := fun o => frozen_of_heap hblk2
  have hB2 : Below w.heap.size w w2 := hB1.grown hg (by omega) (by simp)
  have Hh := Lib.hid hblk; have Hh2 := Lib.hid hblk2; clear hblk hblk2 hc hf hb1 hg hB1
  by_cases hX : X.1 = 0
  · go_wp2
    refine bodyPost_ret (v := lres X) (by simp [lres, results, Try.results19, go_sem, k2, hX]) rfl ⟨rfl, ?_⟩
    go_grown
  · go_wp2
    refine bodyPost_ret (v := lres (X.1, 0, 0, 0)) (by simp [lres, results, Try.results19, go_sem, k2]) rfl ⟨rfl, ?_⟩
    go_grown

set_option maxHeartbeats 1000000 in
theorem turn_good_ren (e h u who now span : Int) (c1 c2 c3 c4 : Value) (X : Int × Int × Int × Int) (w : World) (he : 0 ≤ e) (ha : asked e h u who now span = 0)
    (hcl : ∀ (W : World) (b : Nat), W.heap[b]? = some (.cells #[.int .u64 e, .int .i64 h, .int .i64 u] 24 (0, 0)) → Below w.heap.size w W → Calls Try.prog 24 #[.pointer (some ⟨b, 0, none⟩), c1, c2, c3, c4] W fun en w' =>
      en = .returned (.int .i64 X.1) ∧ w'.heap[b]? = some (.cells #[.int .u64 X.2.1, .int .i64 X.2.2.1, .int .i64 X.2.2.2] 24 (0, 0)) ∧ W.grownBy w' (some b)) :
    Calls Try.prog 19 #[.agg #[.int .u64 e, .int .i64 h, .int .i64 u], .int .i64 who, .int .i64 now, .int .i64 span, .func (.func 24) #[] #[c1, c2, c3, c4]] w fun en w' =>
      en = .returned (lres (if X.1 ≠ 0 then (X.1, 0, 0, 0) else X)) ∧ Below w.heap.size w w' := by
  have hr : right e h u = true := by
    unfold asked at ha; cases hq : right e h u
    · simp [hq] at ha
    · rfl
  have hk : (chk e h u != 0) = false := by simp [chk, hr]
  have hgood : ¬ (who < 1 ∨ who > 3 ∨ now < 0 ∨ now > 1099511627676 ∨ span < 1 ∨ span > 100) := by
    intro hq; unfold asked at ha; rw [if_neg (by simp [hr]), if_pos hq] at ha; simp at ha
  have hM : isM who = true := by simp [isM]; omega
  have h3 : 0 ≤ now := by omega
  have h4 : now ≤ 1099511627676 := by omega
  have h5 : 1 ≤ span := by omega
  have h6 : span ≤ 100 := by omega
  have hC := Lib.hid hcl
  clear ha hr hgood hcl
  go_enter Try.func19, Try.ntmps19
  go_wp2_with (first | (go_at_call 10; refine (check_any _ _ _ _ he).mono ?_; rintro e w' ⟨rfl, hb1⟩; obtain ⟨hc, hf⟩ := bcell hb1; simp only [World.size_alloc] at hc hf; have hB1 : Below w.heap.size w w' := Below.step (by go_grown) (by go_size) hb1) | (go_at_call 23; refine (manager_any _ _).mono ?_; rintro e w' ⟨rfl, rfl⟩) | (go_at_call 24; fail))
  have hsz : w.heap.size + 2 ≤ w'.heap.size := by have := hb1.size; simp at this; omega
  refine (hC.out _ w.heap.size ((hb1.block _ (by simp; omega)).trans ((alloc_lt (by simp)).trans (alloc_at rfl))) hB1).mono ?_
  rintro e2 w2 ⟨rfl, hblk, hg⟩
  have k0 := cell_of_heap3 hblk
  have k1 : ∀ o, w2.frozen? ⟨w.heap.size, o, none⟩ = false := fun o => frozen_of_heap hblk
  have hblk2 : w2.heap[w.heap.size + 1]? = some (.cells #[.int .u64 0, .int .i64 0, .int .i64 0] 24 (0, 0)) :=
    (hg.block _ (by omega) (by simp)).trans ((hb1.block _ (by simp)).trans (alloc_at (by simp)))
  have k2 := cell_of_heap3 hblk2
  have k3 : ∀ o, w2.frozen? ⟨w.heap.size + 1, o, none⟩ = false := fun o => frozen_of_heap hblk2
  have hB2 : Below w.heap.size w w2 := hB1.grown hg (by omega) (by simp)
  have Hh := Lib.hid hblk; have Hh2 := Lib.hid hblk2; clear hblk hblk2 hc hf hb1 hg hB1
  by_cases hX : X.1 = 0
  · go_wp2
    refine bodyPost_ret (v := lres X) (by simp [lres, results, Try.results19, go_sem, k2, hX]) rfl ⟨rfl, ?_⟩
    go_grown
  · go_wp2
    refine bodyPost_ret (v := lres (X.1, 0, 0, 0)) (by simp [lres, results, Try.results19, go_sem, k2]) rfl ⟨rfl, ?_⟩
    go_grown

end Go.Proofs.Ytgeieeohaeeccaa
