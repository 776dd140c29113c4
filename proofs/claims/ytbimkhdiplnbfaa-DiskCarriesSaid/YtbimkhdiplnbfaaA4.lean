/- Walks of the disk: call. -/
import Derived.Test.YtbimkhdiplnbfaaA3
namespace Go.Proofs.Ytbimkhdiplnbfaa
open Go.RowKit

theorem Upd.drewN {F : Nat → Prop} {a w : World} (h : Upd F a w) (n : Nat) : Upd F a (w.drewN n) := ⟨h.os, h.tape, h.output, h.size, h.block⟩
theorem Upd.set0 {p : Nat} {a w : World} (h : Upd (fun k => k = p) a w) (i : Nat) (v : Value) : Upd (fun k => k = p) a (w.setCell ⟨p, i, none⟩ v) :=
  Upd.setCell (F := fun k => k = p) h (p := ⟨p, i, none⟩) (.inl rfl) v

/-- The cells of a disk's own block. -/
def mainObj (s n : Nat) (sent ops arm fail : Int) (dead : Bool) : Obj :=
  .cells #[.slice (some ⟨s, 0, none⟩) n n, .int .i64 sent, .int .i64 ops, .int .i64 arm, .int .i64 fail, .bool dead] 128 (0, 0)

set_option maxHeartbeats 400000 in
theorem call_dead {p s n : Nat} {sent ops arm fail : Int} (i : Int) (wr : Bool) (v1 v2 : Value) (w : World) (hm : w.heap[p]? = some (mainObj s n sent ops arm fail true)) :
    Calls Try.prog 82 #[.pointer (some ⟨p, 0, none⟩), .int .i64 i, .bool wr, v1, v2] w fun e w' => e = .returned (.int .i64 9) ∧ w = w' := by
  have H := Lib.hid hm; clear hm
  go_enter Try.func82, Try.ntmps82
  go_wp2_with (go_at_call 101; refine (awake_at _ H.out).mono ?_; rintro e w' ⟨rfl, rfl⟩)
  go_ret
  exact ⟨rfl, rfl⟩

set_option maxHeartbeats 400000 in
theorem call_out {p s n : Nat} {sent ops arm fail : Int} (i : Int) (wr : Bool) (v1 v2 : Value) (w : World) (hm : w.heap[p]? = some (mainObj s n sent ops arm fail false)) (hi : i < 0 ∨ n ≤ i) :
    Calls Try.prog 82 #[.pointer (some ⟨p, 0, none⟩), .int .i64 i, .bool wr, v1, v2] w fun e w' => e = .returned (.int .i64 2) ∧ w = w' := by
  have c0 := cells6_of hm
  have H := Lib.hid hm; clear hm
  rcases hi with hi | hi
  all_goals
    go_enter Try.func82, Try.ntmps82
    go_wp2_with (go_at_call 101; refine (awake_at _ H.out).mono ?_; rintro e w' ⟨rfl, rfl⟩)
    go_ret
    exact ⟨rfl, rfl⟩

set_option maxHeartbeats 1000000 in
theorem call_dies {p s n : Nat} {sent ops fail : Int} (k : Nat) (v1 : Value) (f : Nat) (caps : Array Value) (R : World → Prop) (w : World) (hm : w.heap[p]? = some (mainObj s n sent ops 0 fail false)) (hk : k < n) 
    (eg : ∀ args w, (callFunc f args).run Try.prog w = .ok (.enter f args) w) (hf : -1 ≤ fail ∧ fail ≤ 9223372036854775807)
    (hcl : ∀ W1, W1.heap[p]? = some (mainObj s n sent ops 0 (max (fail - 1) (-1)) true) → Upd (fun k => k = p) w W1 →
      Calls Try.prog f (#[.pointer (some ⟨s, k, none⟩)] ++ caps) W1 fun e w' => e = .returned (.tuple #[]) ∧ R w') :
    Calls Try.prog 82 #[.pointer (some ⟨p, 0, none⟩), .int .i64 k, .bool true, v1, .func (.func f) #[] caps] w fun e w' => e = .returned (.int .i64 9) ∧ R w' := by
  have c0 := cells6_of hm
  have f0 : ∀ k, w.frozen? ⟨p, k, none⟩ = false := fun k => frozen_of_heap hm
  have H := Lib.hid hm
  have HC := Lib.hid hcl
  clear hm hcl
  obtain ⟨hf1, hf2⟩ := hf
  have hk' : (k : Int) < n := by omega
  have hx : (max (fail - 1) (-1) = -1 ∧ fail - 1 < -1) ∨ (max (fail - 1) (-1) = fail - 1 ∧ -1 ≤ fail - 1) := by omega
  rcases hx with ⟨hx, hy⟩ | ⟨hx, hy⟩
  all_goals
    rw [hx] at HC
    clear hx
    go_enter Try.func82, Try.ntmps82
    go_wp2_with (go_at_call 101; refine (awake_at _ H.out).mono ?_; rintro e w' ⟨rfl, rfl⟩)
    go_quiet (fail)
    go_wp2_with (fail)
    refine (HC.out _ (blk_set (blk_set H.out)) (((Upd.refl _ w).drewN nq).set0 _ _ |>.set0 _ _)).mono ?_
    rintro e w' ⟨rfl, hr⟩
    go_wp2
    go_ret
    exact ⟨rfl, hr⟩


set_option maxHeartbeats 1000000 in
theorem call_fails_t {p s n : Nat} {sent ops arm : Int} (k : Nat) (v1 v2 : Value) (w : World) (hm : w.heap[p]? = some (mainObj s n sent ops arm 0 false)) (hk : k < n) (ha : arm ≠ 0) :
    Calls Try.prog 82 #[.pointer (some ⟨p, 0, none⟩), .int .i64 k, .bool true, v1, v2] w fun e w' => e = .returned (.int .i64 8) ∧ w'.heap[p]? = some (mainObj s n sent ops arm (-1) false) ∧ Upd (fun k => k = p) w w' := by
  have c0 := cells6_of hm
  have f0 : ∀ k, w.frozen? ⟨p, k, none⟩ = false := fun k => frozen_of_heap hm
  have H := Lib.hid hm
  clear hm
  have hk' : (k : Int) < n := by omega
  have ha2 : (arm == 0) = false := by simp [ha]
  go_enter Try.func82, Try.ntmps82
  go_wp2_with (go_at_call 101; refine (awake_at _ H.out).mono ?_; rintro e w' ⟨rfl, rfl⟩)
  go_quiet (fail)
  go_wp2_with (fail)
  go_ret
  exact ⟨rfl, blk_set H.out, ((Upd.refl _ w).drewN nq).set0 _ _⟩

set_option maxHeartbeats 1000000 in
theorem call_fails_f {p s n : Nat} {sent ops arm : Int} (k : Nat) (v1 v2 : Value) (w : World) (hm : w.heap[p]? = some (mainObj s n sent ops arm 0 false)) (hk : k < n)  :
    Calls Try.prog 82 #[.pointer (some ⟨p, 0, none⟩), .int .i64 k, .bool false, v1, v2] w fun e w' => e = .returned (.int .i64 8) ∧ w'.heap[p]? = some (mainObj s n sent ops arm (-1) false) ∧ Upd (fun k => k = p) w w' := by
  have c0 := cells6_of hm
  have f0 : ∀ k, w.frozen? ⟨p, k, none⟩ = false := fun k => frozen_of_heap hm
  have H := Lib.hid hm
  clear hm
  have hk' : (k : Int) < n := by omega
  go_enter Try.func82, Try.ntmps82
  go_wp2_with (go_at_call 101; refine (awake_at _ H.out).mono ?_; rintro e w' ⟨rfl, rfl⟩)
  go_quiet (fail)
  go_wp2_with (fail)
  go_ret
  exact ⟨rfl, blk_set H.out, ((Upd.refl _ w).drewN nq).set0 _ _⟩

set_option maxHeartbeats 2000000 in
theorem call_go_t {p s n : Nat} {sent ops arm fail : Int} (k : Nat) (v2 : Value) (f : Nat) (caps : Array Value) (R : World → Prop) (w : World) (hm : w.heap[p]? = some (mainObj s n sent ops arm fail false)) (hk : k < n)
    (eg : ∀ args w, (callFunc f args).run Try.prog w = .ok (.enter f args) w) (ha : arm ≠ 0) (ha1 : -1 ≤ arm ∧ arm ≤ 9223372036854775807) (hf : fail ≠ 0) (hf1 : -1 ≤ fail ∧ fail ≤ 9223372036854775807) (ho : 0 ≤ ops ∧ ops ≤ 4611686018427387904)
    (hcl : ∀ W1, W1.heap[p]? = some (mainObj s n sent (ops + 1) (max (arm - 1) (-1)) (max (fail - 1) (-1)) false) → Upd (fun k => k = p) w W1 →
      Calls Try.prog f (#[.pointer (some ⟨s, k, none⟩)] ++ caps) W1 fun e w' => e = .returned (.tuple #[]) ∧ R w') :
    Calls Try.prog 82 #[.pointer (some ⟨p, 0, none⟩), .int .i64 k, .bool true, .func (.func f) #[] caps, v2] w fun e w' => e = .returned (.int .i64 0) ∧ R w' := by
  have c0 := cells6_of hm
  have f0 : ∀ k, w.frozen? ⟨p, k, none⟩ = false := fun k => frozen_of_heap hm
  have H := Lib.hid hm
  have HC := Lib.hid hcl
  clear hm hcl
  obtain ⟨hf2, hf3⟩ := hf1
  obtain ⟨ho1, ho2⟩ := ho
  have hf4 : (fail == 0) = false := by simp [hf]
  have ha2 : (arm == 0) = false := by simp [ha]
  obtain ⟨ha3, ha4⟩ := ha1
  have hk' : (k : Int) < n := by omega
  have hx : (max (fail - 1) (-1) = -1 ∧ fail - 1 < -1) ∨ (max (fail - 1) (-1) = fail - 1 ∧ -1 ≤ fail - 1) := by omega
  have hz : (max (arm - 1) (-1) = -1 ∧ arm - 1 < -1) ∨ (max (arm - 1) (-1) = arm - 1 ∧ -1 ≤ arm - 1) := by omega
  rcases hx with ⟨hx, hy⟩ | ⟨hx, hy⟩
  all_goals rcases hz with ⟨hz, hv⟩ | ⟨hz, hv⟩
  all_goals
    rw [hx, hz] at HC
    clear hx hz
    go_enter Try.func82, Try.ntmps82
    go_wp2_with (go_at_call 101; refine (awake_at _ H.out).mono ?_; rintro e w' ⟨rfl, rfl⟩)
    go_quiet (fail)
    go_wp2_with (fail)
    refine (HC.out _ (blk_set (blk_set (blk_set H.out))) (((Upd.refl _ w).drewN nq).set0 _ _ |>.set0 _ _ |>.set0 _ _)).mono ?_
    rintro e w' ⟨rfl, hr⟩
    go_wp2
    go_ret
    exact ⟨rfl, hr⟩

set_option maxHeartbeats 2000000 in
theorem call_go_f {p s n : Nat} {sent ops arm fail : Int} (k : Nat) (v2 : Value) (f : Nat) (caps : Array Value) (R : World → Prop) (w : World) (hm : w.heap[p]? = some (mainObj s n sent ops arm fail false)) (hk : k < n)
    (eg : ∀ args w, (callFunc f args).run Try.prog w = .ok (.enter f args) w)  (hf : fail ≠ 0) (hf1 : -1 ≤ fail ∧ fail ≤ 9223372036854775807) (ho : 0 ≤ ops ∧ ops ≤ 4611686018427387904)
    (hcl : ∀ W1, W1.heap[p]? = some (mainObj s n sent (ops + 1) arm (max (fail - 1) (-1)) false) → Upd (fun k => k = p) w W1 →
      Calls Try.prog f (#[.pointer (some ⟨s, k, none⟩)] ++ caps) W1 fun e w' => e = .returned (.tuple #[]) ∧ R w') :
    Calls Try.prog 82 #[.pointer (some ⟨p, 0, none⟩), .int .i64 k, .bool false, .func (.func f) #[] caps, v2] w fun e w' => e = .returned (.int .i64 0) ∧ R w' := by
  have c0 := cells6_of hm
  have f0 : ∀ k, w.frozen? ⟨p, k, none⟩ = false := fun k => frozen_of_heap hm
  have H := Lib.hid hm
  have HC := Lib.hid hcl
  clear hm hcl
  obtain ⟨hf2, hf3⟩ := hf1
  obtain ⟨ho1, ho2⟩ := ho
  have hf4 : (fail == 0) = false := by simp [hf]
  have hk' : (k : Int) < n := by omega
  have hx : (max (fail - 1) (-1) = -1 ∧ fail - 1 < -1) ∨ (max (fail - 1) (-1) = fail - 1 ∧ -1 ≤ fail - 1) := by omega
  rcases hx with ⟨hx, hy⟩ | ⟨hx, hy⟩
  all_goals
    rw [hx] at HC
    clear hx
    go_enter Try.func82, Try.ntmps82
    go_wp2_with (go_at_call 101; refine (awake_at _ H.out).mono ?_; rintro e w' ⟨rfl, rfl⟩)
    go_quiet (fail)
    go_wp2_with (fail)
    refine (HC.out _ (blk_set (blk_set H.out)) (((Upd.refl _ w).drewN nq).set0 _ _ |>.set0 _ _)).mono ?_
    rintro e w' ⟨rfl, hr⟩
    go_wp2
    go_ret
    exact ⟨rfl, hr⟩

end Go.Proofs.Ytbimkhdiplnbfaa
