/- Walks of the disk: what only reads, and what sets a number. -/
import Derived.Test.YtbimkhdiplnbfaaA1
namespace Go.Proofs.Ytbimkhdiplnbfaa
open Go.RowKit

theorem len_nil (w : World) : Calls Try.prog 41 #[.pointer none] w fun e w' => e = .returned (.int .i64 0) ∧ w = w' := by
  go_enter Try.func41, Try.ntmps41
  go_wp2
  go_ret
  exact ⟨rfl, rfl⟩
theorem ops_nil (w : World) : Calls Try.prog 36 #[.pointer none] w fun e w' => e = .returned (.int .i64 0) ∧ w = w' := by
  go_enter Try.func36, Try.ntmps36
  go_wp2
  go_ret
  exact ⟨rfl, rfl⟩
theorem dead_nil (w : World) : Calls Try.prog 51 #[.pointer none] w fun e w' => e = .returned (.bool false) ∧ w = w' := by
  go_enter Try.func51, Try.ntmps51
  go_wp2
  go_ret
  exact ⟨rfl, rfl⟩
theorem awake_nil (w : World) : Calls Try.prog 101 #[.pointer none] w fun e w' => e = .returned (.int .i64 1) ∧ w = w' := by
  go_enter Try.func101, Try.ntmps101
  go_wp2
  go_ret
  exact ⟨rfl, rfl⟩

set_option maxHeartbeats 400000 in
theorem len_at {p s n : Nat} {x1 x2 x3 x4 x5 : Value} (w : World) (hm : w.heap[p]? = some (.cells #[.slice (some ⟨s, 0, none⟩) n n, x1, x2, x3, x4, x5] 128 (0, 0))) :
    Calls Try.prog 41 #[.pointer (some ⟨p, 0, none⟩)] w fun e w' => e = .returned (.int .i64 n) ∧ w = w' := by
  have c0 := (cells6_of hm).1
  clear hm
  go_enter Try.func41, Try.ntmps41
  go_wp2
  go_ret
  exact ⟨rfl, rfl⟩
theorem len_any {p : Nat} {D : Dk} {F : Nat → Prop} (w : World) (h : Dsk w p D F) :
    Calls Try.prog 41 #[.pointer (some ⟨p, 0, none⟩)] w fun e w' => e = .returned (.int .i64 D.arr.length) ∧ w = w' := by
  obtain ⟨s, g, c, h1, _⟩ := h
  exact len_at w h1.main

set_option maxHeartbeats 400000 in
theorem ops_at {p : Nat} {x0 x1 x3 x4 x5 : Value} {n : Int} (w : World) (hm : w.heap[p]? = some (.cells #[x0, x1, .int .i64 n, x3, x4, x5] 128 (0, 0))) :
    Calls Try.prog 36 #[.pointer (some ⟨p, 0, none⟩)] w fun e w' => e = .returned (.int .i64 n) ∧ w = w' := by
  have c0 := (cells6_of hm).2.2.1
  clear hm
  go_enter Try.func36, Try.ntmps36
  go_wp2
  go_ret
  exact ⟨rfl, rfl⟩
theorem ops_any {p : Nat} {D : Dk} {F : Nat → Prop} (w : World) (h : Dsk w p D F) :
    Calls Try.prog 36 #[.pointer (some ⟨p, 0, none⟩)] w fun e w' => e = .returned (.int .i64 D.ops) ∧ w = w' := by
  obtain ⟨s, g, c, h1, _⟩ := h
  exact ops_at w h1.main

set_option maxHeartbeats 400000 in
theorem dead_at {p : Nat} {x0 x1 x2 x3 x4 : Value} {b : Bool} (w : World) (hm : w.heap[p]? = some (.cells #[x0, x1, x2, x3, x4, .bool b] 128 (0, 0))) :
    Calls Try.prog 51 #[.pointer (some ⟨p, 0, none⟩)] w fun e w' => e = .returned (.bool b) ∧ w = w' := by
  have c0 := (cells6_of hm).2.2.2.2.2
  clear hm
  go_enter Try.func51, Try.ntmps51
  go_wp2
  go_ret
  exact ⟨rfl, rfl⟩
theorem dead_any {p : Nat} {D : Dk} {F : Nat → Prop} (w : World) (h : Dsk w p D F) :
    Calls Try.prog 51 #[.pointer (some ⟨p, 0, none⟩)] w fun e w' => e = .returned (.bool D.dead) ∧ w = w' := by
  obtain ⟨s, g, c, h1, _⟩ := h
  exact dead_at w h1.main

def Dk.awake (D : Dk) : Int := if D.dead then 9 else 0
set_option maxHeartbeats 400000 in
theorem awake_at {p : Nat} {x0 x1 x2 x3 x4 : Value} {b : Bool} (w : World) (hm : w.heap[p]? = some (.cells #[x0, x1, x2, x3, x4, .bool b] 128 (0, 0))) :
    Calls Try.prog 101 #[.pointer (some ⟨p, 0, none⟩)] w fun e w' => e = .returned (.int .i64 (if b then 9 else 0)) ∧ w = w' := by
  have c0 := (cells6_of hm).2.2.2.2.2
  clear hm
  cases b
  all_goals
    go_enter Try.func101, Try.ntmps101
    go_wp2
    go_ret
    exact ⟨rfl, rfl⟩

end Go.Proofs.Ytbimkhdiplnbfaa
