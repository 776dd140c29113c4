/- Walks of the lease layer. -/
import Derived.Test.YtgeieeohaeeccaaRows
import Derived.WalkKit
import Derived.WalkSpells
import Derived.WalkLawsBesides
import Derived.Deep.QuietTactic
import Derived.BigQuiet
import Derived.Handy
import Derived.StillTailTactics
namespace Go.Proofs.Ytgeieeohaeeccaa
open Go.RowKit

theorem ret_bool {a b : Bool} (h : a = b) : Ending.returned (.bool a) = .returned (.bool b) := by rw [h]
theorem ret_int {k : IntKind} {a b : Int} (h : a = b) : Ending.returned (.int k a) = .returned (.int k b) := by rw [h]

def isM (n : Int) : Bool := decide (1 ≤ n) && decide (n ≤ 3)

set_option maxHeartbeats 400000 in
theorem manager_any (n : Int) (w : World) :
    Calls Try.prog 23 #[.int .i64 n] w fun e w' => e = .returned (.bool (isM n)) ∧ w = w' := by
  go_enter Try.func23, Try.ntmps23
  go_wp2
  all_goals
    go_ret
    exact ⟨ret_bool (by simp [isM]; omega), rfl⟩

set_option maxHeartbeats 400000 in
theorem held_any (e h u n : Int) (w : World) :
    Calls Try.prog 21 #[.agg #[.int .u64 e, .int .i64 h, .int .i64 u], .int .i64 n] w fun e w' => e = .returned (.bool (decide (n < u))) ∧ Below w.heap.size w w' := by
  go_enter Try.func21, Try.ntmps21
  go_wp2
  go_ret
  exact ⟨rfl, (Below.refl _ _).alloc (Nat.le_refl _) _⟩

def right (e h u : Int) : Bool :=
  if e = 0 then decide (h = 0 ∧ u = 0) else decide (0 ≤ e ∧ e ≤ 2147483647 ∧ 1 ≤ h ∧ h ≤ 3 ∧ 0 ≤ u ∧ u ≤ 1099511627776)

theorem _root_.Go.RowKit.Below.step {B : Nat} {w w1 w2 : World} (h : Below B w w1) (hB : B ≤ w.heap.size) (k : Below w1.heap.size w1 w2) : Below B w w2 := h.trans (k.mono (Nat.le_trans hB h.size))

theorem cell_of_heap {w : World} {b n : Nat} {cs : Array Value} {t : TypeId} (h : w.heap[b]? = some (.cells cs t (0, 0))) : w.cell? ⟨b, n, none⟩ = cs[n]? := by
  simp [World.cell?, h]
theorem frozen_of_heap {w : World} {b n : Nat} {cs : Array Value} {t : TypeId} (h : w.heap[b]? = some (.cells cs t (0, 0))) : w.frozen? ⟨b, n, none⟩ = false := by
  simp [World.frozen?, h]
theorem cell_of_heap3 {w : World} {b : Nat} {x y z : Value} {t : TypeId} (h : w.heap[b]? = some (.cells #[x, y, z] t (0, 0))) :
   w.cell? ⟨b, 0, none⟩ = some x ∧ w.cell? ⟨b, 1, none⟩ = some y ∧ w.cell? ⟨b, 2, none⟩ = some z := by
  simp [World.cell?, h]

def asked (e h u who now span : Int) : Int :=
  if right e h u = false then 310 else if who < 1 ∨ who > 3 ∨ now < 0 ∨ now > 1099511627676 ∨ span < 1 ∨ span > 100 then 2 else 0
def refu (e h u who ep now : Int) : Int := if ep = e ∧ who = h then (if now < u then 0 else 313) else 312
def chk (e h u : Int) : Int := if right e h u then 0 else 310

set_option maxHeartbeats 1000000 in
theorem check_any (e h u : Int) (w : World) (he : 0 ≤ e) :
    Calls Try.prog 10 #[.agg #[.int .u64 e, .int .i64 h, .int .i64 u]] w fun en w' => en = .returned (.int .i64 (chk e h u)) ∧ Below w.heap.size w w' := by
  go_enter Try.func10, Try.ntmps10
  go_wp2_with (go_at_call 23; refine (manager_any _ _).mono ?_; rintro e w' ⟨rfl, rfl⟩)
  all_goals
    go_ret
    exact ⟨ret_int (by simp_all [chk, right, isM] <;> omega), (Below.refl _ _).alloc (Nat.le_refl _) _⟩

set_option maxHeartbeats 1000000 in
theorem right_any (e h u : Int) (w : World) (he : 0 ≤ e) :
    Calls Try.prog 11 #[.agg #[.int .u64 e, .int .i64 h, .int .i64 u]] w fun en w' => en = .returned (.bool (right e h u)) ∧ Below w.heap.size w w' := by
  go_enter Try.func11, Try.ntmps11
  go_wp2
  all_goals
    go_ret
    exact ⟨ret_bool (by rw [Bool.eq_iff_iff]; simp_all [right] <;> omega), (Below.refl _ _).alloc (Nat.le_refl _) _⟩


set_option maxHeartbeats 1000000 in
theorem asked_any (e h u who now span : Int) (w : World) (he : 0 ≤ e) :
    Calls Try.prog 22 #[.agg #[.int .u64 e, .int .i64 h, .int .i64 u], .int .i64 who, .int .i64 now, .int .i64 span] w fun en w' => en = .returned (.int .i64 (asked e h u who now span)) ∧ Below w.heap.size w w' := by
  go_enter Try.func22, Try.ntmps22
  go_wp2_with (go_at_call 11; refine (right_any _ _ _ _ he).mono ?_; rintro e w' ⟨rfl, hb⟩)
  all_goals
    go_ret
    exact ⟨ret_int (by simp_all [asked] <;> omega), ((Below.refl _ _).alloc (Nat.le_refl _) _).step (by simp) hb⟩

theorem bcell {W w1 : World} (hb : Below W.heap.size W w1) : (∀ b o, b < W.heap.size → w1.cell? ⟨b, o, none⟩ = W.cell? ⟨b, o, none⟩) ∧ (∀ b o, b < W.heap.size → w1.frozen? ⟨b, o, none⟩ = W.frozen? ⟨b, o, none⟩) :=
  ⟨fun b o h => hb.cell (p := ⟨b, o, none⟩) h, fun b o h => hb.frozen (p := ⟨b, o, none⟩) h⟩

set_option maxHeartbeats 1000000 in
theorem refuses_any (e h u who ep now : Int) (w : World) :
    Calls Try.prog 25 #[.agg #[.int .u64 e, .int .i64 h, .int .i64 u], .int .i64 who, .int .u64 ep, .int .i64 now] w fun en w' => en = .returned (.int .i64 (refu e h u who ep now)) ∧ Below w.heap.size w w' := by
  go_enter Try.func25, Try.ntmps25
  go_wp2_with (go_at_call 21; refine (held_any _ _ _ _ _).mono ?_; rintro e w' ⟨rfl, hb⟩; obtain ⟨hc, hf⟩ := bcell hb)
  all_goals
    go_ret
    refine ⟨ret_int (by simp_all [refu] <;> omega), ?_⟩
    first | exact ((Below.refl _ _).alloc (Nat.le_refl _) _).step (by simp) hb | exact ((Below.refl _ _).alloc (Nat.le_refl _) _)

end Go.Proofs.Ytgeieeohaeeccaa
