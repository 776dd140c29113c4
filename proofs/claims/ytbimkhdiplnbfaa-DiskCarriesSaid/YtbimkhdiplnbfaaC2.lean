/- Walks of the disk: Sync over the disk as a value. -/
import Derived.Test.YtbimkhdiplnbfaaC1
namespace Go.Proofs.Ytbimkhdiplnbfaa
open Go.RowKit

set_option maxHeartbeats 2000000 in
theorem sync_any {p : Nat} {D : Dk} {F : Nat → Prop} (w : World) (h : Dsk w p D F) (hok : D.Ok 1099511627773) :
    Calls Try.prog 38 #[.pointer (some ⟨p, 0, none⟩)] w fun e w' => e = .returned (.int .i64 (D.callE 0 true)) ∧ Left w p D.sync F w' := by
  have hlt := h.lt
  have hokD := hok.callD 0 true
  have hok0 := hok.mono (K' := 1099511627774) (by omega)
  obtain ⟨s, g, c, hD, hF⟩ := h
  have hlen := hok.len
  have hU1 : Upd F w (w.alloc (.cells #[.pointer (some ⟨p, 0, none⟩)] 25)) := (Upd.refl _ w).alloc _
  have hD1 : DiskAt (w.alloc (.cells #[.pointer (some ⟨p, 0, none⟩)] 25)) p D s g c := hD.kept (G := fun _ => False) ((Upd.refl _ w).alloc _) (fun _ _ h => h)
  have hbd : (w.alloc (.cells #[.pointer (some ⟨p, 0, none⟩)] 25)).heap[w.heap.size]? = some (.cells #[.pointer (some ⟨p, 0, none⟩)] 25 (0, 0)) := alloc_at rfl
  have hz : w.heap.size ≤ (w.alloc (.cells #[.pointer (some ⟨p, 0, none⟩)] 25)).heap.size := by simp
  have hcall : Calls Try.prog 82 #[.pointer (some ⟨p, 0, none⟩), .int .i64 0, .bool true, .func (.func 84) #[] #[.pointer (some ⟨w.heap.size, 0, none⟩)], .func (.func 87) #[] #[]]
      (w.alloc (.cells #[.pointer (some ⟨p, 0, none⟩)] 25)) fun e w' => e = .returned (.int .i64 (D.callE 0 true)) ∧ Left w p D.sync F w' := by
    generalize w.alloc (.cells #[.pointer (some ⟨p, 0, none⟩)] 25) = w0 at *
    have hm : w0.heap[p]? = some (mainObj s D.arr.length D.sent D.ops D.arm D.fail D.dead) := hD1.main
    have hk : 0 < D.arr.length := by omega
    have hk2 : D.arr ≠ [] := by intro e; rw [e] at hk; simp at hk
    cases hd : D.dead
    · rw [hd] at hm
      by_cases ha0 : D.arm = 0
      · rw [ha0] at hm
        have e1 : D.callE 0 true = 9 := by simp [Dk.callE, hd, hk2, ha0]
        have e2 : D.sync = ({ D with fail := max (D.fail - 1) (-1), dead := true } : Dk) := by
          unfold Dk.sync; rw [e1]; simp [Dk.callD, hd, hk2, ha0]
        rw [e1, e2]
        refine call_dies 0 _ 87 _ _ w0 hm hk callF_enters87 hok.fail (fun W1 h1 h2 => (nothing s W1).mono ?_)
        rintro e w' ⟨rfl, rfl⟩
        exact ⟨rfl, (Left.main hD1 hF (D' := { D with fail := max (D.fail - 1) (-1), dead := true }) rfl rfl (by rw [ha0]; exact h1) h2).of_upd hU1 hz⟩
      · by_cases hf0 : D.fail = 0
        · rw [hf0] at hm
          have e1 : D.callE 0 true = 8 := by simp [Dk.callE, hd, hk2, ha0, hf0]
          have e2 : D.sync = ({ D with fail := -1 } : Dk) := by
            unfold Dk.sync; rw [e1]; simp [Dk.callD, hd, hk2, ha0, hf0]
          rw [e1, e2]
          refine (call_fails_t 0 _ _ w0 hm hk ha0).mono ?_
          rintro e w' ⟨rfl, h1, h2⟩
          exact ⟨rfl, (Left.main hD1 hF (D' := { D with fail := -1 }) rfl rfl (by rw [hd]; exact h1) h2).of_upd hU1 hz⟩
        · have e1 : D.callE 0 true = 0 := by simp [Dk.callE, hd, hk2, ha0, hf0]
          have e3 : D.callD 0 true = ({ D with fail := max (D.fail - 1) (-1), ops := D.ops + 1, arm := max (D.arm - 1) (-1) } : Dk) := by simp [Dk.callD, hd, hk2, ha0, hf0]
          have e2 : D.sync = (D.callD 0 true).arrive (fun _ => false) := by unfold Dk.sync; rw [e1]; rfl
          rw [e1, e2, e3]
          rw [e3] at hokD
          refine call_go_t 0 _ 84 _ _ w0 hm hk callF_enters84 ha0 hok.arm hf0 hok.fail ⟨hok.ops.1, by have := hok.ops.2; omega⟩ (fun W1 h1 h2 => ?_)
          have hA : Dsk W1 p { D with fail := max (D.fail - 1) (-1), ops := D.ops + 1, arm := max (D.arm - 1) (-1) } F := Dsk.withMain hD1 hF rfl rfl (by rw [hd]; exact h1) h2
          have hz1 := h2.size
          refine (arrives_all (s := s) W1 hA hokD ((h2.block _ (lt_of_heap hbd) (fun e => by have := hlt p ((hF p).2 (.inl rfl)); omega)).trans hbd)).mono ?_
          rintro e w' ⟨rfl, hl⟩
          exact ⟨rfl, hl.of_upd (hU1.trans (h2.mono (fun _ _ e => (hF _).2 (.inl e)))) (by omega)⟩
    · rw [hd] at hm
      refine (call_dead 0 true _ _ w0 hm).mono ?_
      rintro e w' ⟨rfl, rfl⟩
      have e1 : D.callE 0 true = 9 := by simp [Dk.callE, hd]
      have e2 : D.sync = D := by unfold Dk.sync; rw [e1]; simp [Dk.callD, hd]
      rw [e1, e2]
      exact ⟨rfl, (Left.same ⟨s, g, c, hD1, hF⟩).of_upd hU1 hz⟩
  have HC := Lib.hid hcall
  clear hcall hD1 hU1 hbd hz hD hF hlt hlen hok hok0 hokD
  go_enter Try.func38, Try.ntmps38
  go_wp2_with (go_at_call 82; refine HC.out.mono ?_; rintro e w' ⟨rfl, hl⟩)
  go_ret
  exact ⟨rfl, hl⟩

end Go.Proofs.Ytbimkhdiplnbfaa
