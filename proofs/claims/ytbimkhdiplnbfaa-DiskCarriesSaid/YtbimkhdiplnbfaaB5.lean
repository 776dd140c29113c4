/- Walks of the disk: Write over the disk as a value. -/
import Derived.Test.YtbimkhdiplnbfaaB4
import Derived.Shelf.Abstract
namespace Go.Proofs.Ytbimkhdiplnbfaa
open Go.RowKit

/-- What a call that writes leaves: the disk behind it, in blocks of its own or new ones. -/
def Left (w : World) (p : Nat) (D : Dk) (F : Nat → Prop) (w' : World) : Prop := ∃ F', Dsk w' p D F' ∧ (∀ k, F' k → F k ∨ w.heap.size ≤ k) ∧ Upd F w w'

theorem Left.same {w : World} {p : Nat} {D : Dk} {F : Nat → Prop} (h : Dsk w p D F) : Left w p D F w := ⟨F, h, fun _ hk => .inl hk, Upd.refl _ _⟩

/-- The numbers alone turned. -/
theorem Left.main {w w' : World} {p s : Nat} {D D' : Dk} {g c : Nat → Nat} {F : Nat → Prop} (h : DiskAt w p D s g c) (hF : ∀ k, F k ↔ Fp p s g D.arr.length k) (ha : D'.arr = D.arr) (hr : D'.row = D.row)
    (hm : w'.heap[p]? = some (mainObj s D'.arr.length D'.sent D'.ops D'.arm D'.fail D'.dead)) (hu : Upd (fun k => k = p) w w') : Left w p D' F w' :=
  ⟨F, ⟨s, g, c, h.withMain ha hr hm hu, by rw [ha]; exact hF⟩, fun _ hk => .inl hk, hu.mono (fun k _ hk => (hF k).2 (.inl hk))⟩

theorem vers_length_le (D : Dk) (i : Nat) : (D.vers i).length ≤ D.row.length + 1 := by
  simp [Dk.vers]; exact List.length_filter_le _ _

theorem callF_enters81 : ∀ args w, (callFunc 81 args).run Try.prog w = .ok (.enter 81 args) w := enters_of Try.func81 (by kernel_rfl) rfl
theorem callF_enters90 : ∀ args w, (callFunc 90 args).run Try.prog w = .ok (.enter 90 args) w := enters_of Try.func90 (by kernel_rfl) rfl

/-- Write$1 over a disk that lies in memory: the block is sent. -/
theorem sends_any {p s : Nat} {D : Dk} {g c : Nat → Nat} {k bd bb : Nat} {b : List Int} (w : World) (h : DiskAt w p D s g c) (hk : k < D.arr.length) (hrl : D.row.length ≤ 1099511627774) (hsl : 0 ≤ D.sent ∧ D.sent ≤ 1099511627774)
    (hd : w.heap[bd]? = some (.cells #[.pointer (some ⟨p, 0, none⟩)] 25 (0, 0))) (hb : w.heap[bb]? = some (.cells (bcells b).toArray 56 (0, 0))) (hbl : b.length = 64)
    (nd : ¬ Fp p s g D.arr.length bd) (nb : ¬ Fp p s g D.arr.length bb) :
    Calls Try.prog 81 #[.pointer (some ⟨s, k, none⟩), .pointer (some ⟨bd, 0, none⟩), .pointer (some ⟨bb, 0, none⟩)] w fun e w' => e = .returned (.tuple #[]) ∧
      ∃ g' c', DiskAt w' p (D.send k b) s g' c' ∧ (∀ j, j < D.arr.length → g' j = g j ∨ w.heap.size ≤ g' j) ∧ Upd (fun j => j = p ∨ j = s ∨ j = g k) w w' := by
  have hrow := h.rows k hk
  have hl := vers_length_le D k
  refine (sends_run (k := k) (bs := bcells b) w h.main h.sec (by simp [hk]) hrow hd hb (by simp [bcells, hbl]) (bcells_one b) (by omega) ⟨hsl.1, by have := hsl.2; omega⟩ h.ps (h.gp k hk) (h.gs k hk)
    (fun e => nd (.inl e)) (fun e => nd (.inr (.inl e))) (fun e => nd (.inr (.inr ⟨k, hk, e⟩))) (fun e => nb (.inl e)) (fun e => nb (.inr (.inl e))) (fun e => nb (.inr (.inr ⟨k, hk, e⟩)))).mono ?_
  rintro e w' ⟨rfl, g', cap', h1, h2, h3, h4, h5⟩
  refine ⟨rfl, _, _, h.sent hk h1 h2 h3 h4 h5, fun j hj => ?_, h5⟩
  by_cases hjk : j = k
  · subst hjk; simpa using h4
  · simp [hjk]

theorem Left.of_upd {w w0 w' : World} {p : Nat} {D : Dk} {F : Nat → Prop} (h : Left w0 p D F w') (hu : Upd F w w0) (hs : w.heap.size ≤ w0.heap.size) : Left w p D F w' := by
  obtain ⟨F', h1, h2, h3⟩ := h
  exact ⟨F', h1, fun k hk => (h2 k hk).imp id (fun e => by omega), hu.trans h3⟩

set_option maxHeartbeats 2000000 in
theorem write_any {p : Nat} {D : Dk} {F : Nat → Prop} (i : Int) (b : List Int) (w : World) (h : Dsk w p D F) (hok : D.Ok 1099511627774) (hbl : b.length = 64) :
    Calls Try.prog 34 #[.pointer (some ⟨p, 0, none⟩), .int .i64 i, .agg (bcells b).toArray] w fun e w' => e = .returned (.int .i64 (D.callE i true)) ∧ Left w p (D.write i b) F w' := by
  have hlt := h.lt
  obtain ⟨s, g, c, hD, hF⟩ := h
  have hlen := hok.len
  -- the world behind both boxes
  have hD1 : DiskAt ((w.alloc (.cells #[.pointer (some ⟨p, 0, none⟩)] 25)).alloc (.cells (bcells b).toArray 56)) p D s g c :=
    hD.kept (G := fun _ => False) (((Upd.refl _ w).alloc _).alloc _) (fun _ _ h => h)
  have hU1 : Upd F w ((w.alloc (.cells #[.pointer (some ⟨p, 0, none⟩)] 25)).alloc (.cells (bcells b).toArray 56)) := ((Upd.refl _ w).alloc _).alloc _
  have hbd : ((w.alloc (.cells #[.pointer (some ⟨p, 0, none⟩)] 25)).alloc (.cells (bcells b).toArray 56)).heap[w.heap.size]? = some (.cells #[.pointer (some ⟨p, 0, none⟩)] 25 (0, 0)) := (alloc_lt (by simp)).trans (alloc_at rfl)
  have hbb : ((w.alloc (.cells #[.pointer (some ⟨p, 0, none⟩)] 25)).alloc (.cells (bcells b).toArray 56)).heap[w.heap.size + 1]? = some (.cells (bcells b).toArray 56 (0, 0)) := alloc_at (by simp)
  have hz : w.heap.size ≤ ((w.alloc (.cells #[.pointer (some ⟨p, 0, none⟩)] 25)).alloc (.cells (bcells b).toArray 56)).heap.size := by simp; omega
  have hcall : Calls Try.prog 82 #[.pointer (some ⟨p, 0, none⟩), .int .i64 i, .bool true, .func (.func 81) #[] #[.pointer (some ⟨w.heap.size, 0, none⟩), .pointer (some ⟨w.heap.size + 1, 0, none⟩)], .func (.func 81) #[] #[.pointer (some ⟨w.heap.size, 0, none⟩), .pointer (some ⟨w.heap.size + 1, 0, none⟩)]]
      ((w.alloc (.cells #[.pointer (some ⟨p, 0, none⟩)] 25)).alloc (.cells (bcells b).toArray 56)) fun e w' => e = .returned (.int .i64 (D.callE i true)) ∧ Left w p (D.write i b) F w' := by
    generalize (w.alloc (.cells #[.pointer (some ⟨p, 0, none⟩)] 25)).alloc (.cells (bcells b).toArray 56) = w0 at *
    have hm : w0.heap[p]? = some (mainObj s D.arr.length D.sent D.ops D.arm D.fail D.dead) := hD1.main
    cases hd : D.dead
    · rw [hd] at hm
      by_cases ho : i < 0 ∨ (D.arr.length : Int) ≤ i
      · refine (call_out i true _ _ w0 hm ho).mono ?_
        rintro e w' ⟨rfl, rfl⟩
        refine ⟨ret_int (by simp [Dk.callE, hd, ho]), ?_⟩
        have : D.write i b = D := by simp [Dk.write, Dk.callR, Dk.callD, hd, ho]
        rw [this]
        exact (Left.same ⟨s, g, c, hD1, hF⟩).of_upd hU1 hz
      · obtain ⟨k, rfl⟩ : ∃ k : Nat, i = k := ⟨i.toNat, by omega⟩
        have hk : k < D.arr.length := by omega
        have hkt : (k : Int).toNat = k := by omega
        have closure : ∀ (D' : Dk) (W1 : World), D'.arr = D.arr → D'.row = D.row → D'.sent = D.sent → W1.heap[p]? = some (mainObj s D.arr.length D'.sent D'.ops D'.arm D'.fail D'.dead) → Upd (fun k => k = p) w0 W1 →
            Calls Try.prog 81 (#[.pointer (some ⟨s, k, none⟩)] ++ #[.pointer (some ⟨w.heap.size, 0, none⟩), .pointer (some ⟨w.heap.size + 1, 0, none⟩)]) W1 fun e w' => e = .returned (.tuple #[]) ∧ Left w p (D'.send k b) F w' := by
          intro D' W1 ha hr hs hm1 hu1
          have hA : DiskAt W1 p D' s g c := hD1.withMain ha hr (by rw [hm1, ha]; rfl) hu1
          have hz1 := hu1.size
          have ne0 : w.heap.size ≠ p := fun e => by have := hlt p ((hF p).2 (.inl rfl)); omega
          have ne1 : w.heap.size + 1 ≠ p := fun e => by have := hlt p ((hF p).2 (.inl rfl)); omega
          have hbd1 := (hu1.block _ (lt_of_heap hbd) ne0).trans hbd
          have hbb1 := (hu1.block _ (lt_of_heap hbb) ne1).trans hbb
          refine (sends_any (b := b) W1 hA (by rw [ha]; exact hk) (by rw [hr]; exact hok.rowlen) (by rw [hs]; exact hok.sent) hbd1 hbb1 hbl
            (fun e => by have := hlt _ ((hF _).2 (by rw [ha] at e; exact e)); omega) (fun e => by have := hlt _ ((hF _).2 (by rw [ha] at e; exact e)); omega)).mono ?_
          rintro e w' ⟨rfl, g', c', h1, h2, h3⟩
          refine ⟨rfl, _, ⟨s, g', c', h1, fun _ => Iff.rfl⟩, ?_, ?_⟩
          · rintro j (rfl | rfl | ⟨i, hi, rfl⟩)
            · exact .inl ((hF _).2 (.inl rfl))
            · exact .inl ((hF _).2 (.inr (.inl rfl)))
            · rcases h2 i hi with e | e
              · exact .inl ((hF _).2 (.inr (.inr ⟨i, by have : (D'.send k b).arr.length = D.arr.length := by rw [← ha]; rfl
                                                        omega, e⟩)))
              · exact .inr (by omega)
          · refine (hU1.trans (hu1.mono (fun _ _ e => (hF _).2 (.inl e)))).trans (h3.mono (fun j _ e => (hF _).2 ?_))
            rcases e with e | e | e
            · exact .inl e
            · exact .inr (.inl e)
            · exact .inr (.inr ⟨k, hk, e⟩)
        have hk2 : ¬ (D.arr.length ≤ k) := by omega
        have hk3 : ¬ ((k : Int) < 0) := by omega
        by_cases ha0 : D.arm = 0
        · rw [ha0] at hm
          have e1 : D.callE k true = 9 := by simp [Dk.callE, hd, hk2, hk3, ha0]
          have e2 : D.write k b = ({ D with fail := max (D.fail - 1) (-1), dead := true } : Dk).send k b := by
            simp [Dk.write, Dk.callR, Dk.callD, hd, hk2, hk3, ha0]
          rw [e1, e2]
          exact call_dies k _ 81 _ _ w0 hm hk callF_enters81 hok.fail (fun W1 h1 h2 => closure _ W1 rfl rfl rfl (by rw [ha0]; exact h1) h2)
        · by_cases hf0 : D.fail = 0
          · rw [hf0] at hm
            have e1 : D.callE k true = 8 := by simp [Dk.callE, hd, hk2, hk3, ha0, hf0]
            have e2 : D.write k b = ({ D with fail := -1 } : Dk) := by
              simp [Dk.write, Dk.callR, Dk.callD, hd, hk2, hk3, ha0, hf0]
            rw [e1, e2]
            refine (call_fails_t k _ _ w0 hm hk ha0).mono ?_
            rintro e w' ⟨rfl, h1, h2⟩
            exact ⟨rfl, (Left.main hD1 hF (D' := { D with fail := -1 }) rfl rfl (by rw [hd]; exact h1) h2).of_upd hU1 hz⟩
          · have e1 : D.callE k true = 0 := by simp [Dk.callE, hd, hk2, hk3, ha0, hf0]
            have e2 : D.write k b = ({ D with fail := max (D.fail - 1) (-1), ops := D.ops + 1, arm := max (D.arm - 1) (-1) } : Dk).send k b := by
              simp [Dk.write, Dk.callR, Dk.callD, hd, hk2, hk3, ha0, hf0]
            rw [e1, e2]
            exact call_go_t k _ 81 _ _ w0 hm hk callF_enters81 ha0 hok.arm hf0 hok.fail ⟨hok.ops.1, by have := hok.ops.2; omega⟩ (fun W1 h1 h2 => closure { D with fail := max (D.fail - 1) (-1), ops := D.ops + 1, arm := max (D.arm - 1) (-1) } W1 rfl rfl rfl (by rw [hd]; exact h1) h2)
    · rw [hd] at hm
      refine (call_dead i true _ _ w0 hm).mono ?_
      rintro e w' ⟨rfl, rfl⟩
      refine ⟨ret_int (by simp [Dk.callE, hd]), ?_⟩
      have : D.write i b = D := by simp [Dk.write, Dk.callR, Dk.callD, hd]
      rw [this]
      exact (Left.same ⟨s, g, c, hD1, hF⟩).of_upd hU1 hz
  have HC := Lib.hid hcall
  clear hcall hD1 hU1 hbd hbb hz hD hF hlt hlen
  go_enter Try.func34, Try.ntmps34
  go_wp2_with (go_at_call 82; refine HC.out.mono ?_; rintro e w' ⟨rfl, hl⟩)
  go_ret
  exact ⟨rfl, hl⟩

end Go.Proofs.Ytbimkhdiplnbfaa
