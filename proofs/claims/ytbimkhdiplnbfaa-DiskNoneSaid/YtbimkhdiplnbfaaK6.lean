/- Walks of the laws: Call.on of a nil disk. -/
import Derived.Test.YtbimkhdiplnbfaaK2
import Derived.Test.YtbimkhdiplnbfaaK3
import Derived.Test.YtbimkhdiplnbfaaD9
namespace Go.Proofs.Ytbimkhdiplnbfaa
open Go.RowKit

theorem OnLeft.none {w w' : World} {Post : World → World → Prop} (h : OnLeft w (fun _ => False) Post w') : Upd (fun _ => False) w w' := by
  obtain ⟨W1, W2, h1, _, _, h4, h5⟩ := h
  exact (h1.trans h4).step h5 (fun k hk e => by omega)

theorem on_nil (k i n c : Int) (ka : Option Addr) (kn kc : Nat) (Bk : Nat → Bool) (hc : 0 ≤ c ∧ c ≤ 255) (w : World) (hk : KeepIn w ka kn kc Bk) :
    Calls Try.prog 44 #[callV k i n c ka kn kc, .pointer none] w fun e w' => e = .returned (.tuple #[.agg (bcells zblk).toArray, .int .i64 1]) ∧ Upd (fun _ => False) w w' := by
  obtain ⟨h0, h10⟩ := kindOf_range k
  have fin : ∀ {e : Ending} {w' : World}, (e = .returned (.tuple #[.agg (bcells zblk).toArray, .int .i64 1]) ∧ OnLeft w (fun _ => False) (fun _ _ => True) w') → e = .returned (.tuple #[.agg (bcells zblk).toArray, .int .i64 1]) ∧ Upd (fun _ => False) w w' := fun h => ⟨h.1, h.2.none⟩
  by_cases h5 : kindOf k = 5
  · exact (on_read (F := fun _ => False) k i n c ka kn kc w (fun _ e => e.elim) 1 zblk (by simp [zblk]) (fun _ _ => True) h5 (fun W _ => (read_nil i W).mono fun e w' h => ⟨h.1, trivial, h.2⟩)).mono fun e w' h => fin h
  by_cases h6 : kindOf k = 6
  · exact (on_sync (F := fun _ => False) k i n c ka kn kc w (fun _ e => e.elim) 1 (fun _ _ => True) h6 (fun W _ => (sync_nil W).mono fun e w' h => ⟨h.1, trivial, h.2⟩)).mono fun e w' h => fin h
  by_cases h7 : kindOf k = 7
  · exact (on_arm (F := fun _ => False) k i n c ka kn kc w (fun _ e => e.elim) 1 (fun _ _ => True) h7 (fun W _ => (arm_nil n W).mono fun e w' h => ⟨h.1, trivial, h.2 ▸ Upd.refl _ _⟩)).mono fun e w' h => fin h
  by_cases h8 : kindOf k = 8
  · exact (on_fail (F := fun _ => False) k i n c ka kn kc w (fun _ e => e.elim) 1 (fun _ _ => True) h8 (fun W _ => (fail_nil n W).mono fun e w' h => ⟨h.1, trivial, h.2 ▸ Upd.refl _ _⟩)).mono fun e w' h => fin h
  by_cases h9 : kindOf k = 9
  · exact (on_crash (F := fun _ => False) k i n c ka kn kc Bk w hk (fun _ e => e.elim) 1 (fun _ _ => True) h9 (fun W ka' kc' _ _ => (crash_nil ka' _ kc' W).mono fun e w' h => ⟨h.1, trivial, h.2⟩)).mono fun e w' h => fin h
  · exact (on_write (F := fun _ => False) k i n c ka kn kc (κ := kindOf k) (by omega) w (fun _ e => e.elim) 1 (fun _ _ => True) rfl (fun W _ => (write_nil i (fill c) (by simp [fill]) W).mono fun e w' h => ⟨h.1, trivial, h.2⟩)).mono fun e w' h => fin h

end Go.Proofs.Ytbimkhdiplnbfaa
