/- Walks of the laws: Call.on of a disk, without arms, failures and crashes. -/
import Derived.Test.YtbimkhdiplnbfaaK2
import Derived.Test.YtbimkhdiplnbfaaN1
import Derived.Test.YtbimkhdiplnbfaaE3
import Derived.Test.YtbimkhdiplnbfaaC2
namespace Go.Proofs.Ytbimkhdiplnbfaa
open Go.RowKit

theorem OnLeft.left {w w' : World} {p : Nat} {D : Dk} {F : Nat → Prop} (hF : ∀ j, F j → j < w.heap.size) (h : OnLeft w F (fun W1 W2 => Left W1 p D F W2) w') : Left w p D F w' := by
  obtain ⟨W1, W2, h1, h2, ⟨F', g1, g2, g3⟩, h4, h5⟩ := h
  have hz := h1.size
  refine ⟨F', g1.kept h5 (fun k hk e => ?_), fun k hk => (g2 k hk).imp id (fun e => by omega), ?_⟩
  · rcases g2 k hk with hk | hk
    · have := hF k hk; omega
    · omega
  · exact ((h1.mono (fun _ _ e => e.elim)).trans h4).step h5 (fun k hk e => by omega)

/-- Which sector a call means, and whether it writes. -/
def CallR.tgt (x : CallR) : Int := if kindOf x.k = 6 then 0 else x.i
def CallR.wr (x : CallR) : Bool := decide (kindOf x.k ≠ 5)

theorem Left.upd {w w' : World} {p : Nat} {D : Dk} {F : Nat → Prop} (h : Left w p D F w') : Upd F w w' := h.choose_spec.2.2

theorem on_calm {p : Nat} {D : Dk} {F : Nat → Prop} {K : Nat} (x : CallR) (hc : 0 ≤ x.c ∧ x.c ≤ 255) (h6 : kindOf x.k ≤ 6) (w : World) (h : Dsk w p D F) (hok : D.Ok K) (hK : K ≤ 1000000) :
    Calls Try.prog 44 #[.agg #[.int .i64 x.k, .int .i64 x.i, .int .i64 x.n, .int .u8 x.c, .slice x.ka x.kn x.kc], .pointer (some ⟨p, 0, none⟩)] w fun e w' =>
      ∃ (B : List Int) (D' : Dk), e = .returned (.tuple #[.agg (bcells B).toArray, .int .i64 (D.callE x.tgt x.wr)]) ∧ B.length = 64 ∧ SameNums D' (D.callD x.tgt x.wr) ∧ D'.Ok (K + 2) ∧ Left w p D' F w' := by
  have hF := h.lt
  have hk2 : D.Ok 1099511627773 := hok.mono (by omega)
  by_cases h5 : kindOf x.k = 5
  · have e1 : x.tgt = x.i := by unfold CallR.tgt; rw [if_neg (by omega)]
    have e2 : x.wr = false := by unfold CallR.wr; simp [h5]
    rw [e1, e2]
    refine (on_read (F := F) x.k x.i x.n x.c x.ka x.kn x.kc w hF (D.callE x.i false) (D.reads x.i) (reads_blk hok x.i).1 (fun W1 W2 => Left W1 p (D.callD x.i false) F W2) h5 (fun W hu => (read_any x.i W (h.kept hu (fun _ _ e => e)) (hk2.mono (by omega))).mono ?_)).mono ?_
    · rintro e w' ⟨g1, g2, g3⟩
      exact ⟨g1, ⟨F, g2, fun _ hk => .inl hk, g3⟩, g3⟩
    · rintro e w' ⟨g1, g2⟩
      exact ⟨_, _, g1, (reads_blk hok x.i).1, ⟨rfl, rfl, rfl, rfl, rfl⟩, (hok.callD _ _).mono (by omega), g2.left hF⟩
  have e2 : x.wr = true := by unfold CallR.wr; simp [h5]
  rw [e2]
  by_cases hs : kindOf x.k = 6
  · have e1 : x.tgt = 0 := by unfold CallR.tgt; rw [if_pos hs]
    rw [e1]
    refine (on_sync (F := F) x.k x.i x.n x.c x.ka x.kn x.kc w hF (D.callE 0 true) (fun W1 W2 => Left W1 p D.sync F W2) hs (fun W hu => (sync_any W (h.kept hu (fun _ _ e => e)) hk2).mono ?_)).mono ?_
    · rintro e w' ⟨g1, g2⟩
      exact ⟨g1, g2, g2.upd⟩
    · rintro e w' ⟨g1, g2⟩
      exact ⟨_, _, g1, by simp [zblk], sync_nums D, hok.sync.mono (by omega), g2.left hF⟩
  · have e1 : x.tgt = x.i := by unfold CallR.tgt; rw [if_neg hs]
    rw [e1]
    refine (on_write (F := F) x.k x.i x.n x.c x.ka x.kn x.kc (κ := kindOf x.k) (by omega) w hF (D.callE x.i true) (fun W1 W2 => Left W1 p (D.write x.i (fill x.c)) F W2) rfl (fun W hu => (write_any x.i (fill x.c) W (h.kept hu (fun _ _ e => e)) (hk2.mono (by omega)) (by simp [fill])).mono ?_)).mono ?_
    · rintro e w' ⟨g1, g2⟩
      exact ⟨g1, g2, g2.upd⟩
    · rintro e w' ⟨g1, g2⟩
      exact ⟨_, _, g1, by simp [zblk], write_nums D x.i _, hok.write _ (fill_ok hc), g2.left hF⟩

end Go.Proofs.Ytbimkhdiplnbfaa
