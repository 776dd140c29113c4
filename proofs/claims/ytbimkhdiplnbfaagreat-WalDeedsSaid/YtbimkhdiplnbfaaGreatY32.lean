/- Walks of the disk: row, Pending over the disk as a value. -/
import Derived.Test.YtbimkhdiplnbfaaGreatY15
import Derived.Test.YtbimkhdiplnbfaaGreatY31
set_option linter.unusedVariables false
set_option linter.unusedSimpArgs false
namespace Go.Proofs.YtbimkhdiplnbfaaGreat
set_option maxRecDepth 1000000
set_option maxHeartbeats 16000000
section
open Go.RowKit
theorem row_els {D : Dk} {K : Nat} (hok : D.Ok K) (hK : K ≤ 1099511627774) : ∃ R : List El, R.map (·.1) = D.row :=
 els_of D.row (fun x hx => by
  obtain ⟨h1, _, h3, h4⟩ := hok.rblks x hx
  have := hok.sent.2
  exact ⟨h1.1, by omega, by omega⟩)
theorem row_any {p : Nat} {D : Dk} {F : Nat → Prop} {R : List El} (w : World) (h : Dsk w p D F) (hok : D.Ok 1099511627774) (hR : R.map (·.1) = D.row) :
  Calls Tryz.prog 76 #[.pointer (some ⟨p, 0, none⟩)] w fun e w' => e = .returned (.func (.func 141) #[] #[.pointer (some ⟨w.heap.size, 0, none⟩)]) ∧ ∃ v, RowT w w' w.heap.size R v := by
 refine row_run w h hok (fun v wr hr => (sort_row hr hok (Nat.le_refl _)).mono ?_)
 rintro e w' ⟨rfl, hs⟩
 refine ⟨rfl, rfl, v, hs.upd, hs.cell, ?_⟩
 have hl : R.length = D.row.length := by rw [← hR]; simp
 rcases hs.row with ⟨h1, h2⟩ | ⟨gg, cap, h1, h2, h3, _, h4⟩
 ·refine .inl ⟨h1, ?_⟩
  rw [h2] at hl
  exact List.length_eq_zero_iff.1 hl
 ·refine .inr ⟨gg, cap, by rw [hl]; exact h1, h2, h3, fun i x hx => h4 i x.1 ?_⟩
  rw [← hR]
  simp [hx]
theorem pending_any {p : Nat} {D : Dk} {F : Nat → Prop} (w : World) (h : Dsk w p D F) (hok : D.Ok 1099511627774) :
  Calls Tryz.prog 68 #[.pointer (some ⟨p, 0, none⟩)] w fun e w' => ∃ u, e = .returned u ∧ w'.ownsRow w.heap.size 3 1 u D.row.length ((D.row.map (·.1)).map fun i : Nat => Value.int .i64 i) ∧ Upd (fun _ => False) w w' := by
 obtain ⟨R, hR⟩ := row_els hok (Nat.le_refl _)
 have hl : R.length = D.row.length := by rw [← hR]; simp
 have hrl := hok.rowlen
 have h2 : Dsk (w.alloc (.cells #[.slice none 0 0] 33)) p D F := h.kept (G := fun _ => False) ((Upd.refl _ w).alloc _) (fun _ _ e => e)
 have hrow := row_any (R := R) _ h2 hok hR
 rw [World.size_alloc] at hrow
 refine (pending_run w R (by omega) hrow).mono ?_
 rintro e w' ⟨u, rfl, h3, h4⟩
 refine ⟨u, rfl, ?_, h4⟩
 rw [← hR, List.map_map, List.map_map, List.length_map]
 exact h3
end
end Go.Proofs.YtbimkhdiplnbfaaGreat
