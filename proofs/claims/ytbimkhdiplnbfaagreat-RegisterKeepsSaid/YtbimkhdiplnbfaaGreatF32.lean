/- Walks of the disk: row, Pending over the disk as a value. -/
import Derived.Test.YtbimkhdiplnbfaaGreatF15
import Derived.Test.YtbimkhdiplnbfaaGreatF31
set_option linter.unusedVariables false
set_option linter.unusedSimpArgs false

namespace Go.Proofs.YtbimkhdiplnbfaaGreat
set_option maxRecDepth 100000
open Go.RowKit

theorem row_els {D : Dk} {K : Nat} (hok : D.Ok K) (hK : K ≤ 1099511627774) : ∃ R : List El, R.map (·.1) = D.row :=
 els_of D.row (fun x hx => by
  obtain ⟨h1, _, h3, h4⟩ := hok.rblks x hx
  have := hok.sent.2
  exact ⟨h1.1, by omega, by omega⟩)

theorem row_any {p : Nat} {D : Dk} {F : Nat → Prop} {R : List El} (w : World) (h : Dsk w p D F) (hok : D.Ok 1099511627774) (hR : R.map (·.1) = D.row) :
  Calls Tryz.prog 76 #[.pointer (some ⟨p, 0, none⟩)] w fun e w' => e = .returned (.func (.func 141) #[] #[.pointer (some ⟨w.heap.size, 0, none⟩)]) ∧ ∃ v, RowT w w' w.heap.size R v := by
 refine row_run w h hok (fun v wr hr => (sort_row hr hok (Nat.le_refl _)).mono ?_)
 rintro e w' ⟨rfl, hs⟩
 refine ⟨rfl, rfl, v, hs.upd, hs.cell, ?_⟩
 have hl : R.length = D.row.length := by rw [← hR]; simp
 rcases hs.row with ⟨h1, h2⟩ | ⟨gg, cap, h1, h2, h3, _, h4⟩
 ·refine .inl ⟨h1, ?_⟩
  rw [h2] at hl
  exact List.length_eq_zero_iff.1 hl
 ·refine .inr ⟨gg, cap, by rw [hl]; exact h1, h2, h3, fun i x hx => h4 i x.1 ?_⟩
  rw [← hR]
  simp [hx]

end Go.Proofs.YtbimkhdiplnbfaaGreat
