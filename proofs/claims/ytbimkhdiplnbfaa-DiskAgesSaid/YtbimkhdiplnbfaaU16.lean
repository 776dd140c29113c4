/- Walks of the laws: slices.Equal over rows of numbers. -/
import Derived.Test.YtbimkhdiplnbfaaU2
import Derived.Test.YtbimkhdiplnbfaaU11
import Derived.Laws.OwnMore

namespace Go.Proofs.Ytbimkhdiplnbfaa
open Go.RowKit

theorem upd_drewN (w : World) (q : Nat) : Upd (fun _ => False) w (w.drewN q) := by
  induction q with
  | zero => exact Upd.refl _ _
  | succ q ih => exact ih.drew

theorem equal_own {w : World} {B B' : Nat} {u v : Value} {xs ys : List Int} (hu : w.ownsRow B 3 1 u xs.length (xs.map (Value.int .i64))) (hv : w.ownsRow B' 3 1 v ys.length (ys.map (Value.int .i64))) :
    Calls Try.prog 80 #[u, v] w fun e w' => e = .returned (.bool (xs == ys)) ∧ Upd (fun _ => False) w w' := by
  have form : ∀ {B : Nat} {u : Value} {xs : List Int}, w.ownsRow B 3 1 u xs.length (xs.map (Value.int .i64)) → (∃ a c, u = .slice a xs.length c) ∧ xs.length ≤ 9223372036854775807 ∧ (xs ≠ [] → ∃ g c, u = .slice (some ⟨g, 0, none⟩) xs.length c ∧ ∀ j, j < xs.length → w.cell? ⟨g, 0 + j, none⟩ = some (.int .i64 (xs.getD j 0))) := by
    intro B u xs h
    rcases h.2 with ⟨h1, h2⟩ | ⟨g, cap, cur, h1, h2, h3, h4, h5, h6⟩
    · refine ⟨⟨none, 0, by rw [h1, h2]⟩, by omega, fun hne => ?_⟩
      exact absurd (List.length_eq_zero_iff.1 h2) hne
    · refine ⟨⟨_, _, h1⟩, by unfold maxLen at h5; omega, fun _ => ⟨g, cap, h1, fun j hj => ?_⟩⟩
      subst h1
      rw [Nat.zero_add, h.cellAt j (by omega)]
      simp [List.getD_eq_getElem?_getD, hj]
  obtain ⟨⟨a1, c1, e1⟩, hb1, hc1⟩ := form hu
  obtain ⟨⟨a2, c2, e2⟩, hb2, hc2⟩ := form hv
  by_cases hx : xs = []
  · subst hx
    subst e1 e2
    refine (Try.slices_Equal_int_empty a1 a2 c1 ys.length c2 w hb2).mono ?_
    rintro e w' ⟨rfl, rfl⟩
    refine ⟨?_, Upd.refl _ _⟩
    cases ys <;> simp
  · by_cases hy : ys = []
    · subst hy
      subst e1 e2
      refine (Try.slices_Equal_int_lens a1 a2 xs.length c1 0 c2 w (by rw [ne_eq, List.length_eq_zero_iff]; exact hx)).mono ?_
      rintro e w' ⟨rfl, rfl⟩
      refine ⟨?_, Upd.refl _ _⟩
      cases xs with
      | nil => exact absurd rfl hx
      | cons x xs => simp
    · obtain ⟨g1, d1, f1, k1⟩ := hc1 hx
      obtain ⟨g2, d2, f2, k2⟩ := hc2 hy
      rw [f1, f2]
      refine (Try.slices_Equal_int g1 0 xs.length d1 g2 0 ys.length d2 xs ys w (Nat.le_refl _) (Nat.le_refl _) hb1 hb2 k1 k2).mono ?_
      rintro e w' ⟨rfl, q, rfl⟩
      exact ⟨by simp, upd_drewN w q⟩

end Go.Proofs.Ytbimkhdiplnbfaa
