/- The disk: the map that Crash fills, in plain terms. -/
import Derived.Test.YtbimkhdiplnbfaaD4
import Derived.Test.YtbimkhdiplnbfaaC5
import Derived.Maps.Views
namespace Go.Proofs.Ytbimkhdiplnbfaa
open Go.RowKit

def kmap (keep : List Bool) : Nat → DataW Empty → List El → DataW Empty
  | _, D, [] => D
  | i, D, x :: R => kmap keep (i + 1) (D.put (.int .i64 x.1.2.2) (.lit (.bool (keep.getD i false)))) R

theorem kmap_snoc (keep : List Bool) (x : El) : ∀ (R : List El) (i : Nat) (D : DataW Empty), kmap keep i D (R ++ [x]) = (kmap keep i D R).put (.int .i64 x.1.2.2) (.lit (.bool (keep.getD (i + R.length) false)))
  | [], i, D => by simp [kmap]
  | y :: R, i, D => by
    simp only [List.cons_append, kmap]
    rw [kmap_snoc keep x R (i + 1)]
    simp [Nat.add_assoc, Nat.add_comm 1]

theorem keptOf_other {D : DataW Empty} {n k : Int} {b : Bool} (h : n ≠ k) : keptOf (D.put (.int .i64 k) (.lit (.bool b))) n = keptOf D n := by
  unfold keptOf
  rw [Maps.atKey_put_other (by simpa using h)]

theorem keptOf_same {D : DataW Empty} {k : Int} {b : Bool} (hD : Maps.IsMap D) : keptOf (D.put (.int .i64 k) (.lit (.bool b))) k = b := by
  unfold keptOf
  rw [Maps.atKey_put_same hD (by trivial)]

theorem kmap_none (keep : List Bool) (n : Int) : ∀ (R : List El) (i : Nat) (D : DataW Empty), (∀ x ∈ R, n ≠ x.1.2.2) → keptOf (kmap keep i D R) n = keptOf D n
  | [], _, _, _ => rfl
  | x :: R, i, D, h => by
    rw [kmap, kmap_none keep n R (i + 1) _ (fun y hy => h y (List.mem_cons_of_mem _ hy)), keptOf_other (h x List.mem_cons_self)]

theorem kmap_any (keep : List Bool) (n : Int) : ∀ (R : List El) (i : Nat) (D : DataW Empty), Maps.IsMap D → R.Pairwise (fun x y => x.1.2.2 < y.1.2.2) → keptOf D n = false →
    keptOf (kmap keep i D R) n = ((R.map (·.1)).zipIdx i).any (fun x => x.1.2.2 == n && keep.getD x.2 false)
  | [], _, _, _, _, h => by simpa [kmap] using h
  | x :: R, i, D, hD, hp, h => by
    rw [List.pairwise_cons] at hp
    by_cases e : n = x.1.2.2
    · subst e
      rw [kmap, kmap_none keep _ R (i + 1) _ (fun y hy => by have := hp.1 y hy; omega), keptOf_same hD]
      simp only [List.map_cons, List.zipIdx_cons, List.any_cons, beq_self_eq_true, Bool.true_and]
      cases hk : keep.getD i false
      · simp only [Bool.false_or]
        symm
        rw [List.any_eq_false]
        rintro ⟨y, j⟩ hy
        have hm : y ∈ R.map (·.1) := List.fst_mem_of_mem_zipIdx hy
        obtain ⟨z, hz, rfl⟩ := List.mem_map.1 hm
        have := hp.1 z hz
        simp; intro e2; omega
      · simp
    · rw [kmap, kmap_any keep n R (i + 1) _ (hD.put _ _) hp.2 (by rw [keptOf_other e]; exact h)]
      have e2 : (x.1.2.2 == n) = false := by simpa using fun e3 => e e3.symm
      simp [List.zipIdx_cons, e2]

end Go.Proofs.Ytbimkhdiplnbfaa
