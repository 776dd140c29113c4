/- Walks of the disk: row's order. -/
import Derived.Test.YtbimkhdiplnbfaaGreatY5
import Derived.Sort.Statements
import Derived.Maps.Views
set_option linter.unusedVariables false
set_option linter.unusedSimpArgs false
namespace Go.Proofs.YtbimkhdiplnbfaaGreat
set_option maxRecDepth 1000000
set_option maxHeartbeats 16000000
section
open Go.RowKit
abbrev El : Type := { x : Nat × List Int × Int // x.2.1.length = 64 ∧ 0 ≤ x.2.2 ∧ x.2.2 ≤ 2199023255552 }
instance : Inhabited El := ⟨⟨(0, zblk, 0), by simp [zblk], by simp, by simp⟩⟩
def encE (x : El) : List Value := ecells x.1
def cfE (x y : El) : Int := x.1.2.2 - y.1.2.2
theorem encE_length (x : El) : (encE x).length = 66 := ecells_length x.2.1
theorem encE_one (x : El) : ∀ v ∈ encE x, v.oneCell' = true := ecells_one x.1
theorem ecells_nth (x : Nat × List Int × Int) (h : x.2.1.length = 64) : (ecells x)[65]? = some (.int .i64 x.2.2) := by
 simp [ecells, vcells, h]
theorem callF_enters116 : ∀ args w, (callFunc 140 args).run Tryz.prog w = .ok (.enter 140 args) w := enters_of Tryz.func140 (by kernel_rfl) rfl
theorem cmp_run (cs ds : List Value) (x y : Int) (W : World) (hc : cs[65]? = some (.int .i64 x)) (hd : ds[65]? = some (.int .i64 y)) (hx : 0 ≤ x ∧ x ≤ 2199023255552) (hy : 0 ≤ y ∧ y ≤ 2199023255552) :
  Calls Tryz.prog 140 #[.agg cs.toArray, .agg ds.toArray] W fun e w' => e = .returned (.int .i64 (x - y)) ∧ w' = (W.alloc (.cells cs.toArray 221)).alloc (.cells ds.toArray 221) := by
 obtain ⟨hx1, hx2⟩ := hx
 obtain ⟨hy1, hy2⟩ := hy
 have c1 : ((W.alloc (.cells cs.toArray 221)).alloc (.cells ds.toArray 221)).cell? ⟨W.heap.size, 65, none⟩ = some (.int .i64 x) := by
  rw [cell_of_heap ((alloc_lt (by simp)).trans (alloc_at rfl))]; simpa using hc
 have c2 : ((W.alloc (.cells cs.toArray 221)).alloc (.cells ds.toArray 221)).cell? ⟨W.heap.size + 1, 65, none⟩ = some (.int .i64 y) := by
  rw [cell_of_heap (alloc_at (by simp))]; simpa using hd
 clear hc hd
 go_enter Tryz.func140, Tryz.ntmps140
 go_wp2
 go_ret
 exact ⟨rfl, rfl⟩
theorem perm_sorted_eq : ∀ (l m : List (Nat × List Int × Int)), l.Perm m → l.Pairwise (fun x y => x.2.2 ≤ y.2.2) → m.Pairwise (fun x y => x.2.2 < y.2.2) → l = m
 | [], m, h, _, _ => h.nil_eq
 |x :: l, [], h, _, _ => by have := h.length_eq; simp at this
 |x :: l, y :: m, h, hl, hm => by
  rw [List.pairwise_cons] at hl hm
  have hx : x ∈ y :: m := h.mem_iff.1 (by simp)
  have hy : y ∈ x :: l := h.mem_iff.2 (by simp)
  have e : x = y := by
   rcases List.mem_cons.1 hx with hx | hx
   ·exact hx
   ·have h1 := hm.1 x hx
    rcases List.mem_cons.1 hy with hy | hy
    ·exact hy.symm
    ·have h2 := hl.1 y hy
     omega
  subst e
  rw [perm_sorted_eq l m ((List.perm_cons x).1 h) hl.2 hm.2]
def kmap (keep : List Bool) : Nat → DataW Empty → List El → DataW Empty
 | _, D, [] => D
 |i, D, x :: R => kmap keep (i + 1) (D.put (.int .i64 x.1.2.2) (.lit (.bool (keep.getD i false)))) R
theorem kmap_snoc (keep : List Bool) (x : El) : ∀ (R : List El) (i : Nat) (D : DataW Empty), kmap keep i D (R ++ [x]) = (kmap keep i D R).put (.int .i64 x.1.2.2) (.lit (.bool (keep.getD (i + R.length) false)))
 | [], i, D => by simp [kmap]
 |y :: R, i, D => by
  simp only [List.cons_append, kmap]
  rw [kmap_snoc keep x R (i + 1)]
  simp [Nat.add_assoc, Nat.add_comm 1]
theorem keptOf_other {D : DataW Empty} {n k : Int} {b : Bool} (h : n ≠ k) : keptOf (D.put (.int .i64 k) (.lit (.bool b))) n = keptOf D n := by
 unfold keptOf
 rw [Maps.atKey_put_other (by simpa using h)]
theorem keptOf_same {D : DataW Empty} {k : Int} {b : Bool} (hD : Maps.IsMap D) : keptOf (D.put (.int .i64 k) (.lit (.bool b))) k = b := by
 unfold keptOf
 rw [Maps.atKey_put_same hD (by trivial)]
theorem kmap_none (keep : List Bool) (n : Int) : ∀ (R : List El) (i : Nat) (D : DataW Empty), (∀ x ∈ R, n ≠ x.1.2.2) → keptOf (kmap keep i D R) n = keptOf D n
 | [], _, _, _ => rfl
 |x :: R, i, D, h => by
  rw [kmap, kmap_none keep n R (i + 1) _ (fun y hy => h y (List.mem_cons_of_mem _ hy)), keptOf_other (h x List.mem_cons_self)]
theorem kmap_any (keep : List Bool) (n : Int) : ∀ (R : List El) (i : Nat) (D : DataW Empty), Maps.IsMap D → R.Pairwise (fun x y => x.1.2.2 < y.1.2.2) → keptOf D n = false →
  keptOf (kmap keep i D R) n = ((R.map (·.1)).zipIdx i).any (fun x => x.1.2.2 == n && keep.getD x.2 false)
 | [], _, _, _, _, h => by simpa [kmap] using h
 |x :: R, i, D, hD, hp, h => by
  rw [List.pairwise_cons] at hp
  by_cases e : n = x.1.2.2
  ·subst e
   rw [kmap, kmap_none keep _ R (i + 1) _ (fun y hy => by have := hp.1 y hy; omega), keptOf_same hD]
   simp only [List.map_cons, List.zipIdx_cons, List.any_cons, beq_self_eq_true, Bool.true_and]
   cases hk : keep.getD i false
   ·simp only [Bool.false_or]
    symm
    rw [List.any_eq_false]
    rintro ⟨y, j⟩ hy
    have hm : y ∈ R.map (·.1) := List.fst_mem_of_mem_zipIdx hy
    obtain ⟨z, hz, rfl⟩ := List.mem_map.1 hm
    have := hp.1 z hz
    simp; intro e2; omega
   ·simp
  ·rw [kmap, kmap_any keep n R (i + 1) _ (hD.put _ _) hp.2 (by rw [keptOf_other e]; exact h)]
   have e2 : (x.1.2.2 == n) = false := by simpa using fun e3 => e e3.symm
   simp [List.zipIdx_cons, e2]
end
end Go.Proofs.YtbimkhdiplnbfaaGreat
