/- Walks of the disk: row's order. -/
import Derived.Test.YtbimkhdiplnbfaaU5
import Derived.Sort.Statements

namespace Go.Proofs.Ytbimkhdiplnbfaa
open Go.RowKit

abbrev El : Type := { x : Nat × List Int × Int // x.2.1.length = 64 ∧ 0 ≤ x.2.2 ∧ x.2.2 ≤ 2199023255552 }
instance : Inhabited El := ⟨⟨(0, zblk, 0), by simp [zblk], by simp, by simp⟩⟩
def encE (x : El) : List Value := ecells x.1
def cfE (x y : El) : Int := x.1.2.2 - y.1.2.2

theorem encE_length (x : El) : (encE x).length = 66 := ecells_length x.2.1
theorem encE_one (x : El) : ∀ v ∈ encE x, v.oneCell' = true := ecells_one x.1
theorem ecells_nth (x : Nat × List Int × Int) (h : x.2.1.length = 64) : (ecells x)[65]? = some (.int .i64 x.2.2) := by
  simp [ecells, vcells, h]

theorem callF_enters116 : ∀ args w, (callFunc 116 args).run Try.prog w = .ok (.enter 116 args) w := enters_of Try.func116 (by kernel_rfl) rfl

theorem cmp_run (cs ds : List Value) (x y : Int) (W : World) (hc : cs[65]? = some (.int .i64 x)) (hd : ds[65]? = some (.int .i64 y)) (hx : 0 ≤ x ∧ x ≤ 2199023255552) (hy : 0 ≤ y ∧ y ≤ 2199023255552) :
    Calls Try.prog 116 #[.agg cs.toArray, .agg ds.toArray] W fun e w' => e = .returned (.int .i64 (x - y)) ∧ w' = (W.alloc (.cells cs.toArray 163)).alloc (.cells ds.toArray 163) := by
  obtain ⟨hx1, hx2⟩ := hx
  obtain ⟨hy1, hy2⟩ := hy
  have c1 : ((W.alloc (.cells cs.toArray 163)).alloc (.cells ds.toArray 163)).cell? ⟨W.heap.size, 65, none⟩ = some (.int .i64 x) := by
    rw [cell_of_heap ((alloc_lt (by simp)).trans (alloc_at rfl))]; simpa using hc
  have c2 : ((W.alloc (.cells cs.toArray 163)).alloc (.cells ds.toArray 163)).cell? ⟨W.heap.size + 1, 65, none⟩ = some (.int .i64 y) := by
    rw [cell_of_heap (alloc_at (by simp))]; simpa using hd
  clear hc hd
  go_enter Try.func116, Try.ntmps116
  go_wp2
  go_ret
  exact ⟨rfl, rfl⟩

theorem perm_sorted_eq : ∀ (l m : List (Nat × List Int × Int)), l.Perm m → l.Pairwise (fun x y => x.2.2 ≤ y.2.2) → m.Pairwise (fun x y => x.2.2 < y.2.2) → l = m
  | [], m, h, _, _ => h.nil_eq
  | x :: l, [], h, _, _ => by have := h.length_eq; simp at this
  | x :: l, y :: m, h, hl, hm => by
    rw [List.pairwise_cons] at hl hm
    have hx : x ∈ y :: m := h.mem_iff.1 (by simp)
    have hy : y ∈ x :: l := h.mem_iff.2 (by simp)
    have e : x = y := by
      rcases List.mem_cons.1 hx with hx | hx
      · exact hx
      · have h1 := hm.1 x hx
        rcases List.mem_cons.1 hy with hy | hy
        · exact hy.symm
        · have h2 := hl.1 y hy
          omega
    subst e
    rw [perm_sorted_eq l m ((List.perm_cons x).1 h) hl.2 hm.2]

end Go.Proofs.Ytbimkhdiplnbfaa
