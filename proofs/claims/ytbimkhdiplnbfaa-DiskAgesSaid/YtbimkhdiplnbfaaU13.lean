/- Walks of the disk: row, Pending over the disk as a value. -/
import Derived.Test.YtbimkhdiplnbfaaU3
import Derived.Test.YtbimkhdiplnbfaaU5
import Derived.Test.YtbimkhdiplnbfaaU9
import Derived.Test.YtbimkhdiplnbfaaU12
import Derived.Test.YtbimkhdiplnbfaaU16

section
namespace Go.Proofs.Ytbimkhdiplnbfaa
open Go.RowKit

theorem row_els {D : Dk} {K : Nat} (hok : D.Ok K) (hK : K ≤ 1099511627774) : ∃ R : List El, R.map (·.1) = D.row :=
  els_of D.row (fun x hx => by
    obtain ⟨h1, _, h3, h4⟩ := hok.rblks x hx
    have := hok.sent.2
    exact ⟨h1.1, by omega, by omega⟩)

theorem row_any {p : Nat} {D : Dk} {F : Nat → Prop} {R : List El} (w : World) (h : Dsk w p D F) (hok : D.Ok 1099511627774) (hR : R.map (·.1) = D.row) :
    Calls Try.prog 88 #[.pointer (some ⟨p, 0, none⟩)] w fun e w' => e = .returned (.func (.func 117) #[] #[.pointer (some ⟨w.heap.size, 0, none⟩)]) ∧ ∃ v, RowT w w' w.heap.size R v := by
  refine row_run w h hok (fun v wr hr => (sort_row hr hok (Nat.le_refl _)).mono ?_)
  rintro e w' ⟨rfl, hs⟩
  refine ⟨rfl, rfl, v, hs.upd, hs.cell, ?_⟩
  have hl : R.length = D.row.length := by rw [← hR]; simp
  rcases hs.row with ⟨h1, h2⟩ | ⟨gg, cap, h1, h2, h3, _, h4⟩
  · refine .inl ⟨h1, ?_⟩
    rw [h2] at hl
    exact List.length_eq_zero_iff.1 hl
  · refine .inr ⟨gg, cap, by rw [hl]; exact h1, h2, h3, fun i x hx => h4 i x.1 ?_⟩
    rw [← hR]
    simp [hx]

theorem pending_any {p : Nat} {D : Dk} {F : Nat → Prop} (w : World) (h : Dsk w p D F) (hok : D.Ok 1099511627774) :
    Calls Try.prog 52 #[.pointer (some ⟨p, 0, none⟩)] w fun e w' => ∃ u, e = .returned u ∧ w'.ownsRow w.heap.size 3 1 u D.row.length ((D.row.map (·.1)).map fun i : Nat => Value.int .i64 i) ∧ Upd (fun _ => False) w w' := by
  obtain ⟨R, hR⟩ := row_els hok (Nat.le_refl _)
  have hl : R.length = D.row.length := by rw [← hR]; simp
  have hrl := hok.rowlen
  have h2 : Dsk (w.alloc (.cells #[.slice none 0 0] 82)) p D F := h.kept (G := fun _ => False) ((Upd.refl _ w).alloc _) (fun _ _ e => e)
  have hrow := row_any (R := R) _ h2 hok hR
  rw [World.size_alloc] at hrow
  refine (pending_run w R (by omega) hrow).mono ?_
  rintro e w' ⟨u, rfl, h3, h4⟩
  refine ⟨u, rfl, ?_, h4⟩
  rw [← hR, List.map_map, List.map_map, List.length_map]
  exact h3

end Go.Proofs.Ytbimkhdiplnbfaa
end

section
namespace Go.Proofs.Ytbimkhdiplnbfaa
open Go.RowKit

theorem secs_eq (D : Dk) : ((D.row.map (·.1)).map fun i : Nat => Value.int .i64 (i : Int)) = ((D.row.map (·.1)).map fun i : Nat => (i : Int)).map (Value.int .i64) := by
  simp only [List.map_map]
  rfl

theorem Try.size69 : (Try.prog.info? 69).map (·.size) = some 6 := by kernel_rfl

set_option maxRecDepth 100000 in
set_option maxHeartbeats 2000000 in
theorem tells_run {p : Nat} {D : Dk} {F : Nat → Prop} (Aa Ra : Option Addr) (Ac Rn Rc : Nat) (ar fl : Int) (w : World) (hd : Dsk w p D F) (hok : D.Ok 1099511627774)
    (hrp : ∀ W, Upd (fun _ => False) w W → Calls Try.prog 96 #[.agg #[.slice Aa D.arr.length Ac, .slice Ra Rn Rc, .int .i64 D.ops, .int .i64 ar, .int .i64 fl, .bool D.dead]] W fun e w' => ∃ u, e = .returned u ∧ w'.ownsRow 0 3 1 u D.row.length ((D.row.map (·.1)).map fun i : Nat => Value.int .i64 i) ∧ Upd (fun _ => False) W w') :
    Calls Try.prog 46 #[.pointer (some ⟨p, 0, none⟩), .agg #[.slice Aa D.arr.length Ac, .slice Ra Rn Rc, .int .i64 D.ops, .int .i64 ar, .int .i64 fl, .bool D.dead]] w fun e w' => e = .returned (.bool true) ∧ Upd (fun _ => False) w w' := by
  have HD := Lib.hid hd; have HO := Lib.hid hok; have HRP := Lib.hid hrp
  have hlen := hok.len
  have hlb : (D.arr.length : Int) ≤ 9223372036854775807 := by omega
  clear hd hok hrp
  go_enter Try.func46, Try.ntmps46
  go_upto_region 1 with fail
  obtain ⟨w1, hw1⟩ : ∃ w1, w1 = w.alloc (.cells #[.slice Aa D.arr.length Ac, .slice Ra Rn Rc, .int .i64 D.ops, .int .i64 ar, .int .i64 fl, .bool D.dead] 69) := ⟨_, rfl⟩
  rw [← hw1]
  have hA : w1.drew.heap[w.heap.size]? = some (.cells #[.slice Aa D.arr.length Ac, .slice Ra Rn Rc, .int .i64 D.ops, .int .i64 ar, .int .i64 fl, .bool D.dead] 69 (0, 0)) := by rw [hw1]; exact alloc_at rfl
  have HU : RowKit.Hid (Upd (fun _ => False) w w1.drew) := Lib.hid (by rw [hw1]; exact ((Upd.refl _ w).alloc _).drew)
  have HD1 := Lib.hid (HD.out.kept HU.out (fun _ _ e => e))
  have hlw : w.heap.size < w1.drew.heap.size := lt_of_heap hA
  clear hw1 HD
  refine wp_region_G 27 (fun W => W.heap[w.heap.size]? = some (.cells #[.slice Aa D.arr.length Ac, .slice Ra Rn Rc, .int .i64 D.ops, .int .i64 ar, .int .i64 fl, .bool D.dead] 69 (0, 0))) [false, false, false, false, false, false, false, false, false, false, false, false, false, false, false, false, false, false, false, false, false, false, false, false, false, false, false, false] rfl (by kernel_rfl) ?_
  refine wpG_take (i := 0) (v := .pointer (some ⟨p, 0, none⟩)) rfl (by kernel_rfl) (fun _ _ _ h => h) hA (.inl ⟨rfl, fun w5 q1 => ?_⟩) ?_
  · go_simp
  simp only [Act.put, List.setIfInBounds_toArray, List.set]
  refine wpG_take (i := 2) (v := .pointer (some ⟨w.heap.size, 0, none⟩)) rfl (by kernel_rfl) (fun _ _ _ h => h) hA (.inl ⟨rfl, fun w5 q1 => ?_⟩) ?_
  · go_simp
  simp only [Act.put, List.setIfInBounds_toArray, List.set]
  refine wpG_take (i := 3) (v := .slice Aa D.arr.length Ac) rfl (by kernel_rfl) (fun _ _ _ h => h) hA (.inl ⟨rfl, fun w5 q1 => ?_⟩) ?_
  · have q2 : w5.cell? ⟨w.heap.size, 0, none⟩ = some (.slice Aa D.arr.length Ac) := by rw [cell_of_heap q1]; rfl
    go_simp
  simp only [Act.put, List.setIfInBounds_toArray, List.set]
  refine wpG_take (i := 4) (v := .int .i64 (D.arr.length : Int)) rfl (by kernel_rfl) (fun _ _ _ h => h) hA (.inl ⟨rfl, fun w5 q1 => ?_⟩) ?_
  · go_simp
  simp only [Act.put, List.setIfInBounds_toArray, List.set]
  refine wpG_do (i := 1) rfl (by kernel_rfl) rfl (fun K hK => ?_)
  have HK := Lib.hid hK
  clear hK
  go_step
  refine (len_any w1.drew HD1.out).mono ?_
  rintro e w2 ⟨rfl, rfl⟩
  simp only []
  refine HK.out _ _ hA ?_
  clear HK
  simp only [List.setIfInBounds_toArray, List.set]
  refine wpG_take (i := 5) (v := .bool true) rfl (by kernel_rfl) (fun _ _ _ h => h) hA (.inl ⟨rfl, fun w5 q1 => ?_⟩) ?_
  · go_simp
  simp only [Act.put, List.setIfInBounds_toArray, List.set]
  refine wpG_take (i := 6) (v := .bool true) rfl (by kernel_rfl) (fun _ _ _ h => h) hA (.inl ⟨rfl, fun w5 q1 => ?_⟩) ?_
  · go_simp
  simp only [Act.put, List.setIfInBounds_toArray, List.set]
  refine wpG_take (i := 7) (v := .pointer (some ⟨p, 0, none⟩)) rfl (by kernel_rfl) (fun _ _ _ h => h) hA (.inl ⟨rfl, fun w5 q1 => ?_⟩) ?_
  · go_simp
  simp only [Act.put, List.setIfInBounds_toArray, List.set]
  refine wpG_take (i := 9) (v := .pointer (some ⟨w.heap.size, 2, none⟩)) rfl (by kernel_rfl) (fun _ _ _ h => h) hA (.inl ⟨rfl, fun w5 q1 => ?_⟩) ?_
  · go_simp
  simp only [Act.put, List.setIfInBounds_toArray, List.set]
  refine wpG_take (i := 10) (v := .int .i64 D.ops) rfl (by kernel_rfl) (fun _ _ _ h => h) hA (.inl ⟨rfl, fun w5 q1 => ?_⟩) ?_
  · have q2 : w5.cell? ⟨w.heap.size, 2, none⟩ = some (.int .i64 D.ops) := by rw [cell_of_heap q1]; rfl
    go_simp
  simp only [Act.put, List.setIfInBounds_toArray, List.set]
  refine wpG_doIf (i := 8) rfl (by kernel_rfl) rfl (fun K hK => ?_)
  have HK := Lib.hid hK
  clear hK
  go_step
  refine (ops_any w1.drew HD1.out).mono ?_
  rintro e w2 ⟨rfl, rfl⟩
  simp only []
  refine HK.out _ _ hA ?_
  clear HK
  simp only [List.setIfInBounds_toArray, List.set]
  refine wpG_take (i := 11) (v := .bool true) rfl (by kernel_rfl) (fun _ _ _ h => h) hA (.inl ⟨rfl, fun w5 q1 => ?_⟩) ?_
  · go_simp
  simp only [Act.put, List.setIfInBounds_toArray, List.set]
  refine wpG_take (i := 12) (v := .bool true) rfl (by kernel_rfl) (fun _ _ _ h => h) hA (.inl ⟨rfl, fun w5 q1 => ?_⟩) ?_
  · go_simp
  simp only [Act.put, List.setIfInBounds_toArray, List.set]
  refine wpG_take (i := 13) (v := .bool true) rfl (by kernel_rfl) (fun _ _ _ h => h) hA (.inl ⟨rfl, fun w5 q1 => ?_⟩) ?_
  · go_simp
  simp only [Act.put, List.setIfInBounds_toArray, List.set]
  refine wpG_take (i := 14) (v := .pointer (some ⟨p, 0, none⟩)) rfl (by kernel_rfl) (fun _ _ _ h => h) hA (.inl ⟨rfl, fun w5 q1 => ?_⟩) ?_
  · go_simp
  simp only [Act.put, List.setIfInBounds_toArray, List.set]
  refine wpG_take (i := 16) (v := .pointer (some ⟨w.heap.size, 5, none⟩)) rfl (by kernel_rfl) (fun _ _ _ h => h) hA (.inl ⟨rfl, fun w5 q1 => ?_⟩) ?_
  · go_simp
  simp only [Act.put, List.setIfInBounds_toArray, List.set]
  refine wpG_take (i := 17) (v := .bool D.dead) rfl (by kernel_rfl) (fun _ _ _ h => h) hA (.inl ⟨rfl, fun w5 q1 => ?_⟩) ?_
  · have q2 : w5.cell? ⟨w.heap.size, 5, none⟩ = some (.bool D.dead) := by rw [cell_of_heap q1]; rfl
    go_simp
  simp only [Act.put, List.setIfInBounds_toArray, List.set]
  refine wpG_doIf (i := 15) rfl (by kernel_rfl) rfl (fun K hK => ?_)
  have HK := Lib.hid hK
  clear hK
  go_step
  refine (dead_any w1.drew HD1.out).mono ?_
  rintro e w2 ⟨rfl, rfl⟩
  simp only []
  refine HK.out _ _ hA ?_
  clear HK
  simp only [List.setIfInBounds_toArray, List.set]
  refine wpG_take (i := 18) (v := .bool true) rfl (by kernel_rfl) (fun _ _ _ h => h) hA (.inl ⟨rfl, fun w5 q1 => ?_⟩) ?_
  · go_simp
  simp only [Act.put, List.setIfInBounds_toArray, List.set]
  refine wpG_take (i := 19) (v := .bool true) rfl (by kernel_rfl) (fun _ _ _ h => h) hA (.inl ⟨rfl, fun w5 q1 => ?_⟩) ?_
  · go_simp
  simp only [Act.put, List.setIfInBounds_toArray, List.set]
  refine wpG_take (i := 20) (v := .bool true) rfl (by kernel_rfl) (fun _ _ _ h => h) hA (.inl ⟨rfl, fun w5 q1 => ?_⟩) ?_
  · go_simp
  simp only [Act.put, List.setIfInBounds_toArray, List.set]
  refine wpG_take (i := 21) (v := .pointer (some ⟨p, 0, none⟩)) rfl (by kernel_rfl) (fun _ _ _ h => h) hA (.inl ⟨rfl, fun w5 q1 => ?_⟩) ?_
  · go_simp
  simp only [Act.put, List.setIfInBounds_toArray, List.set]
  refine wpG_take (i := 23) (v := .agg [.slice Aa D.arr.length Ac, .slice Ra Rn Rc, .int .i64 D.ops, .int .i64 ar, .int .i64 fl, .bool D.dead].toArray) rfl (by kernel_rfl) (fun _ _ _ h => h) hA (.inl ⟨rfl, fun w5 q1 => ?_⟩) ?_
  · exact run_load_mid' rfl rfl [.slice Aa D.arr.length Ac, .slice Ra Rn Rc, .int .i64 D.ops, .int .i64 ar, .int .i64 fl, .bool D.dead] (rangeAt_block (cs := [.slice Aa D.arr.length Ac, .slice Ra Rn Rc, .int .i64 D.ops, .int .i64 ar, .int .i64 fl, .bool D.dead]) q1) Try.underlying69 rfl Try.size69
  simp only [Act.put, List.setIfInBounds_toArray, List.set]
  refine wpG_doIf (i := 22) rfl (by kernel_rfl) rfl (fun K hK => ?_)
  have HK := Lib.hid hK
  clear hK
  go_step
  refine (pending_any w1.drew HD1.out HO.out).mono ?_
  rintro e w2 ⟨u, rfl, hown, hu2⟩
  have hA := (hu2.block _ hlw (fun e => e)).trans hA
  have HU2 := Lib.hid (HU.out.trans hu2)
  have HW := Lib.hid hown
  clear hu2 hown HU HD1
  simp only []
  refine HK.out _ _ hA ?_
  clear HK
  simp only [List.setIfInBounds_toArray, List.set]
  refine wpG_doIf (i := 24) rfl (by kernel_rfl) rfl (fun K hK => ?_)
  have HK := Lib.hid hK
  clear hK
  go_step
  refine (HRP.out w2 HU2.out).mono ?_
  rintro e w3 ⟨u3, rfl, hown3, hu3⟩
  have hA := (hu3.block _ (lt_of_heap hA) (fun e => e)).trans hA
  have HU3 := Lib.hid (HU2.out.trans hu3)
  have HW3 := Lib.hid hown3
  have HWK := Lib.hid (ownsRow_any HW.out hu3 (fun _ _ e => e))
  clear hu3 hown3 HU2 HW HRP
  simp only []
  refine HK.out _ _ hA ?_
  clear HK
  simp only [List.setIfInBounds_toArray, List.set]
  refine wpG_doIf (i := 25) rfl (by kernel_rfl) rfl (fun K hK => ?_)
  have HK := Lib.hid hK
  clear hK
  go_step
  refine (equal_own (xs := (D.row.map (·.1)).map fun i : Nat => (i : Int)) (ys := (D.row.map (·.1)).map fun i : Nat => (i : Int)) (by have := HWK.out; rw [secs_eq] at this; simpa only [List.length_map] using this) (by have := HW3.out; rw [secs_eq] at this; simpa only [List.length_map] using this)).mono ?_
  rintro e w4 ⟨rfl, hu4⟩
  have hA := (hu4.block _ (lt_of_heap hA) (fun e => e)).trans hA
  have HU4 := Lib.hid (HU3.out.trans hu4)
  clear hu4 HU3 HWK HW3
  simp only [beq_self_eq_true]
  refine HK.out _ _ hA ?_
  clear HK
  simp only [List.setIfInBounds_toArray, List.set]
  refine wpG_take (i := 26) (v := .bool true) rfl (by kernel_rfl) (fun _ _ _ h => h) hA (.inl ⟨rfl, fun w5 q1 => ?_⟩) ?_
  · go_simp
  simp only [Act.put, List.setIfInBounds_toArray, List.set]
  refine wpG_tail_lit (k := 27) rfl rfl (by kernel_rfl) ?_
  simp only [List.drop]
  go_wp2
  go_ret
  exact ⟨rfl, HU4.out⟩

end Go.Proofs.Ytbimkhdiplnbfaa
end

