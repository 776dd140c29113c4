/- Walks of the laws: DiskOrder. -/
import Derived.Test.YtbimkhdiplnbfaaW3
import Derived.Test.YtbimkhdiplnbfaaT1
import Derived.Test.YtbimkhdiplnbfaaE2
namespace Go.Proofs.Ytbimkhdiplnbfaa
open Go.RowKit Go.Deep

theorem new_two {w0 wr : World} (N : Nat) (hN : 1 ≤ N ∧ N ≤ 10) (hu : Upd (fun _ => False) w0 wr) :
    Calls Try.prog 32 #[.int .i64 N] wr fun e w' => e = .returned (.tuple #[.pointer (some ⟨wr.heap.size + 1, 0, none⟩), .int .i64 0]) ∧ ∃ F, Dsk w' (wr.heap.size + 1) (Dk.new N) F ∧ (∀ k, F k → wr.heap.size ≤ k) ∧ Upd (fun _ => False) wr w' := by
  refine (new_good N wr (by omega)).mono ?_
  rintro e w' ⟨rfl, h⟩
  obtain ⟨F, h1, h2, h3⟩ := h.dsk (by omega)
  exact ⟨rfl, F, h1, h2, h3⟩

def callBox (k i n c : Int) (ka : Option Addr) (kn kc : Nat) : Obj := .cells #[.int .i64 k, .int .i64 i, .int .i64 n, .int .u8 c, .slice ka kn kc] 51 (0, 0)

theorem fresh56 (W : World) (bs : List Value) (hb : bs.length = 64) : (W.alloc (.cells (bcells zblk).toArray 56)).there W.heap.size 0 bs.toArray.size ∧ ((W.alloc (.cells (bcells zblk).toArray 56)).setCells W.heap.size 0 bs).heap[W.heap.size]? = some (.cells bs.toArray 56 (0, 0)) ∧
    Upd (fun _ => False) W ((W.alloc (.cells (bcells zblk).toArray 56)).setCells W.heap.size 0 bs) := by
  have hblk : (W.alloc (.cells (bcells zblk).toArray 56)).heap[W.heap.size]? = some (.cells (bcells zblk).toArray 56 (0, 0)) := alloc_at rfl
  have hzl : (bcells zblk).toArray.size = bs.toArray.size := by simp [bcells, zblk, hb]
  refine ⟨?_, heap_setCells_whole (vs := bs) hblk (by rw [hzl]; simp), ?_⟩
  · have := there_block hblk
    rwa [hzl] at this
  · have := Upd.setCells (F := fun j => W.heap.size ≤ j) (b := W.heap.size) (Nat.le_refl _) bs 0 ((Upd.refl _ W).alloc (.cells (bcells zblk).toArray 56))
    exact this.mono (fun j hj e => by omega)

theorem callD_length (D : Dk) (i : Int) (wr : Bool) : (D.callD i wr).arr.length = D.arr.length := by
  unfold Dk.callD
  split <;> (try rfl)
  split <;> (try rfl)
  split <;> (try rfl)
  split <;> rfl

theorem Try.size51 : (Try.prog.info? 51).map (·.size) = some 5 := by kernel_rfl

set_option maxRecDepth 100000 in
set_option maxHeartbeats 4000000 in
theorem order_run (n k1 i1 n1 c1 k2 i2 n2 c2 : Int) (a1 a2 : Option Addr) (l1 d1 l2 d2 : Nat) (h1 : 0 ≤ c1 ∧ c1 ≤ 255) (h2 : 0 ≤ c2 ∧ c2 ≤ 255) (w : World) :
    Calls Try.prog 5 #[.int .i64 n, callV k1 i1 n1 c1 a1 l1 d1, callV k2 i2 n2 c2 a2 l2 d2] w fun e w' => e = .returned (.bool true) ∧ Upd (fun _ => False) w w' := by
  obtain ⟨N, hN, hW⟩ := wide_any n
  have HW := Lib.hid hW
  have HC1 := Lib.hid h1; have HC2 := Lib.hid h2
  clear hW h1 h2
  obtain ⟨w0, hw0⟩ : ∃ w0, w0 = (w.alloc (callBox k1 i1 n1 c1 a1 l1 d1)).alloc (callBox k2 i2 n2 c2 a2 l2 d2) := ⟨_, rfl⟩
  have hz0 : w0.heap.size = w.heap.size + 2 := by rw [hw0]; simp
  have hA0 : w0.heap[w.heap.size]? = some (callBox k1 i1 n1 c1 a1 l1 d1) := by rw [hw0]; exact (alloc_lt (by simp)).trans (alloc_at rfl)
  have hB0 : w0.heap[w.heap.size + 1]? = some (callBox k2 i2 n2 c2 a2 l2 d2) := by rw [hw0]; exact alloc_at (by simp)
  have hu0 : Upd (fun _ => False) w w0 := by rw [hw0]; exact ((Upd.refl _ _).alloc _).alloc _
  have HA0 := Lib.hid hA0; have HB0 := Lib.hid hB0; have HU0 := Lib.hid hu0
  have HW0 := Lib.hid hw0
  clear hA0 hB0 hu0 hw0
  unfold callV
  go_enter Try.func5, Try.ntmps5
  go_wp2_with (go_at_call 31; fail)
  have hwk := wakes_run w0
  rw [HW0.out] at hwk
  refine hwk.mono ?_
  rintro e w1 ⟨rfl, hu1⟩
  rw [← show w0 = _ from HW0.out] at hu1
  clear hwk
  have hbox : ∀ W, Upd (fun _ => False) w0 W → W.heap[w.heap.size]? = some (callBox k1 i1 n1 c1 a1 l1 d1) ∧ W.heap[w.heap.size + 1]? = some (callBox k2 i2 n2 c2 a2 l2 d2) := fun W hu =>
    ⟨(hu.block _ (by omega) (fun e => e)).trans HA0.out, (hu.block _ (by omega) (fun e => e)).trans HB0.out⟩
  have HBX := Lib.hid hbox
  clear hbox HA0 HB0 HW0
  have q1 : w1.cell? ⟨w.heap.size, 1, none⟩ = some (.int .i64 i1) := by rw [cell_of_heap (HBX.out w1 hu1).1]; rfl
  have q2 : w1.cell? ⟨w.heap.size + 1, 1, none⟩ = some (.int .i64 i2) := by rw [cell_of_heap (HBX.out w1 hu1).2]; rfl
  have HU1 := Lib.hid hu1
  clear hu1
  simp only []
  by_cases hij : i1 = i2
  · go_wp2
    go_ret
    exact ⟨rfl, HU0.out.trans HU1.out⟩
  go_wp2_with (go_at_call 33; refine (HW.out _).mono ?_; rintro e w2 ⟨rfl, rfl⟩)
  clear q1 q2
  refine (new_two N hN HU1.out).mono ?_
  rintro e w2 ⟨rfl, Fx, hDx, hFx, hux⟩
  have HU2 := Lib.hid (HU1.out.trans hux)
  have HDX := Lib.hid hDx; have HFX := Lib.hid hFx; have hzx := hux.size; have hzw := HU1.out.size
  clear hDx hFx hux HU1
  simp only []
  go_wp2_with (go_at_call 33; refine (HW.out _).mono ?_; rintro e w3 ⟨rfl, rfl⟩)
  refine (new_two N hN HU2.out).mono ?_
  rintro e w3 ⟨rfl, Fy, hDy, hFy, huy⟩
  have hT : Two (fun _ => False) w0 w3 (w1.heap.size + 1) (w2.heap.size + 1) (Dk.new N) (Dk.new N) 0 :=
    ⟨Fx, Fy, HDX.out.kept huy (fun _ _ e => e), hDy, fun k hx hy => by have := HDX.out.lt k hx; have := hFy k hy; omega, fun k hk => .inr (by have := HFX.out k hk; omega), fun k hk => .inr (by have := hFy k hk; omega), HU2.out.trans huy, Dk.new_ok (by omega) 0, Dk.new_ok (by omega) 0⟩
  have HT := Lib.hid hT
  clear hT hDy hFy huy HDX HFX HU2 hzx hzw HW
  obtain ⟨px, hpx⟩ : ∃ px, px = w1.heap.size + 1 := ⟨_, rfl⟩
  obtain ⟨py, hpy⟩ : ∃ py, py = w2.heap.size + 1 := ⟨_, rfl⟩
  rw [← hpx, ← hpy] at HT ⊢
  clear hpx hpy
  simp only []
  go_upto_region 9 with fail
  have hA := HBX.out w3.drew HT.out.since.drew
  refine wp_region_G 13 (fun W => W.heap[w.heap.size]? = some (callBox k1 i1 n1 c1 a1 l1 d1) ∧ W.heap[w.heap.size + 1]? = some (callBox k2 i2 n2 c2 a2 l2 d2)) [false, false, false, false, false, false, false, false, false, false, false, false, false, false] rfl (by kernel_rfl) ?_
  refine wpG_take (i := 0) (v := .pointer (some ⟨px, 0, none⟩)) rfl (by kernel_rfl) (fun _ _ _ h => h) hA (.inl ⟨rfl, fun w5 q1 => ?_⟩) ?_
  · go_simp
  simp only [Act.put, List.setIfInBounds_toArray, List.set]
  refine wpG_take (i := 1) (v := .pointer (some ⟨w.heap.size, 1, none⟩)) rfl (by kernel_rfl) (fun _ _ _ h => h) hA (.inl ⟨rfl, fun w5 q1 => ?_⟩) ?_
  · go_simp
  simp only [Act.put, List.setIfInBounds_toArray, List.set]
  refine wpG_take (i := 2) (v := .int .i64 i1) rfl (by kernel_rfl) (fun _ _ _ h => h) hA (.inl ⟨rfl, fun w5 q1 => ?_⟩) ?_
  · have q2 : w5.cell? ⟨w.heap.size, 1, none⟩ = some (.int .i64 i1) := by rw [cell_of_heap q1.1]; rfl
    go_simp
  simp only [Act.put, List.setIfInBounds_toArray, List.set]
  refine wpG_take (i := 3) (v := .agg [.int .i64 k1, .int .i64 i1, .int .i64 n1, .int .u8 c1, .slice a1 l1 d1].toArray) rfl (by kernel_rfl) (fun _ _ _ h => h) hA (.inl ⟨rfl, fun w5 q1 => ?_⟩) ?_
  · exact run_load_mid' rfl rfl [.int .i64 k1, .int .i64 i1, .int .i64 n1, .int .u8 c1, .slice a1 l1 d1] (rangeAt_block (cs := [.int .i64 k1, .int .i64 i1, .int .i64 n1, .int .u8 c1, .slice a1 l1 d1]) q1.1) Try.underlying51 rfl Try.size51
  simp only [Act.put, List.setIfInBounds_toArray, List.set]
  refine wpG_take (i := 6) (v := .pointer (some ⟨px, 0, none⟩)) rfl (by kernel_rfl) (fun _ _ _ h => h) hA (.inl ⟨rfl, fun w5 q1 => ?_⟩) ?_
  · go_simp
  simp only [Act.put, List.setIfInBounds_toArray, List.set]
  refine wpG_take (i := 7) (v := .pointer (some ⟨w.heap.size + 1, 1, none⟩)) rfl (by kernel_rfl) (fun _ _ _ h => h) hA (.inl ⟨rfl, fun w5 q1 => ?_⟩) ?_
  · go_simp
  simp only [Act.put, List.setIfInBounds_toArray, List.set]
  refine wpG_take (i := 8) (v := .int .i64 i2) rfl (by kernel_rfl) (fun _ _ _ h => h) hA (.inl ⟨rfl, fun w5 q1 => ?_⟩) ?_
  · have q2 : w5.cell? ⟨w.heap.size + 1, 1, none⟩ = some (.int .i64 i2) := by rw [cell_of_heap q1.2]; rfl
    go_simp
  simp only [Act.put, List.setIfInBounds_toArray, List.set]
  refine wpG_take (i := 9) (v := .agg [.int .i64 k2, .int .i64 i2, .int .i64 n2, .int .u8 c2, .slice a2 l2 d2].toArray) rfl (by kernel_rfl) (fun _ _ _ h => h) hA (.inl ⟨rfl, fun w5 q1 => ?_⟩) ?_
  · exact run_load_mid' rfl rfl [.int .i64 k2, .int .i64 i2, .int .i64 n2, .int .u8 c2, .slice a2 l2 d2] (rangeAt_block (cs := [.int .i64 k2, .int .i64 i2, .int .i64 n2, .int .u8 c2, .slice a2 l2 d2]) q1.2) Try.underlying51 rfl Try.size51
  simp only [Act.put, List.setIfInBounds_toArray, List.set]
  refine wpG_do (i := 4) rfl (by kernel_rfl) rfl (fun K hK => ?_)
  have HK := Lib.hid hK
  clear hK
  go_step
  refine (block_run k1 i1 n1 c1 a1 l1 d1 w3.drew).mono ?_
  rintro e x1 ⟨rfl, hu⟩
  have hA := HBX.out x1 (HT.out.since.drew.trans hu)
  have HT := Lib.hid (HT.out.upd ((Upd.refl _ _).drew.trans hu)); clear hu
  simp only []
  refine HK.out _ _ hA ?_
  clear HK
  simp only [Act.put, List.setIfInBounds_toArray, List.set]
  refine wpG_do (i := 5) rfl (by kernel_rfl) rfl (fun K hK => ?_)
  have HK := Lib.hid hK
  clear hK
  go_step
  refine (HT.out.write (by omega) i1 (fill_ok HC1.out)).mono ?_
  rintro e x2 ⟨rfl, hT⟩
  clear HT
  have HT := Lib.hid (hT); clear hT
  have hA := HBX.out x2 HT.out.since
  simp only []
  refine HK.out _ _ hA ?_
  clear HK
  simp only [Act.put, List.setIfInBounds_toArray, List.set]
  refine wpG_do (i := 10) rfl (by kernel_rfl) rfl (fun K hK => ?_)
  have HK := Lib.hid hK
  clear hK
  go_step
  refine (block_run k2 i2 n2 c2 a2 l2 d2 x2).mono ?_
  rintro e x3 ⟨rfl, hu⟩
  have hA := HBX.out x3 (HT.out.since.trans hu)
  have HT := Lib.hid (HT.out.upd (hu)); clear hu
  simp only []
  refine HK.out _ _ hA ?_
  clear HK
  simp only [Act.put, List.setIfInBounds_toArray, List.set]
  refine wpG_do (i := 11) rfl (by kernel_rfl) rfl (fun K hK => ?_)
  have HK := Lib.hid hK
  clear hK
  go_step
  refine (HT.out.write (by omega) i2 (fill_ok HC2.out)).mono ?_
  rintro e x4 ⟨rfl, hT⟩
  clear HT
  have HT := Lib.hid (hT); clear hT
  have hA := HBX.out x4 HT.out.since
  simp only []
  refine HK.out _ _ hA ?_
  clear HK
  simp only [Act.put, List.setIfInBounds_toArray, List.set]
  refine wpG_do (i := 12) rfl (by kernel_rfl) rfl (fun K hK => ?_)
  have HK := Lib.hid hK
  clear hK
  go_step
  refine HK.out _ _ hA ?_
  clear HK
  simp only [Act.put, List.setIfInBounds_toArray, List.set]
  refine wpG_tail_lit (k := 13) rfl rfl (by kernel_rfl) ?_
  simp only [List.drop]
  go_upto_region 10 with fail
  have hA := HBX.out x4.drew HT.out.since.drew
  refine wp_region_G 13 (fun W => W.heap[w.heap.size]? = some (callBox k1 i1 n1 c1 a1 l1 d1) ∧ W.heap[w.heap.size + 1]? = some (callBox k2 i2 n2 c2 a2 l2 d2)) [false, false, false, false, false, false, false, false, false, false, false, false, false, false] rfl (by kernel_rfl) ?_
  refine wpG_take (i := 0) (v := .pointer (some ⟨py, 0, none⟩)) rfl (by kernel_rfl) (fun _ _ _ h => h) hA (.inl ⟨rfl, fun w5 q1 => ?_⟩) ?_
  · go_simp
  simp only [Act.put, List.setIfInBounds_toArray, List.set]
  refine wpG_take (i := 1) (v := .pointer (some ⟨w.heap.size + 1, 1, none⟩)) rfl (by kernel_rfl) (fun _ _ _ h => h) hA (.inl ⟨rfl, fun w5 q1 => ?_⟩) ?_
  · go_simp
  simp only [Act.put, List.setIfInBounds_toArray, List.set]
  refine wpG_take (i := 2) (v := .int .i64 i2) rfl (by kernel_rfl) (fun _ _ _ h => h) hA (.inl ⟨rfl, fun w5 q1 => ?_⟩) ?_
  · have q2 : w5.cell? ⟨w.heap.size + 1, 1, none⟩ = some (.int .i64 i2) := by rw [cell_of_heap q1.2]; rfl
    go_simp
  simp only [Act.put, List.setIfInBounds_toArray, List.set]
  refine wpG_take (i := 3) (v := .agg [.int .i64 k2, .int .i64 i2, .int .i64 n2, .int .u8 c2, .slice a2 l2 d2].toArray) rfl (by kernel_rfl) (fun _ _ _ h => h) hA (.inl ⟨rfl, fun w5 q1 => ?_⟩) ?_
  · exact run_load_mid' rfl rfl [.int .i64 k2, .int .i64 i2, .int .i64 n2, .int .u8 c2, .slice a2 l2 d2] (rangeAt_block (cs := [.int .i64 k2, .int .i64 i2, .int .i64 n2, .int .u8 c2, .slice a2 l2 d2]) q1.2) Try.underlying51 rfl Try.size51
  simp only [Act.put, List.setIfInBounds_toArray, List.set]
  refine wpG_take (i := 6) (v := .pointer (some ⟨py, 0, none⟩)) rfl (by kernel_rfl) (fun _ _ _ h => h) hA (.inl ⟨rfl, fun w5 q1 => ?_⟩) ?_
  · go_simp
  simp only [Act.put, List.setIfInBounds_toArray, List.set]
  refine wpG_take (i := 7) (v := .pointer (some ⟨w.heap.size, 1, none⟩)) rfl (by kernel_rfl) (fun _ _ _ h => h) hA (.inl ⟨rfl, fun w5 q1 => ?_⟩) ?_
  · go_simp
  simp only [Act.put, List.setIfInBounds_toArray, List.set]
  refine wpG_take (i := 8) (v := .int .i64 i1) rfl (by kernel_rfl) (fun _ _ _ h => h) hA (.inl ⟨rfl, fun w5 q1 => ?_⟩) ?_
  · have q2 : w5.cell? ⟨w.heap.size, 1, none⟩ = some (.int .i64 i1) := by rw [cell_of_heap q1.1]; rfl
    go_simp
  simp only [Act.put, List.setIfInBounds_toArray, List.set]
  refine wpG_take (i := 9) (v := .agg [.int .i64 k1, .int .i64 i1, .int .i64 n1, .int .u8 c1, .slice a1 l1 d1].toArray) rfl (by kernel_rfl) (fun _ _ _ h => h) hA (.inl ⟨rfl, fun w5 q1 => ?_⟩) ?_
  · exact run_load_mid' rfl rfl [.int .i64 k1, .int .i64 i1, .int .i64 n1, .int .u8 c1, .slice a1 l1 d1] (rangeAt_block (cs := [.int .i64 k1, .int .i64 i1, .int .i64 n1, .int .u8 c1, .slice a1 l1 d1]) q1.1) Try.underlying51 rfl Try.size51
  simp only [Act.put, List.setIfInBounds_toArray, List.set]
  refine wpG_do (i := 4) rfl (by kernel_rfl) rfl (fun K hK => ?_)
  have HK := Lib.hid hK
  clear hK
  go_step
  refine (block_run k2 i2 n2 c2 a2 l2 d2 x4.drew).mono ?_
  rintro e y1 ⟨rfl, hu⟩
  have hA := HBX.out y1 (HT.out.since.drew.trans hu)
  have HT := Lib.hid (HT.out.upd ((Upd.refl _ _).drew.trans hu)); clear hu
  simp only []
  refine HK.out _ _ hA ?_
  clear HK
  simp only [Act.put, List.setIfInBounds_toArray, List.set]
  refine wpG_do (i := 5) rfl (by kernel_rfl) rfl (fun K hK => ?_)
  have HK := Lib.hid hK
  clear hK
  go_step
  refine (HT.out.symm.write (by omega) i2 (fill_ok HC2.out)).mono ?_
  rintro e y2 ⟨rfl, hT⟩
  clear HT
  have HT := Lib.hid (hT.symm); clear hT
  have hA := HBX.out y2 HT.out.since
  simp only []
  refine HK.out _ _ hA ?_
  clear HK
  simp only [Act.put, List.setIfInBounds_toArray, List.set]
  refine wpG_do (i := 10) rfl (by kernel_rfl) rfl (fun K hK => ?_)
  have HK := Lib.hid hK
  clear hK
  go_step
  refine (block_run k1 i1 n1 c1 a1 l1 d1 y2).mono ?_
  rintro e y3 ⟨rfl, hu⟩
  have hA := HBX.out y3 (HT.out.since.trans hu)
  have HT := Lib.hid (HT.out.upd (hu)); clear hu
  simp only []
  refine HK.out _ _ hA ?_
  clear HK
  simp only [Act.put, List.setIfInBounds_toArray, List.set]
  refine wpG_do (i := 11) rfl (by kernel_rfl) rfl (fun K hK => ?_)
  have HK := Lib.hid hK
  clear hK
  go_step
  refine (HT.out.symm.write (by omega) i1 (fill_ok HC1.out)).mono ?_
  rintro e y4 ⟨rfl, hT⟩
  clear HT
  have HT := Lib.hid (hT.symm); clear hT
  have hA := HBX.out y4 HT.out.since
  simp only []
  refine HK.out _ _ hA ?_
  clear HK
  simp only [Act.put, List.setIfInBounds_toArray, List.set]
  refine wpG_do (i := 12) rfl (by kernel_rfl) rfl (fun K hK => ?_)
  have HK := Lib.hid hK
  clear hK
  go_step
  refine HK.out _ _ hA ?_
  clear HK
  simp only [Act.put, List.setIfInBounds_toArray, List.set]
  refine wpG_tail_lit (k := 13) rfl rfl (by kernel_rfl) ?_
  simp only [List.drop]
  have hcN := Dk.Calm.new N
  have e1 : ((Dk.new N).write i2 (fill c2)).callE i1 true = (Dk.new N).callE i1 true := by rw [(hcN.write' i2 _).callE, hcN.callE]; simp only [hcN.off_write]
  have e2 : ((Dk.new N).write i1 (fill c1)).callE i2 true = (Dk.new N).callE i2 true := by rw [(hcN.write' i1 _).callE, hcN.callE]; simp only [hcN.off_write]
  rw [e1, e2]
  clear e1 e2
  generalize (Dk.new N).callE i1 true = E1
  generalize (Dk.new N).callE i2 true = E2
  have hop := order_ops hcN i1 i2 (fill c1) (fill c2)
  have HOP := Lib.hid hop
  have HTW := Lib.hid (Dk.Twin.order hcN (by simp [Dk.new]; omega) hij (fill c1) (fill c2))
  have HCX := Lib.hid ((hcN.write' i1 (fill c1)).write' i2 (fill c2))
  have HCY := Lib.hid ((hcN.write' i2 (fill c2)).write' i1 (fill c1))
  have HLX : RowKit.Hid ((((Dk.new N).write i1 (fill c1)).write i2 (fill c2)).arr.length = N) := Lib.hid (by rw [(hcN.write' i1 _).length, hcN.length]; simp [Dk.new])
  clear hop hcN
  generalize ((Dk.new N).write i1 (fill c1)).write i2 (fill c2) = X at *
  generalize ((Dk.new N).write i2 (fill c2)).write i1 (fill c1) = Y at *
  go_wp2_with (go_at_call 36; fail)
  refine HT.out.ops.mono ?_
  rintro e y5 ⟨rfl, rfl⟩
  simp only []
  go_wp2_with (go_at_call 36; fail)
  have hoy := HT.out.symm.ops
  rw [← HOP.out] at hoy
  refine hoy.mono ?_
  rintro e y5 ⟨rfl, rfl⟩
  clear hoy hA HBX HC1 HC2 HOP
  obtain ⟨Gb, hGb, hTb⟩ := HT.out.rebase (w1 := y4.alloc (.cells #[.func (.func 37) #[] #[], .func (.func 39) #[] #[]] 59)) ((Upd.refl _ _).alloc _)
  obtain ⟨wb, hwb⟩ : ∃ wb, wb = y4.alloc (.cells #[.func (.func 37) #[] #[], .func (.func 39) #[] #[]] 59) := ⟨_, rfl⟩
  rw [← hwb] at hTb
  have HTB := Lib.hid (hTb.mono (K' := 100) (by omega)); have HGB := Lib.hid hGb
  have HUB : RowKit.Hid (Upd (fun _ => False) w wb) := Lib.hid (by rw [hwb]; exact (HU0.out.trans HT.out.since).alloc _)
  have HFB : RowKit.Hid (wb.heap[y4.heap.size]? = some (.cells #[.func (.func 37) #[] #[], .func (.func 39) #[] #[]] 59 (0, 0))) := Lib.hid (by rw [hwb]; exact alloc_at rfl)
  have hzb : wb.heap.size = y4.heap.size + 1 := by rw [hwb]; simp
  have HZ0 := Lib.hid (HT.out.since.size)
  clear hGb hTb HT
  have HWB := Lib.hid hwb
  clear hwb
  simp only []
  go_wp2
  rw [← show wb = _ from HWB.out]
  clear HWB
  go_loopg [88] 2 (fun gk i wr => ∃ k : Nat, k ≤ 2 ∧ gk = 2 - k ∧ i = .int .i64 k ∧ ∃ X Y, Two Gb wb wr px py X Y (100 + 30 * k) ∧ X.Calm ∧ Y.Calm ∧ X.arr.length = N ∧ (k < 2 → Dk.Twin (endK k X) (endK k Y)))
  case atStart => exact ⟨0, by omega, rfl, rfl, X, Y, HTB.out, HCX.out, HCY.out, HLX.out, fun _ => HTW.out⟩
  case round =>
    clear HTB HCX HCY HLX HTW
    obtain ⟨k, hk, rfl, rfl, X1, Y1, hT, hcx, hcy, hlx, htw⟩ := hrel
    have HTR := Lib.hid hT; have HCX := Lib.hid hcx; have HCY := Lib.hid hcy; have HLX := Lib.hid hlx; have HTW := Lib.hid htw
    have hfb : wr.heap[y4.heap.size]? = some (.cells #[.func (.func 37) #[] #[], .func (.func 39) #[] #[]] 59 (0, 0)) :=
      (hT.since.block _ (by omega) (fun e => by have := (HGB.out _ e).2; omega)).trans HFB.out
    have hfk : k < 2 → wr.cell? ⟨y4.heap.size, k, none⟩ = some (.func (.func (endF k)) #[] #[]) := fun h => by
      rw [cell_of_heap hfb]
      rcases k with _ | _ | k
      · rfl
      · rfl
      · omega
    have heg := endF_enters k
    have HEN := Lib.hid (fun (wr : World) (p q : Nat) (X Y : Dk) (K : Nat) (h : Two Gb wb wr p q X Y K) (hK : K ≤ 1000000) (hc : X.Calm) => end_any k h hK hc)
    clear hT hcx hcy hlx htw hfb
    generalize endF k = fk at *
    obtain ⟨wo, rfl⟩ : ∃ wo, wo = wr := ⟨_, rfl⟩
    by_cases hk2 : k < 2
    · have hk3 : (k : Int) < 2 := by omega
      have hf1 := hfk hk2
      clear hfk
      go_wp2_with fail
      refine (HEN.out wo px py X1 Y1 _ HTR.out (by omega) HCX.out).mono ?_
      rintro e wa ⟨rfl, hT1⟩
      have HT1 := Lib.hid hT1
      clear hT1
      simp only []
      go_wp2_with fail
      refine (HEN.out wa py px Y1 (endK k X1) _ HT1.out.symm (by omega) HCY.out).mono ?_
      rintro e wc ⟨rfl, hT2⟩
      have HT2 := Lib.hid hT2.symm
      have HTT := Lib.hid (HTW.out hk2)
      have HL2 := Lib.hid ((endK_length k X1).trans HLX.out)
      clear hT2 HT1 HTR HCX HCY HLX HTW HEN heg hf1
      generalize endK k X1 = X2 at *
      generalize endK k Y1 = Y2 at *
      simp only []
      go_wp2_with (go_at_call 41; fail)
      have hle := HT2.out.len
      rw [HL2.out] at hle
      refine hle.mono ?_
      rintro e wd ⟨rfl, rfl⟩
      clear hle
      simp only []
      go_wp2
      go_loopg [104] N (fun gj i wr => ∃ j : Nat, j ≤ N ∧ gj = N - j ∧ i = .int .i64 j ∧ ∃ X Y, Two Gb wb wr px py X Y (102 + 30 * k + 2 * j) ∧ Dk.Twin X Y ∧ X.arr.length = N)
      case atStart => exact ⟨0, Nat.zero_le _, rfl, rfl, X2, Y2, HT2.out.mono (by omega), HTT.out, HL2.out⟩
      case round =>
        clear HT2 HTT HL2
        obtain ⟨j, hj, rfl, rfl, X3, Y3, hT, htt, hl3⟩ := hrel
        have HT3 := Lib.hid hT; have HTT := Lib.hid htt; have HL3 := Lib.hid hl3
        clear hT htt hl3
        obtain ⟨wi, rfl⟩ : ∃ wi, wi = wr := ⟨_, rfl⟩
        by_cases hjn : j < N
        · have hjn2 : (j : Int) < N := by omega
          go_wp2_with fail
          have hread := HT3.out.read (by omega) j
          have hrb := reads_blk HT3.out.oks.1 (j : Int)
          have hle : (bcells (X3.reads j)).length = 64 := by simp [bcells, hrb.1]
          have hi : (Try.prog.info? 56).map (·.size) = some (bcells (X3.reads j)).length := by rw [Try.info56p, hle]
          have H1B := Lib.hid (all_oneCell_toArray (bcells_one (X3.reads j)))
          have hyx : Y3.reads j = X3.reads j := (HTT.out.reads j).symm
          have HY : RowKit.Hid (∀ (G' : Nat → Prop) (w1 : World) (K' : Nat), Two G' w1 w1 py px Y3 (X3.callD j false) K' → K' ≤ 1000000 → Calls Try.prog 42 #[.pointer (some ⟨py, 0, none⟩), .int .i64 j] w1 (fun e w' => e = .returned (.tuple #[.agg (bcells (X3.reads j)).toArray, .int .i64 (Y3.callE j false)]) ∧ Two G' w1 w' py px (Y3.callD j false) (X3.callD j false) (K' + 1))) :=
            Lib.hid (fun G' w1 K' h hK => by have := h.read hK j; rwa [hyx] at this)
          have HNEQ : RowKit.Hid (∀ W, (binOp .neq 56 (.agg (bcells (X3.reads j)).toArray) (.agg (bcells (X3.reads j)).toArray)).run Try.prog W = .ok (.bool false) W) := Lib.hid (fun W => by rw [neq_bytes W hrb.1 hrb.1]; simp)
          have HI := Lib.hid hi; have HLE := Lib.hid hle
          clear hrb hle hi hyx
          generalize bcells (X3.reads j) = bs at *
          refine hread.mono ?_
          rintro e wa1 ⟨rfl, hTa⟩
          have HTA := Lib.hid hTa
          clear hread hTa
          simp only []
          iterate 13 go_step
          obtain ⟨f1, f2, f3⟩ := fresh56 wa1 bs HLE.out
          refine wpList_store_mid rfl 56 (.tmp 18) (.tmp 111) rfl wa1.heap.size 0 bs.toArray rfl rfl f1 (by rw [HI.out]; simp) H1B.out ?_
          obtain ⟨wb1, hwb1⟩ : ∃ wb1, wb1 = (wa1.alloc (.cells (bcells zblk).toArray 56)).setCells wa1.heap.size 0 bs := ⟨_, rfl⟩
          refine (?_ : wpList _ _ _ _ _ ((wa1.alloc (.cells (bcells zblk).toArray 56)).setCells wa1.heap.size 0 bs))
          rw [← hwb1] at f2 f3 ⊢
          obtain ⟨G2, hG2, hT2⟩ := HTA.out.rebase f3
          have HF2 := Lib.hid f2; have HG2 := Lib.hid hG2; have HT2 := Lib.hid hT2
          have HU2 := Lib.hid (HTA.out.since.trans (f3.mono (fun _ _ e => e.elim)))
          clear f1 f2 f3 hG2 hT2 hwb1 HTA
          go_wp2_with fail
          refine (HY.out G2 wb1 _ HT2.out.symm (by omega)).mono ?_
          rintro e wa2 ⟨rfl, hTa⟩
          have hb1 : wa2.heap[wa1.heap.size]? = some (.cells bs.toArray 56 (0, 0)) := (hTa.since.block _ (lt_of_heap HF2.out) (fun e => by have := (HG2.out _ e).2; omega)).trans HF2.out
          have HTA := Lib.hid (hTa.symm.back HU2.out (fun k hk => (HG2.out k hk).1))
          clear hTa HT2 HG2 HU2 HY HF2
          simp only []
          iterate 13 go_step
          obtain ⟨f1, f2, f3⟩ := fresh56 wa2 bs HLE.out
          refine wpList_store_mid rfl 56 (.tmp 20) (.tmp 117) rfl wa2.heap.size 0 bs.toArray rfl rfl f1 (by rw [HI.out]; simp) H1B.out ?_
          obtain ⟨wb2, hwb2⟩ : ∃ wb2, wb2 = (wa2.alloc (.cells (bcells zblk).toArray 56)).setCells wa2.heap.size 0 bs := ⟨_, rfl⟩
          refine (?_ : wpList _ _ _ _ _ ((wa2.alloc (.cells (bcells zblk).toArray 56)).setCells wa2.heap.size 0 bs))
          rw [← hwb2] at f2 f3 ⊢
          have hb3 := (f3.block _ (lt_of_heap hb1) (fun e => e)).trans hb1
          have HB1 := Lib.hid hb3; have HB2 := Lib.hid f2
          have HT5 := Lib.hid (HTA.out.upd f3)
          have HTW5 := Lib.hid (HTT.out.read (j : Int) false)
          clear f1 f2 f3 hb3 hb1 hwb2 HTA
          go_upto_region 23 with fail
          go_step
          refine wpList_load_mid rfl 56 (.tmp 18) rfl wa1.heap.size 0 rfl bs _ (rangeAt_block HB1.out) Try.underlying56 rfl HI.out ?_
          refine wpList_load_mid rfl 56 (.tmp 20) rfl wa2.heap.size 0 rfl bs _ (rangeAt_block HB2.out) Try.underlying56 rfl HI.out ?_
          refine wpList_exec rfl (run_exec_neq rfl rfl rfl (HNEQ.out wb2)) ?_
          go_wp2
          go_roundg (N - (j + 1))
          case measure => omega
          case rel => exact ⟨j + 1, by omega, rfl, congrArg _ (by omega), _, _, HT5.out.mono (by omega), HTW5.out, (callD_length X3 j false).trans HL3.out⟩
        · obtain rfl : j = N := by omega
          go_wp2
          go_roundg (2 - (k + 1))
          case measure => omega
          case rel => exact ⟨k + 1, by omega, rfl, congrArg _ (by omega), X3, Y3, HT3.out.mono (by omega), HTT.out.x, HTT.out.y, HL3.out, fun _ => HTT.out.crash []⟩
    · obtain rfl : k = 2 := by omega
      clear hfk
      go_wp2
      go_ret
      exact ⟨rfl, HUB.out.step HTR.out.since (fun j hj e => (HGB.out j e).1.elim (fun x => x) (fun x => by have := HU0.out.size; omega))⟩

end Go.Proofs.Ytbimkhdiplnbfaa
