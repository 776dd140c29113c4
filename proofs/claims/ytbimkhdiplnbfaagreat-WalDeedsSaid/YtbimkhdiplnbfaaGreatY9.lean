/- Walks: a head's sector. -/
import Derived.Test.YtbimkhdiplnbfaaGreatY8
import Derived.Lib.SmallJoins
set_option linter.unusedVariables false
set_option linter.unusedSimpArgs false
namespace Go.Proofs.YtbimkhdiplnbfaaGreat
set_option maxRecDepth 1000000
set_option maxHeartbeats 16000000
section
open Go.RowKit Go.Joins
def Hd.val (h : Hd) : Value := .agg #[.int .i64 h.turn, .int .i64 h.area, .int .i64 h.place, .int .i64 h.number]
def Hd.nums (h : Hd) : List Int := [h.turn, h.area, h.place, h.number]
def headP (h : Hd) (k : Nat) : List Int := lettersF ++ (h.nums.take k).flatMap (layF · 32)
theorem headP_length (h : Hd) {k : Nat} (hk : k ≤ 4) : (headP h k).length = 8 + 4 * k := by
 have : k = 0 ∨ k = 1 ∨ k = 2 ∨ k = 3 ∨ k = 4 := by omega
 rcases this with rfl | rfl | rfl | rfl | rfl <;> simp [headP, lettersF, Hd.nums, layF_length]
theorem layF_bytes (x : Int) (b : Nat) : Bytes (layF x b) := layF_byte
theorem headP_bytes (h : Hd) (k : Nat) : Bytes (headP h k) := by
 refine Bytes.append ?_ ?_
 ·intro x hx; simp [lettersF] at hx; omega
 ·intro x hx
  rw [List.mem_flatMap] at hx
  obtain ⟨y, _, hy⟩ := hx
  exact layF_byte x hy
theorem headP_last (h : Hd) : sectorF (headP h 4) = headF h := by simp [headP, headF, Hd.nums, List.append_assoc]
theorem headP_step (h : Hd) {k : Nat} {x : Int} (hx : h.nums[k]? = some x) : headP h (k + 1) = headP h k ++ layF x 32 := by
 unfold headP
 rw [List.take_add_one, hx]
 simp
structure Hd.U32 (h : Hd) : Prop where
 turn : 0 ≤ h.turn ∧ h.turn ≤ 4294967295
 area : 0 ≤ h.area ∧ h.area ≤ 4294967295
 place : 0 ≤ h.place ∧ h.place ≤ 4294967295
 number : 0 ≤ h.number ∧ h.number ≤ 4294967295
theorem run_exec_convert {P : Program} {o : Oper} {a : Act} {w w' : World} {x : Operand} {v u : Value} {s t : TypeId} (ho : o.op = .convert s t x) (hx : a.eval x = v) (hr : (convert s t v).run P w = .ok u w') : (execOp a.eval o).run P w = .ok (.value u) w' := by
 unfold execOp
 simp only [ho, hx, Sem.run_bind, hr, Result.andThen_ok, Sem.run_pure]
theorem block_any (h : Hd) (w : World) (hr : h.U32) : Calls Tryz.prog 164 #[h.val] w fun e w' => e = .returned (.agg (bcells (headF h)).toArray) ∧ Upd (fun _ => False) w w' := by
 have hsl : (sectorF (headP h 4)).length = 64 := sectorF_length (by rw [headP_length h (Nat.le_refl 4)]; omega)
 rw [headP_last] at hsl
 have hi : (Tryz.prog.info? 48).map (·.size) = some (bcells (headF h)).length := by rw [Tryz.info56p]; simp [bcells, hsl]
 have H1B := Lib.hid (all_oneCell_toArray (bcells_one (headF h)))
 have HL : RowKit.Hid ((bcells (headF h)).length = 64) := Lib.hid (by simp [bcells, hsl])
 have HI := Lib.hid hi
 have HR : RowKit.Hid (∀ x ∈ h.nums, 0 ≤ x ∧ x ≤ 4294967295) := Lib.hid (fun x hx => by
  simp only [Hd.nums, List.mem_cons, List.not_mem_nil, or_false] at hx
  rcases hx with rfl | rfl | rfl | rfl
  ·exact hr.turn
  ·exact hr.area
  ·exact hr.place
  ·exact hr.number)
 have t1 := hr.turn; have t2 := hr.area; have t3 := hr.place; have t4 := hr.number
 have q1 : IntKind.u32.wrap h.turn = h.turn := by rw [IntKind.wrap_u32]; omega
 have q2 : IntKind.u32.wrap h.area = h.area := by rw [IntKind.wrap_u32]; omega
 have q3 : IntKind.u32.wrap h.place = h.place := by rw [IntKind.wrap_u32]; omega
 have q4 : IntKind.u32.wrap h.number = h.number := by rw [IntKind.wrap_u32]; omega
 have i0 : ∀ W, (Instr.index 270 (.agg #[.int .i64 h.turn, .int .i64 h.area, .int .i64 h.place, .int .i64 h.number]) (.int .i64 0)).run Tryz.prog W = .ok (.int .i64 h.turn) W := fun W => by kernel_rfl
 have i1 : ∀ W, (Instr.index 270 (.agg #[.int .i64 h.turn, .int .i64 h.area, .int .i64 h.place, .int .i64 h.number]) (.int .i64 1)).run Tryz.prog W = .ok (.int .i64 h.area) W := fun W => by kernel_rfl
 have i2 : ∀ W, (Instr.index 270 (.agg #[.int .i64 h.turn, .int .i64 h.area, .int .i64 h.place, .int .i64 h.number]) (.int .i64 2)).run Tryz.prog W = .ok (.int .i64 h.place) W := fun W => by kernel_rfl
 have i3 : ∀ W, (Instr.index 270 (.agg #[.int .i64 h.turn, .int .i64 h.area, .int .i64 h.place, .int .i64 h.number]) (.int .i64 3)).run Tryz.prog W = .ok (.int .i64 h.number) W := fun W => by kernel_rfl
 obtain ⟨hv, hhv⟩ : ∃ hv, hv = bcells (headF h) := ⟨_, rfl⟩
 rw [← hhv] at H1B HL HI ⊢
 have HHV := Lib.hid hhv
 clear hsl hi hr hhv
 unfold Hd.val
 go_enter Tryz.func164, Tryz.ntmps164
 go_upto_region 1 with fail
 iterate 4 go_step
 obtain ⟨w0, hw0⟩ : ∃ w0, w0 = (w.alloc (.cells #[.int .i64 h.turn, .int .i64 h.area, .int .i64 h.place, .int .i64 h.number] 184)).alloc (.cells (bcells zblk).toArray 48) := ⟨_, rfl⟩
 have hsz : w0.heap.size = w.heap.size + 1 + 1 := by rw [hw0]; simp
 have kc := run_convert_bytes_const_at (P := Tryz.prog) w0 39 5 (bcells lettersF).toArray 8 8 (w.heap.size + 1 + 1) hsz.symm Tryz.underlying39 Tryz.underlying5
 refine wpList_exec rfl (run_exec_convert rfl rfl (by rw [hw0] at kc; exact kc)) ?_
 rw [show ((w.alloc (.cells #[.int .i64 h.turn, .int .i64 h.area, .int .i64 h.place, .int .i64 h.number] 184)).alloc (.cells (bcells zblk).toArray 48)) = w0 from hw0.symm]
 obtain ⟨w1, hw1⟩ : ∃ w1, w1 = w0.alloc (.cells (bcells lettersF).toArray 5 ((bcells lettersF).toArray.size, (bcells lettersF).toArray.size + 1)) := ⟨_, rfl⟩
 rw [← hw1]
 have hu1 : Upd (fun _ => False) w w1 := by rw [hw1, hw0]; exact (((Upd.refl _ w).alloc _).alloc _).alloc _
 have hb1 : w1.heap[w.heap.size + 1]? = some (.cells (bcells zblk).toArray 48 (0, 0)) := by rw [hw1, alloc_lt (by omega), hw0]; exact alloc_at (by simp)
 have hh1 : w1.heap[w.heap.size]? = some (.cells #[.int .i64 h.turn, .int .i64 h.area, .int .i64 h.place, .int .i64 h.number] 184 (0, 0)) := by rw [hw1, alloc_lt (by omega), hw0]; exact (alloc_lt (by simp)).trans (alloc_at rfl)
 have hby : BytesIn w1 (.slice (some ⟨w.heap.size + 1 + 1, 0, none⟩) 8 8) (headP h 0) := by
  have e : headP h 0 = lettersF := by simp [headP]
  rw [e]
  refine .inr ⟨⟨w.heap.size + 1 + 1, 0, none⟩, 8, rfl, Nat.le_refl _, by unfold maxLen; omega, fun i u hi => ?_⟩
  rw [Addr.add_mid, Nat.zero_add, hw1, cell_alloc_mark_at w0 _ _ _ _ i hsz.symm]
  simpa using hi
 have HU1 := Lib.hid hu1; have HB1 := Lib.hid hb1; have HBY := Lib.hid hby; have HH1 := Lib.hid hh1
 obtain ⟨d0, d1, d2, d3⟩ : w1.cell? ⟨w.heap.size, 0, none⟩ = some (.int .i64 h.turn) ∧ w1.cell? ⟨w.heap.size, 1, none⟩ = some (.int .i64 h.area) ∧ w1.cell? ⟨w.heap.size, 2, none⟩ = some (.int .i64 h.place) ∧ w1.cell? ⟨w.heap.size, 3, none⟩ = some (.int .i64 h.number) := by simp [World.cell?, hh1]
 clear kc hu1 hb1 hby hh1 hw1 hw0 hsz
 go_upto_region 3 with fail
 clear d0 d1 d2 d3
 go_loopg [3, 17] 4 (fun gk out i wr => ∃ k : Nat, k ≤ 4 ∧ gk = 4 - k ∧ i = .int .i64 k ∧ BytesIn wr out (headP h k) ∧ (0 < k → OwnB wr w1.heap.size out (headP h k)) ∧ Upd (fun _ => False) w1 wr)
 case atStart => exact ⟨0, Nat.zero_le _, rfl, rfl, HBY.out, fun e => by omega, Upd.refl _ _⟩
 case round =>
  obtain ⟨k, hk, rfl, rfl, ho, ho2, hu⟩ := hrel
  have HO := Lib.hid ho; have HO2 := Lib.hid ho2; have HU := Lib.hid hu
  clear ho ho2 hu HBY
  by_cases hk4 : k < 4
  ·have hk4' : k = 0 ∨ k = 1 ∨ k = 2 ∨ k = 3 := by omega
   rcases hk4' with rfl | rfl | rfl | rfl
   ·go_wp2_with (go_at_call 189; fail)
    refine (put32_any (x := h.turn) wr (by rw [headP_length h (by omega)]; omega) HO.out t1).mono ?_
    rintro e w4 ⟨u4, rfl, g1, g2⟩
    rw [← headP_step h (k := 0) (x := h.turn) rfl] at g1
    have G1 : RowKit.Hid (OwnB w4 w1.heap.size u4 (headP h (0 + 1))) := Lib.hid (g1.mono HU.out.size)
    have HU4 := Lib.hid (HU.out.trans g2)
    clear g1 g2
    simp only []
    go_wp2
    go_roundg (4 - (0 + 1))
    case measure => omega
    case rel => exact ⟨0 + 1, by omega, rfl, rfl, G1.out.bytesIn, fun _ => G1.out, HU4.out⟩
   ·go_wp2_with (go_at_call 189; fail)
    refine (put32_any (x := h.area) wr (by rw [headP_length h (by omega)]; omega) HO.out t2).mono ?_
    rintro e w4 ⟨u4, rfl, g1, g2⟩
    rw [← headP_step h (k := 1) (x := h.area) rfl] at g1
    have G1 : RowKit.Hid (OwnB w4 w1.heap.size u4 (headP h (1 + 1))) := Lib.hid (g1.mono HU.out.size)
    have HU4 := Lib.hid (HU.out.trans g2)
    clear g1 g2
    simp only []
    go_wp2
    go_roundg (4 - (1 + 1))
    case measure => omega
    case rel => exact ⟨1 + 1, by omega, rfl, rfl, G1.out.bytesIn, fun _ => G1.out, HU4.out⟩
   ·go_wp2_with (go_at_call 189; fail)
    refine (put32_any (x := h.place) wr (by rw [headP_length h (by omega)]; omega) HO.out t3).mono ?_
    rintro e w4 ⟨u4, rfl, g1, g2⟩
    rw [← headP_step h (k := 2) (x := h.place) rfl] at g1
    have G1 : RowKit.Hid (OwnB w4 w1.heap.size u4 (headP h (2 + 1))) := Lib.hid (g1.mono HU.out.size)
    have HU4 := Lib.hid (HU.out.trans g2)
    clear g1 g2
    simp only []
    go_wp2
    go_roundg (4 - (2 + 1))
    case measure => omega
    case rel => exact ⟨2 + 1, by omega, rfl, rfl, G1.out.bytesIn, fun _ => G1.out, HU4.out⟩
   ·go_wp2_with (go_at_call 189; fail)
    refine (put32_any (x := h.number) wr (by rw [headP_length h (by omega)]; omega) HO.out t4).mono ?_
    rintro e w4 ⟨u4, rfl, g1, g2⟩
    rw [← headP_step h (k := 3) (x := h.number) rfl] at g1
    have G1 : RowKit.Hid (OwnB w4 w1.heap.size u4 (headP h (3 + 1))) := Lib.hid (g1.mono HU.out.size)
    have HU4 := Lib.hid (HU.out.trans g2)
    clear g1 g2
    simp only []
    go_wp2
    go_roundg (4 - (3 + 1))
    case measure => omega
    case rel => exact ⟨3 + 1, by omega, rfl, rfl, G1.out.bytesIn, fun _ => G1.out, HU4.out⟩
  ·obtain rfl : k = 4 := by omega
   go_wp2_with (go_at_call 191; fail)
   refine (sector_any wr (by rw [headP_length h (Nat.le_refl 4)]; omega) (headP_bytes h 4) HU.out.size (HO2.out (by omega))).mono ?_
   rintro e w5 ⟨rfl, hu5⟩
   rw [headP_last, ← HHV.out]
   have hz : (bcells zblk).toArray.size = 64 := by simp [bcells, zblk]
   have hown : ∀ kk, u3.ownBlock = some kk → w1.heap.size ≤ kk := fun kk hkk => (World.ownsRow.lt (HO2.out (by omega)) kk hkk).1
   have hlt := lt_of_heap HB1.out
   have hb5 := (hu5.block _ (Nat.lt_of_lt_of_le hlt HU.out.size) (fun e => by have := hown _ e; omega)).trans ((HU.out.block _ hlt (fun e => e)).trans HB1.out)
   have hth : w5.there (w.heap.size + 1) 0 hv.toArray.size := by
    have := there_block hb5
    rwa [show (bcells zblk).toArray.size = hv.toArray.size by rw [hz]; simp [HL.out]] at this
   have hw := heap_setCells_whole (vs := hv) hb5 (by rw [hz, HL.out])
   have HU5 : RowKit.Hid (Upd (fun _ => False) w w5) := Lib.hid (((HU1.out.trans HU.out).step hu5 (fun k hk e => by have := hown _ e; have := HU1.out.size; omega)))
   have HTH := Lib.hid hth; have HW := Lib.hid hw
   clear hu5 hz hown hlt hb5 hth hw i0 i1 i2 i3
   simp only []
   iterate 1 go_step
   refine wpList_store_mid rfl 48 (.tmp 2) (.tmp 26) rfl (w.heap.size + 1) 0 hv.toArray rfl rfl HTH.out (by rw [HI.out]; simp) H1B.out ?_
   go_wp2
   have hl3 := run_loadVar_mid (P := Tryz.prog) (w5.setCells (w.heap.size + 1) 0 hv) (w.heap.size + 1) 0 48 hv _ (rangeAt_block HW.out) Tryz.underlying48 rfl HI.out
   refine bodyPost_ret (results_cell1 Tryz.results164 rfl hl3) rfl ⟨rfl, ?_⟩
   exact (Upd.setCells (F := fun k => w.heap.size ≤ k) (Nat.le_succ _) hv 0 (HU5.out.mono (fun _ _ e => e.elim))).mono (fun j hj e => by omega)
end
end Go.Proofs.YtbimkhdiplnbfaaGreat
