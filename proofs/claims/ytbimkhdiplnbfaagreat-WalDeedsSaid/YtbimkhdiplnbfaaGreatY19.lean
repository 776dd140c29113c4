/- The register as a value: batches, and batches as bytes; readers of bytes. -/
import Derived.Test.YtbimkhdiplnbfaaGreatY2
import Derived.Test.YtbimkhdiplnbfaaGreatY3
import Derived.Test.YtbimkhdiplnbfaaGreatY5
import Derived.Test.YtbimkhdiplnbfaaGreatY16
import Derived.Test.YtbimkhdiplnbfaaGreatY18
import Derived.Laws.BytesArg
set_option linter.unusedVariables false
set_option linter.unusedSimpArgs false
namespace Go.Proofs.YtbimkhdiplnbfaaGreat
set_option maxRecDepth 1000000
set_option maxHeartbeats 16000000
section
open Go.RowKit
/-! ### Readers -/
/-! ### What is laid is read -/
/-! ### What is read was laid -/
end
section
open Go.RowKit Go.Shelf
def BytesAt (w : World) (C : Nat → Prop) (v : Value) (bs : List Int) : Prop :=
 (v = .slice none 0 0 ∧ bs = []) ∨ ∃ g o c, C g ∧ v = .slice (some ⟨g, o, none⟩) bs.length c ∧ bs.length ≤ c ∧ c ≤ maxLen ∧ ∀ (i : Nat) u, (bcells bs)[i]? = some u → w.cell? ⟨g, o + i, none⟩ = some u
theorem BytesAt.slice {w : World} {C : Nat → Prop} {v : Value} {bs : List Int} (h : BytesAt w C v bs) : ∃ a c, v = .slice a bs.length c ∧ bs.length ≤ c ∧ c ≤ maxLen := by
 rcases h with ⟨rfl, rfl⟩ | ⟨g, o, c, h0, h1, h2, h3, h4⟩
 ·exact ⟨none, 0, rfl, by simp, by unfold maxLen; omega⟩
 ·exact ⟨_, c, h1, h2, h3⟩
theorem size39e (W : World) : (sizeOf (Tryz.prog.elem 39)).run Tryz.prog W = .ok 1 W := by kernel_rfl
theorem elem39 : Tryz.prog.underlying 39 = some (.slice (Tryz.prog.elem 39)) := by kernel_rfl
theorem BytesAt.slice' {w : World} {C : Nat → Prop} {v : Value} {bs : List Int} (h : BytesAt w C v bs) : ∃ a m c, v = .slice a m c := by
 obtain ⟨a, c, h1, _⟩ := h.slice
 exact ⟨a, _, c, h1⟩
theorem run_exec_eqlV {o : Oper} {a : Act} {w : World} {x y : Operand} {rt : TypeId} {xs ys : List Int} (ho : o.op = .binOp .eql 48 x y rt) (hx : a.eval x = .agg (bcells xs).toArray) (hy : a.eval y = .agg (bcells ys).toArray) (h1 : xs.length = 64) (h2 : ys.length = 64) :
  (execOp a.eval o).run Tryz.prog w = .ok (.value (.bool (xs == ys))) w := by
 have hr : (binOp .eql 48 (.agg (bcells xs).toArray) (.agg (bcells ys).toArray)).run Tryz.prog w = .ok (.bool (xs == ys)) w := by
  rw [run_eql_struct, eq_bytes w h1 h2]; rfl
 have hg := run_eqGuard_agg (P := Tryz.prog) w .eql 48 x y (bcells xs).toArray (bcells ys).toArray (by kernel_rfl)
 simp [execOp, ho, hx, hy, hg, hr, Result.andThen]
def be (bs : List Int) : Int := match bs with
 |b0 :: b1 :: b2 :: b3 :: _ => be4 b0 b1 b2 b3 4
 | _ => 0
def readF (bs : List Int) : Hd := ⟨be (bs.drop 8), be (bs.drop 12), be (bs.drop 16), be (bs.drop 20)⟩
structure Hd.Says (h : Hd) : Prop where
 turn : 1 ≤ h.turn ∧ h.turn ≤ 1073741824
 area : 4 ≤ h.area ∧ h.area ≤ 1000
 place : h.place < 2 * h.area
 number : 1 ≤ h.number ∧ h.number ≤ 1073741824
open Classical in
noncomputable def hOk (bs : List Int) : Bool := decide ((readF bs).Says ∧ headF (readF bs) = bs)
theorem hOk_iff (bs : List Int) : hOk bs = true ↔ (readF bs).Says ∧ headF (readF bs) = bs := by simp [hOk]
theorem slice_eight (g : Nat) (W : World) : (Instr.sliceAt 48 (.pointer (some ⟨g, 0, none⟩)) (some (.int .i64 8)) none none).run Tryz.prog W = .ok (.slice (some ⟨g, 8, none⟩) 56 56) W := by
 have hz : (sizeOf (Tryz.prog.elem 48)).run Tryz.prog W = .ok 1 W := by kernel_rfl
 have hu : Tryz.prog.underlying 48 = some (.array (Tryz.prog.arrayLen 48) (Tryz.prog.elem 48)) := by kernel_rfl
 have hn : Tryz.prog.arrayLen 48 = 64 := by kernel_rfl
 rw [run_sliceAt_array_l W 48 _ hu .i64 8 (by omega) (by rw [hn]; omega), hz, hn]
 rfl
theorem split16 {bs : List Int} (h : bs.length = 64) : ∃ p a0 a1 a2 a3 b0 b1 b2 b3 c0 c1 c2 c3 d0 d1 d2 d3 r, bs = p ++ a0 :: a1 :: a2 :: a3 :: b0 :: b1 :: b2 :: b3 :: c0 :: c1 :: c2 :: c3 :: d0 :: d1 :: d2 :: d3 :: r ∧ p.length = 8 := by
 have e : bs = bs.take 8 ++ bs.drop 8 := (List.take_append_drop 8 bs).symm
 have hd : (bs.drop 8).length = 56 := by simp; omega
 have ht : (bs.take 8).length = 8 := by simp; omega
 generalize bs.drop 8 = y at e hd
 generalize bs.take 8 = p at e ht
 match y, hd with
 |a0 :: a1 :: a2 :: a3 :: b0 :: b1 :: b2 :: b3 :: c0 :: c1 :: c2 :: c3 :: d0 :: d1 :: d2 :: d3 :: r, _ => exact ⟨p, a0, a1, a2, a3, b0, b1, b2, b3, c0, c1, c2, c3, d0, d1, d2, d3, r, e, ht⟩
theorem readF_split {p : List Int} (hp : p.length = 8) (a0 a1 a2 a3 b0 b1 b2 b3 c0 c1 c2 c3 d0 d1 d2 d3 : Int) (r : List Int) :
  readF (p ++ a0 :: a1 :: a2 :: a3 :: b0 :: b1 :: b2 :: b3 :: c0 :: c1 :: c2 :: c3 :: d0 :: d1 :: d2 :: d3 :: r) = ⟨be4 a0 a1 a2 a3 4, be4 b0 b1 b2 b3 4, be4 c0 c1 c2 c3 4, be4 d0 d1 d2 d3 4⟩ := by
 match p, hp with
 | [p0, p1, p2, p3, p4, p5, p6, p7], _ => rfl
theorem Tryz.size107r : (Tryz.prog.info? 184).map (·.size) = some 4 := by kernel_rfl
theorem hread_any {bs : List Int} (w : World) (hl : bs.length = 64) (hB : Bytes bs) :
  Calls Tryz.prog 170 #[.agg (bcells bs).toArray] w fun e w' => e = .returned (.tuple #[(readF bs).val, .bool (hOk bs)]) ∧ Upd (fun _ => False) w w' := by
 obtain ⟨p, a0, a1, a2, a3, b0, b1, b2, b3, c0, c1, c2, c3, d0, d1, d2, d3, r, hbs, hp⟩ := split16 hl
 have hh := readF_split hp a0 a1 a2 a3 b0 b1 b2 b3 c0 c1 c2 c3 d0 d1 d2 d3 r
 rw [← hbs] at hh
 have hbl : (bcells bs).length = 64 := by simp [bcells, hl]
 have H1B := Lib.hid (all_oneCell_toArray (bcells_one bs))
 have hi : (Tryz.prog.info? 48).map (·.size) = some (bcells bs).length := by rw [Tryz.info56p, hbl]
 have HI := Lib.hid hi; have HBL := Lib.hid hbl; have HH := Lib.hid hh; have HP := Lib.hid hp; have HBS := Lib.hid hbs; have HB := Lib.hid hB; have HL := Lib.hid hl
 clear hh hp hbl hi hl hB hbs
 have hs := slice_eight w.heap.size
 go_enter Tryz.func170, Tryz.ntmps170
 go_wp2_with (go_at_call 88; fail)
 obtain ⟨W0, hW⟩ : ∃ W0, W0 = (w.alloc (.cells (bcells bs).toArray 48)).alloc (.cells #[.int .i64 0, .int .i64 0, .int .i64 0, .int .i64 0] 184) := ⟨_, rfl⟩
 rw [← hW]
 have hWs : W0.heap.size = w.heap.size + 2 := by rw [hW]; simp
 have hbk : W0.heap[w.heap.size]? = some (.cells (bcells bs).toArray 48 (0, 0)) := by rw [hW]; exact (alloc_lt (by simp)).trans (alloc_at rfl)
 have hhk : W0.heap[w.heap.size + 1]? = some (.cells #[.int .i64 0, .int .i64 0, .int .i64 0, .int .i64 0] 184 (0, 0)) := by rw [hW]; exact alloc_at (by simp)
 have hu : Upd (fun _ => False) w W0 := by rw [hW]; exact ((Upd.refl _ w).alloc _).alloc _
 obtain ⟨y, hy⟩ : ∃ y, y = a0 :: a1 :: a2 :: a3 :: b0 :: b1 :: b2 :: b3 :: c0 :: c1 :: c2 :: c3 :: d0 :: d1 :: d2 :: d3 :: r := ⟨_, rfl⟩
 have hyl : y.length = 56 := by
  have h1 := HL.out; have h2 := HBS.out; have h3 := HP.out
  rw [h2, ← hy] at h1
  simp only [List.length_append] at h1
  omega
 have hin : BytesIn W0 (.slice (some ⟨w.heap.size, 8, none⟩) 56 56) y := by
  refine .inr ⟨⟨w.heap.size, 8, none⟩, 56, by rw [hyl], by omega, by unfold maxLen; omega, fun i u hi => ?_⟩
  rw [Addr.add_mid, cell_of_heap hbk]
  have h2 := HBS.out; have h3 := HP.out
  rw [h2, ← hy, bcells_append]
  have h4 : (bcells p ++ bcells y).toArray[8 + i]? = (bcells y)[i]? := by
   rw [List.getElem?_toArray, List.getElem?_append_right (by simp [bcells, h3])]
   simp [bcells, h3]
  rw [h4, hi]
 have HR1 := Lib.hid (oread_any W0 hin (by rw [hy]; simp) (by omega))
 have HW := Lib.hid hWs; have HBK := Lib.hid hbk; have HHK := Lib.hid hhk; have HU := Lib.hid hu; have HY := Lib.hid hy
 clear hWs hbk hhk hu hy hyl hin hW hs
 refine HR1.out.mono ?_
 rintro e w1 ⟨rfl, h1, h2⟩
 rw [HY.out] at h1
 have H1 := Lib.hid h1; have H2 := Lib.hid h2
 clear h1 h2 HR1
 simp only []
 have hBa : Bytes [a0, a1, a2, a3] := fun x hx => HB.out x (by rw [HBS.out]; simp at hx; rcases hx with rfl | rfl | rfl | rfl <;> simp)
 have hBb : Bytes [b0, b1, b2, b3] := fun x hx => HB.out x (by rw [HBS.out]; simp at hx; rcases hx with rfl | rfl | rfl | rfl <;> simp)
 have hBc : Bytes [c0, c1, c2, c3] := fun x hx => HB.out x (by rw [HBS.out]; simp at hx; rcases hx with rfl | rfl | rfl | rfl <;> simp)
 have hBd : Bytes [d0, d1, d2, d3] := fun x hx => HB.out x (by rw [HBS.out]; simp at hx; rcases hx with rfl | rfl | rfl | rfl <;> simp)
 have K0 : ∀ W rest, Rd W W0.heap.size (a0 :: a1 :: a2 :: a3 :: rest) → Calls Tryz.prog 193 #[.pointer (some ⟨W0.heap.size, 0, none⟩)] W fun e w' => e = .returned (.int .u32 (be4 a0 a1 a2 a3 4)) ∧ Rd w' W0.heap.size rest ∧ Upd (fun k => k = W0.heap.size) W w' := fun W _ h => u32_any W h hBa
 have K1 : ∀ W rest, Rd W W0.heap.size (b0 :: b1 :: b2 :: b3 :: rest) → Calls Tryz.prog 193 #[.pointer (some ⟨W0.heap.size, 0, none⟩)] W fun e w' => e = .returned (.int .u32 (be4 b0 b1 b2 b3 4)) ∧ Rd w' W0.heap.size rest ∧ Upd (fun k => k = W0.heap.size) W w' := fun W _ h => u32_any W h hBb
 have K2 : ∀ W rest, Rd W W0.heap.size (c0 :: c1 :: c2 :: c3 :: rest) → Calls Tryz.prog 193 #[.pointer (some ⟨W0.heap.size, 0, none⟩)] W fun e w' => e = .returned (.int .u32 (be4 c0 c1 c2 c3 4)) ∧ Rd w' W0.heap.size rest ∧ Upd (fun k => k = W0.heap.size) W w' := fun W _ h => u32_any W h hBc
 have K3 : ∀ W rest, Rd W W0.heap.size (d0 :: d1 :: d2 :: d3 :: rest) → Calls Tryz.prog 193 #[.pointer (some ⟨W0.heap.size, 0, none⟩)] W fun e w' => e = .returned (.int .u32 (be4 d0 d1 d2 d3 4)) ∧ Rd w' W0.heap.size rest ∧ Upd (fun k => k = W0.heap.size) W w' := fun W _ h => u32_any W h hBd
 have n0 := be4_bound hBa; have n1 := be4_bound hBb; have n2 := be4_bound hBc; have n3 := be4_bound hBd
 have hh := HH.out
 obtain ⟨x0, hx0⟩ : ∃ x, x = be4 a0 a1 a2 a3 4 := ⟨_, rfl⟩
 obtain ⟨x1, hx1⟩ : ∃ x, x = be4 b0 b1 b2 b3 4 := ⟨_, rfl⟩
 obtain ⟨x2, hx2⟩ : ∃ x, x = be4 c0 c1 c2 c3 4 := ⟨_, rfl⟩
 obtain ⟨x3, hx3⟩ : ∃ x, x = be4 d0 d1 d2 d3 4 := ⟨_, rfl⟩
 rw [← hx0] at K0 n0 hh; rw [← hx1] at K1 n1 hh; rw [← hx2] at K2 n2 hh; rw [← hx3] at K3 n3 hh
 have v0 : IntKind.i64.wrap x0 = x0 := by rw [IntKind.wrap_i64]; omega
 have v1 : IntKind.i64.wrap x1 = x1 := by rw [IntKind.wrap_i64]; omega
 have v2 : IntKind.i64.wrap x2 = x2 := by rw [IntKind.wrap_i64]; omega
 have v3 : IntKind.i64.wrap x3 = x3 := by rw [IntKind.wrap_i64]; omega
 have HK0 := Lib.hid K0; have HK1 := Lib.hid K1; have HK2 := Lib.hid K2; have HK3 := Lib.hid K3; have HHX := Lib.hid hh
 have HN := Lib.hid (And.intro n0 (And.intro n1 (And.intro n2 n3)))
 clear hBa hBb hBc hBd K0 K1 K2 K3 n0 n1 n2 n3 hx0 hx1 hx2 hx3 hh HH
 go_wp2_with (go_at_call 193; fail)
 refine (HK0.out _ _ H1.out).mono ?_
 rintro e w2 ⟨rfl, h1, h2⟩
 have HA := Lib.hid h1; have HUA := Lib.hid h2
 clear h1 h2 H1
 simp only []
 go_wp2_with (go_at_call 193; fail)
 refine (HK1.out _ _ HA.out).mono ?_
 rintro e w3 ⟨rfl, h1, h2⟩
 have HB2 := Lib.hid h1; have HUB := Lib.hid (HUA.out.trans h2)
 clear h1 h2 HA HUA
 simp only []
 go_wp2_with (go_at_call 193; fail)
 refine (HK2.out _ _ HB2.out).mono ?_
 rintro e w4 ⟨rfl, h1, h2⟩
 have HC2 := Lib.hid h1; have HUC := Lib.hid (HUB.out.trans h2)
 clear h1 h2 HB2 HUB
 simp only []
 go_wp2_with (go_at_call 193; fail)
 refine (HK3.out _ _ HC2.out).mono ?_
 rintro e w5 ⟨rfl, h1, h2⟩
 have HUD := Lib.hid (HUC.out.trans h2)
 clear h1 h2 HC2 HUC
 simp only []
 have hu1 : Upd (fun _ => False) w w1 := HU.out.trans H2.out
 have hsz1 := hu1.size
 have hbk1 := (H2.out.block _ (lt_of_heap HBK.out) (fun e => e)).trans HBK.out
 have hhk1 := (H2.out.block _ (lt_of_heap HHK.out) (fun e => e)).trans HHK.out
 have hW2 := HW.out
 have hU5 : Upd (fun _ => False) w w5 := hu1.step HUD.out (fun k hk e => by omega)
 have hbk5 := (HUD.out.block _ (lt_of_heap hbk1) (by omega)).trans hbk1
 have hhk5 := (HUD.out.block _ (lt_of_heap hhk1) (by omega)).trans hhk1
 obtain ⟨w6, hw6⟩ : ∃ w6, w6 = w5.alloc (.cells #[.int .i64 x0, .int .i64 x1, .int .i64 x2, .int .i64 x3] 184) := ⟨_, rfl⟩
 have h56 : Upd (fun _ => False) w5 w6 := by rw [hw6]; exact (Upd.refl _ w5).alloc _
 have h5b : w6.heap[w5.heap.size]? = some (.cells #[.int .i64 x0, .int .i64 x1, .int .i64 x2, .int .i64 x3] 184 (0, 0)) := by rw [hw6]; exact alloc_at rfl
 have HU6 := Lib.hid (hU5.trans h56); have H5 := Lib.hid h5b
 have HBK6 := Lib.hid ((h56.block _ (lt_of_heap hbk5) (fun e => e)).trans hbk5); have HT6 := Lib.hid ((h56.block _ (lt_of_heap hhk5) (fun e => e)).trans hhk5)
 have HSZ : RowKit.Hid (w.heap.size + 1 < w5.heap.size) := Lib.hid (lt_of_heap hhk5)
 have hN := HN.out
 have hxu : (⟨x0, x1, x2, x3⟩ : Hd).U32 := ⟨hN.1, hN.2.1, hN.2.2.1, hN.2.2.2⟩
 have HBC : RowKit.Hid (∀ W, Calls Tryz.prog 164 #[.agg #[.int .i64 x0, .int .i64 x1, .int .i64 x2, .int .i64 x3]] W fun e w' => e = .returned (.agg (bcells (headF ⟨x0, x1, x2, x3⟩)).toArray) ∧ Upd (fun _ => False) W w') := Lib.hid (fun W => block_any ⟨x0, x1, x2, x3⟩ W hxu)
 have HHL : RowKit.Hid ((headF ⟨x0, x1, x2, x3⟩).length = 64) := Lib.hid (headF_ok ⟨x0, x1, x2, x3⟩).1
 have HW6 := Lib.hid hw6
 clear hu1 hsz1 hbk1 hhk1 hW2 hU5 hbk5 hhk5 hw6 h56 h5b hN hxu HK0 HK1 HK2 HK3 HN HB HBS HP HY HUD H2 HHK HBK HU
 go_upto_region 4 with fail
 all_goals rw [← HW6.out]
 all_goals (try (
   have hA : (Upd (fun k => k = w.heap.size + 1) w6 w6.drew ∧ ∃ e0 e1 e2 e3, w6.drew.heap[w.heap.size + 1]? = some (.cells #[e0, e1, e2, e3] 184 (0, 0))) := ⟨(Upd.refl _ w6).drew, _, _, _, _, HT6.out⟩
   refine wp_region_G 9 (fun W => Upd (fun k => k = w.heap.size + 1) w6 W ∧ ∃ e0 e1 e2 e3, W.heap[w.heap.size + 1]? = some (.cells #[e0, e1, e2, e3] 184 (0, 0))) [false, false, false, false, false, false, false, false, false, false] rfl (by kernel_rfl) ?_
   refine wpG_takeT (i := 0) (v := .agg #[.int .i64 x0, .int .i64 x1, .int .i64 x2, .int .i64 x3]) rfl (fun L hc h => (hc.waits (n := 9) (i := 8) (by kernel_rfl) (hc.waits (n := 8) (i := 0) (by kernel_rfl) h))) (by kernel_rfl) (fun _ _ _ h => h) hA (.inl ⟨rfl, fun w5 q1 => ?_⟩) ?_
   ·exact run_load_mid' rfl rfl [.int .i64 x0, .int .i64 x1, .int .i64 x2, .int .i64 x3] (rangeAt_block (cs := [.int .i64 x0, .int .i64 x1, .int .i64 x2, .int .i64 x3]) ((q1.1.block _ (lt_of_heap H5.out) (by have := HSZ.out; omega)).trans H5.out)) Tryz.underlying184 rfl Tryz.size107r
   simp only [Act.put, List.setIfInBounds_toArray, List.set]
   refine wpG_takeT (i := 1) (v := .bool false) rfl (fun L hc h => (hc.waits (n := 9) (i := 7) (by kernel_rfl) (hc.waits (n := 7) (i := 2) (by kernel_rfl) (hc.waits (n := 2) (i := 1) (by kernel_rfl) h)))) (by kernel_rfl) (fun _ _ _ h => h) hA (.inl ⟨rfl, fun w5 q1 => ?_⟩) ?_
   ·go_simp
   simp only [Act.put, List.setIfInBounds_toArray, List.set]
   refine wpG_takeT (i := 2) (v := .bool false) rfl (fun L hc h => (hc.waits (n := 9) (i := 7) (by kernel_rfl) (hc.waits (n := 7) (i := 2) (by kernel_rfl) h))) (by kernel_rfl) (fun _ _ _ h => h) hA (.inl ⟨rfl, fun w5 q1 => ?_⟩) ?_
   ·go_simp
   simp only [Act.put, List.setIfInBounds_toArray, List.set]
   refine wpG_takeT (i := 3) (v := undef) rfl (fun L hc h => (hc.waits (n := 9) (i := 8) (by kernel_rfl) (hc.waits (n := 8) (i := 4) (by kernel_rfl) (hc.waits (n := 4) (i := 3) (by kernel_rfl) h)))) (by kernel_rfl) (fun _ _ _ h => h) hA (.inr ⟨rfl, rfl⟩) ?_
   simp only [Act.put, List.setIfInBounds_toArray, List.set]
   refine wpG_takeT (i := 4) (v := undef) rfl (fun L hc h => (hc.waits (n := 9) (i := 8) (by kernel_rfl) (hc.waits (n := 8) (i := 4) (by kernel_rfl) h))) (by kernel_rfl) (fun _ _ _ h => h) hA (.inr ⟨rfl, rfl⟩) ?_
   simp only [Act.put, List.setIfInBounds_toArray, List.set]
   refine wpG_takeT (i := 5) (v := undef) rfl (fun L hc h => (hc.waits (n := 9) (i := 7) (by kernel_rfl) (hc.waits (n := 7) (i := 6) (by kernel_rfl) (hc.waits (n := 6) (i := 5) (by kernel_rfl) h)))) (by kernel_rfl) (fun _ _ _ h => h) hA (.inr ⟨rfl, rfl⟩) ?_
   simp only [Act.put, List.setIfInBounds_toArray, List.set]
   refine wpG_takeT (i := 6) (v := undef) rfl (fun L hc h => (hc.waits (n := 9) (i := 7) (by kernel_rfl) (hc.waits (n := 7) (i := 6) (by kernel_rfl) h))) (by kernel_rfl) (fun _ _ _ h => h) hA (.inr ⟨rfl, rfl⟩) ?_
   simp only [Act.put, List.setIfInBounds_toArray, List.set]
   refine wpG_takeT (i := 7) (v := .bool false) rfl (fun L hc h => (hc.waits (n := 9) (i := 7) (by kernel_rfl) h)) (by kernel_rfl) (fun _ _ _ h => h) hA (.inl ⟨rfl, fun w5 q1 => ?_⟩) ?_
   ·go_simp
   simp only [Act.put, List.setIfInBounds_toArray, List.set]
   refine wpG_do (i := 8) rfl (by kernel_rfl) rfl (fun K hK => ?_)
   obtain ⟨hAu, e0, e1, e2, e3, hAb⟩ := hA
   refine wp_store_mid 184 (.tmp 2) (.tmp 58) rfl (w.heap.size + 1) 0 #[.int .i64 x0, .int .i64 x1, .int .i64 x2, .int .i64 x3] rfl rfl (by have q := there_block hAb; exact q) Tryz.size107r (by simp [Value.oneCell']) ?_
   have hAv := Upd.setCells (b := w.heap.size + 1) (F := fun k => k = w.heap.size + 1) rfl [.int .i64 x0, .int .i64 x1, .int .i64 x2, .int .i64 x3] 0 hAu
   have hAc := heap_setCells_whole (vs := [.int .i64 x0, .int .i64 x1, .int .i64 x2, .int .i64 x3]) hAb rfl
   refine hK _ _ ⟨hAv, _, _, _, _, hAc⟩ ?_
   clear hK
   simp only [Act.put, List.setIfInBounds_toArray, List.set]
   refine wpG_tail_lit (k := 9) rfl rfl (by kernel_rfl) ?_
   simp only [List.drop]
   have HAV := Lib.hid hAv; have HAC := Lib.hid hAc
   clear hAv hAc hAu hAb
   go_wp2
   have hl3 := run_loadVar_mid (P := Tryz.prog) _ (w.heap.size + 1) 0 184 [.int .i64 x0, .int .i64 x1, .int .i64 x2, .int .i64 x3] _ (rangeAt_block HAC.out) Tryz.underlying184 rfl Tryz.size107r
   refine bodyPost_ret (results_cell_tmp Tryz.results170 rfl hl3) rfl ?_
   have hx := HHX.out
   have ho : hOk bs = false := by
    cases hq : hOk bs with
    |false => rfl
    |true =>
     have := (hOk_iff bs).1 hq
     rw [hx] at this
     obtain ⟨⟨s1, s2, s3, s4⟩, _⟩ := this
     simp only at s1 s2 s3 s4
     omega
   exact ⟨by rw [hx, ho]; rfl, HU6.out.step HAV.out (fun k hk e => by omega)⟩
   ))
 by_cases hq : x3 ≤ 1073741824
 ·simp only [hq, decide_true]
  have hA : (Upd (fun k => k = w.heap.size + 1) w6 w6.drew ∧ ∃ e0 e1 e2 e3, w6.drew.heap[w.heap.size + 1]? = some (.cells #[e0, e1, e2, e3] 184 (0, 0))) := ⟨(Upd.refl _ w6).drew, _, _, _, _, HT6.out⟩
  refine wp_region_G 9 (fun W => Upd (fun k => k = w.heap.size + 1) w6 W ∧ ∃ e0 e1 e2 e3, W.heap[w.heap.size + 1]? = some (.cells #[e0, e1, e2, e3] 184 (0, 0))) [false, false, false, false, false, false, false, false, false, false] rfl (by kernel_rfl) ?_
  refine wpG_takeT (i := 0) (v := .agg #[.int .i64 x0, .int .i64 x1, .int .i64 x2, .int .i64 x3]) rfl (fun L hc h => (hc.waits (n := 9) (i := 8) (by kernel_rfl) (hc.waits (n := 8) (i := 0) (by kernel_rfl) h))) (by kernel_rfl) (fun _ _ _ h => h) hA (.inl ⟨rfl, fun w5 q1 => ?_⟩) ?_
  ·exact run_load_mid' rfl rfl [.int .i64 x0, .int .i64 x1, .int .i64 x2, .int .i64 x3] (rangeAt_block (cs := [.int .i64 x0, .int .i64 x1, .int .i64 x2, .int .i64 x3]) ((q1.1.block _ (lt_of_heap H5.out) (by have := HSZ.out; omega)).trans H5.out)) Tryz.underlying184 rfl Tryz.size107r
  simp only [Act.put, List.setIfInBounds_toArray, List.set]
  refine wpG_takeT (i := 1) (v := .bool true) rfl (fun L hc h => (hc.waits (n := 9) (i := 7) (by kernel_rfl) (hc.waits (n := 7) (i := 2) (by kernel_rfl) (hc.waits (n := 2) (i := 1) (by kernel_rfl) h)))) (by kernel_rfl) (fun _ _ _ h => h) hA (.inl ⟨rfl, fun w5 q1 => ?_⟩) ?_
  ·go_simp
  simp only [Act.put, List.setIfInBounds_toArray, List.set]
  refine wpG_takeT (i := 2) (v := .bool true) rfl (fun L hc h => (hc.waits (n := 9) (i := 7) (by kernel_rfl) (hc.waits (n := 7) (i := 2) (by kernel_rfl) h))) (by kernel_rfl) (fun _ _ _ h => h) hA (.inl ⟨rfl, fun w5 q1 => ?_⟩) ?_
  ·go_simp
  simp only [Act.put, List.setIfInBounds_toArray, List.set]
  refine wpG_takeT (i := 3) (v := .agg #[.int .i64 x0, .int .i64 x1, .int .i64 x2, .int .i64 x3]) rfl (fun L hc h => (hc.waits (n := 9) (i := 8) (by kernel_rfl) (hc.waits (n := 8) (i := 4) (by kernel_rfl) (hc.waits (n := 4) (i := 3) (by kernel_rfl) h)))) (by kernel_rfl) (fun _ _ _ h => h) hA (.inl ⟨rfl, fun w5 q1 => ?_⟩) ?_
  ·exact run_load_mid' rfl rfl [.int .i64 x0, .int .i64 x1, .int .i64 x2, .int .i64 x3] (rangeAt_block (cs := [.int .i64 x0, .int .i64 x1, .int .i64 x2, .int .i64 x3]) ((q1.1.block _ (lt_of_heap H5.out) (by have := HSZ.out; omega)).trans H5.out)) Tryz.underlying184 rfl Tryz.size107r
  simp only [Act.put, List.setIfInBounds_toArray, List.set]
  refine wpG_takeT (i := 5) (v := .agg (bcells bs).toArray) rfl (fun L hc h => (hc.waits (n := 9) (i := 7) (by kernel_rfl) (hc.waits (n := 7) (i := 6) (by kernel_rfl) (hc.waits (n := 6) (i := 5) (by kernel_rfl) h)))) (by kernel_rfl) (fun _ _ _ h => h) hA (.inl ⟨rfl, fun w5 q1 => ?_⟩) ?_
  ·exact run_load_mid' rfl rfl (bcells bs) (rangeAt_block ((q1.1.block _ (lt_of_heap HBK6.out) (by omega)).trans HBK6.out)) Tryz.underlying48 rfl HI.out
  simp only [Act.put, List.setIfInBounds_toArray, List.set]
  refine wpG_doIf (i := 4) rfl (by kernel_rfl) rfl (fun K hK => ?_)
  have HKK := Lib.hid hK
  clear hK
  go_step
  refine (HBC.out _).mono ?_
  rintro e w7 ⟨rfl, hu7⟩
  have hA : (Upd (fun k => k = w.heap.size + 1) w6 w7 ∧ ∃ e0 e1 e2 e3, w7.heap[w.heap.size + 1]? = some (.cells #[e0, e1, e2, e3] 184 (0, 0))) := ⟨hA.1.trans (hu7.mono (fun _ _ e => e.elim)), _, _, _, _, (hu7.block _ (lt_of_heap HT6.out) (fun e => e)).trans HT6.out⟩
  simp only []
  refine HKK.out _ _ hA ?_
  clear HKK hu7
  simp only [List.setIfInBounds_toArray, List.set]
  refine wpG_takeT (i := 6) (v := .bool (headF ⟨x0, x1, x2, x3⟩ == bs)) rfl (fun L hc h => (hc.waits (n := 9) (i := 7) (by kernel_rfl) (hc.waits (n := 7) (i := 6) (by kernel_rfl) h))) (by kernel_rfl) (fun _ _ _ h => h) hA (.inl ⟨rfl, fun w5 q1 => ?_⟩) ?_
  ·exact run_exec_eqlV rfl rfl rfl HHL.out HL.out
  simp only [Act.put, List.setIfInBounds_toArray, List.set]
  refine wpG_takeT (i := 7) (v := .bool (headF ⟨x0, x1, x2, x3⟩ == bs)) rfl (fun L hc h => (hc.waits (n := 9) (i := 7) (by kernel_rfl) h)) (by kernel_rfl) (fun _ _ _ h => h) hA (.inl ⟨rfl, fun w5 q1 => ?_⟩) ?_
  ·go_simp
  simp only [Act.put, List.setIfInBounds_toArray, List.set]
  refine wpG_do (i := 8) rfl (by kernel_rfl) rfl (fun K hK => ?_)
  obtain ⟨hAu, e0, e1, e2, e3, hAb⟩ := hA
  refine wp_store_mid 184 (.tmp 2) (.tmp 58) rfl (w.heap.size + 1) 0 #[.int .i64 x0, .int .i64 x1, .int .i64 x2, .int .i64 x3] rfl rfl (by have q := there_block hAb; exact q) Tryz.size107r (by simp [Value.oneCell']) ?_
  have hAv := Upd.setCells (b := w.heap.size + 1) (F := fun k => k = w.heap.size + 1) rfl [.int .i64 x0, .int .i64 x1, .int .i64 x2, .int .i64 x3] 0 hAu
  have hAc := heap_setCells_whole (vs := [.int .i64 x0, .int .i64 x1, .int .i64 x2, .int .i64 x3]) hAb rfl
  refine hK _ _ ⟨hAv, _, _, _, _, hAc⟩ ?_
  clear hK
  simp only [Act.put, List.setIfInBounds_toArray, List.set]
  refine wpG_tail_lit (k := 9) rfl rfl (by kernel_rfl) ?_
  simp only [List.drop]
  have HAV := Lib.hid hAv; have HAC := Lib.hid hAc
  clear hAv hAc hAu hAb
  go_wp2
  have hl3 := run_loadVar_mid (P := Tryz.prog) _ (w.heap.size + 1) 0 184 [.int .i64 x0, .int .i64 x1, .int .i64 x2, .int .i64 x3] _ (rangeAt_block HAC.out) Tryz.underlying184 rfl Tryz.size107r
  refine bodyPost_ret (results_cell_tmp Tryz.results170 rfl hl3) rfl ?_
  have hx := HHX.out
  have ho : hOk bs = (headF ⟨x0, x1, x2, x3⟩ == bs) := by
   rw [Bool.eq_iff_iff, hOk_iff, hx, beq_iff_eq]
   exact ⟨fun h => h.2, fun h => ⟨⟨⟨by assumption, by assumption⟩, ⟨by assumption, by assumption⟩, by assumption, ⟨by assumption, by assumption⟩⟩, h⟩⟩
  exact ⟨by rw [hx, ho]; rfl, HU6.out.step HAV.out (fun k hk e => by omega)⟩
 ·simp only [hq, decide_false]
  have hA : (Upd (fun k => k = w.heap.size + 1) w6 w6.drew ∧ ∃ e0 e1 e2 e3, w6.drew.heap[w.heap.size + 1]? = some (.cells #[e0, e1, e2, e3] 184 (0, 0))) := ⟨(Upd.refl _ w6).drew, _, _, _, _, HT6.out⟩
  refine wp_region_G 9 (fun W => Upd (fun k => k = w.heap.size + 1) w6 W ∧ ∃ e0 e1 e2 e3, W.heap[w.heap.size + 1]? = some (.cells #[e0, e1, e2, e3] 184 (0, 0))) [false, false, false, false, false, false, false, false, false, false] rfl (by kernel_rfl) ?_
  refine wpG_takeT (i := 0) (v := .agg #[.int .i64 x0, .int .i64 x1, .int .i64 x2, .int .i64 x3]) rfl (fun L hc h => (hc.waits (n := 9) (i := 8) (by kernel_rfl) (hc.waits (n := 8) (i := 0) (by kernel_rfl) h))) (by kernel_rfl) (fun _ _ _ h => h) hA (.inl ⟨rfl, fun w5 q1 => ?_⟩) ?_
  ·exact run_load_mid' rfl rfl [.int .i64 x0, .int .i64 x1, .int .i64 x2, .int .i64 x3] (rangeAt_block (cs := [.int .i64 x0, .int .i64 x1, .int .i64 x2, .int .i64 x3]) ((q1.1.block _ (lt_of_heap H5.out) (by have := HSZ.out; omega)).trans H5.out)) Tryz.underlying184 rfl Tryz.size107r
  simp only [Act.put, List.setIfInBounds_toArray, List.set]
  refine wpG_takeT (i := 1) (v := .bool false) rfl (fun L hc h => (hc.waits (n := 9) (i := 7) (by kernel_rfl) (hc.waits (n := 7) (i := 2) (by kernel_rfl) (hc.waits (n := 2) (i := 1) (by kernel_rfl) h)))) (by kernel_rfl) (fun _ _ _ h => h) hA (.inl ⟨rfl, fun w5 q1 => ?_⟩) ?_
  ·go_simp
  simp only [Act.put, List.setIfInBounds_toArray, List.set]
  refine wpG_takeT (i := 2) (v := .bool false) rfl (fun L hc h => (hc.waits (n := 9) (i := 7) (by kernel_rfl) (hc.waits (n := 7) (i := 2) (by kernel_rfl) h))) (by kernel_rfl) (fun _ _ _ h => h) hA (.inl ⟨rfl, fun w5 q1 => ?_⟩) ?_
  ·go_simp
  simp only [Act.put, List.setIfInBounds_toArray, List.set]
  refine wpG_takeT (i := 3) (v := undef) rfl (fun L hc h => (hc.waits (n := 9) (i := 8) (by kernel_rfl) (hc.waits (n := 8) (i := 4) (by kernel_rfl) (hc.waits (n := 4) (i := 3) (by kernel_rfl) h)))) (by kernel_rfl) (fun _ _ _ h => h) hA (.inr ⟨rfl, rfl⟩) ?_
  simp only [Act.put, List.setIfInBounds_toArray, List.set]
  refine wpG_takeT (i := 4) (v := undef) rfl (fun L hc h => (hc.waits (n := 9) (i := 8) (by kernel_rfl) (hc.waits (n := 8) (i := 4) (by kernel_rfl) h))) (by kernel_rfl) (fun _ _ _ h => h) hA (.inr ⟨rfl, rfl⟩) ?_
  simp only [Act.put, List.setIfInBounds_toArray, List.set]
  refine wpG_takeT (i := 5) (v := undef) rfl (fun L hc h => (hc.waits (n := 9) (i := 7) (by kernel_rfl) (hc.waits (n := 7) (i := 6) (by kernel_rfl) (hc.waits (n := 6) (i := 5) (by kernel_rfl) h)))) (by kernel_rfl) (fun _ _ _ h => h) hA (.inr ⟨rfl, rfl⟩) ?_
  simp only [Act.put, List.setIfInBounds_toArray, List.set]
  refine wpG_takeT (i := 6) (v := undef) rfl (fun L hc h => (hc.waits (n := 9) (i := 7) (by kernel_rfl) (hc.waits (n := 7) (i := 6) (by kernel_rfl) h))) (by kernel_rfl) (fun _ _ _ h => h) hA (.inr ⟨rfl, rfl⟩) ?_
  simp only [Act.put, List.setIfInBounds_toArray, List.set]
  refine wpG_takeT (i := 7) (v := .bool false) rfl (fun L hc h => (hc.waits (n := 9) (i := 7) (by kernel_rfl) h)) (by kernel_rfl) (fun _ _ _ h => h) hA (.inl ⟨rfl, fun w5 q1 => ?_⟩) ?_
  ·go_simp
  simp only [Act.put, List.setIfInBounds_toArray, List.set]
  refine wpG_do (i := 8) rfl (by kernel_rfl) rfl (fun K hK => ?_)
  obtain ⟨hAu, e0, e1, e2, e3, hAb⟩ := hA
  refine wp_store_mid 184 (.tmp 2) (.tmp 58) rfl (w.heap.size + 1) 0 #[.int .i64 x0, .int .i64 x1, .int .i64 x2, .int .i64 x3] rfl rfl (by have q := there_block hAb; exact q) Tryz.size107r (by simp [Value.oneCell']) ?_
  have hAv := Upd.setCells (b := w.heap.size + 1) (F := fun k => k = w.heap.size + 1) rfl [.int .i64 x0, .int .i64 x1, .int .i64 x2, .int .i64 x3] 0 hAu
  have hAc := heap_setCells_whole (vs := [.int .i64 x0, .int .i64 x1, .int .i64 x2, .int .i64 x3]) hAb rfl
  refine hK _ _ ⟨hAv, _, _, _, _, hAc⟩ ?_
  clear hK
  simp only [Act.put, List.setIfInBounds_toArray, List.set]
  refine wpG_tail_lit (k := 9) rfl rfl (by kernel_rfl) ?_
  simp only [List.drop]
  have HAV := Lib.hid hAv; have HAC := Lib.hid hAc
  clear hAv hAc hAu hAb
  go_wp2
  have hl3 := run_loadVar_mid (P := Tryz.prog) _ (w.heap.size + 1) 0 184 [.int .i64 x0, .int .i64 x1, .int .i64 x2, .int .i64 x3] _ (rangeAt_block HAC.out) Tryz.underlying184 rfl Tryz.size107r
  refine bodyPost_ret (results_cell_tmp Tryz.results170 rfl hl3) rfl ?_
  have hx := HHX.out
  have ho : hOk bs = false := by
   cases hq : hOk bs with
   |false => rfl
   |true =>
    have := (hOk_iff bs).1 hq
    rw [hx] at this
    obtain ⟨⟨s1, s2, s3, s4⟩, _⟩ := this
    simp only at s1 s2 s3 s4
    omega
  exact ⟨by rw [hx, ho]; rfl, HU6.out.step HAV.out (fun k hk e => by omega)⟩
noncomputable def countsF (a b : List Int) : Hd × Bool :=
 if hOk a = true ∧ (hOk b = false ∨ (readF b).turn ≤ (readF a).turn) then (readF a, true) else (readF b, hOk b)
theorem counts_any {a b : List Int} (w : World) (ha : a.length = 64) (hb : b.length = 64) (hA : Bytes a) (hB : Bytes b) :
  Calls Tryz.prog 130 #[.agg (bcells a).toArray, .agg (bcells b).toArray] w fun e w' => e = .returned (.tuple #[(countsF a b).1.val, .bool (countsF a b).2]) ∧ Upd (fun _ => False) w w' := by
 obtain ⟨cf, hcf⟩ : ∃ cf, cf = countsF a b := ⟨_, rfl⟩
 have hc1 : ∀ W, Calls Tryz.prog 170 #[.agg (bcells a).toArray] W fun e w' => e = .returned (.tuple #[(readF a).val, .bool (hOk a)]) ∧ Upd (fun _ => False) W w' := fun W => hread_any W ha hA
 have hc2 : ∀ W, Calls Tryz.prog 170 #[.agg (bcells b).toArray] W fun e w' => e = .returned (.tuple #[(readF b).val, .bool (hOk b)]) ∧ Upd (fun _ => False) W w' := fun W => hread_any W hb hB
 unfold countsF at hcf
 rw [show countsF a b = cf by rw [hcf]; rfl]
 have hia : (Tryz.prog.info? 48).map (·.size) = some (bcells a).length := by rw [Tryz.info56p]; simp [bcells, ha]
 have hib : (Tryz.prog.info? 48).map (·.size) = some (bcells b).length := by rw [Tryz.info56p]; simp [bcells, hb]
 have HIA := Lib.hid hia; have HIB := Lib.hid hib
 have H1A := Lib.hid (all_oneCell_toArray (bcells_one a)); have H1B := Lib.hid (all_oneCell_toArray (bcells_one b))
 generalize readF a = x at hcf hc1
 generalize readF b = y at hcf hc2
 generalize hOk a = oa at hcf hc1
 generalize hOk b = ob at hcf hc2
 obtain ⟨x0, x1, x2, x3⟩ := x
 obtain ⟨y0, y1, y2, y3⟩ := y
 simp only [Hd.val] at hc1 hc2
 have HC1 := Lib.hid hc1; have HC2 := Lib.hid hc2; have HCF := Lib.hid hcf
 clear hc1 hc2 hcf hia hib ha hb hA hB
 generalize bcells a = av at *
 generalize bcells b = bv at *
 go_enter Tryz.func130, Tryz.ntmps130
 go_upto_region 1 with fail
 obtain ⟨w1, hw1⟩ : ∃ w1, w1 = ((w.alloc (.cells av.toArray 48)).alloc (.cells bv.toArray 48)).alloc (.cells #[.int .i64 0, .int .i64 0, .int .i64 0, .int .i64 0] 184) := ⟨_, rfl⟩
 rw [← hw1]
 have hba : w1.heap[w.heap.size]? = some (.cells av.toArray 48 (0, 0)) := by rw [hw1]; exact (alloc_lt (by simp <;> omega)).trans ((alloc_lt (by simp)).trans (alloc_at rfl))
 have hbb : w1.heap[w.heap.size + 1]? = some (.cells bv.toArray 48 (0, 0)) := by rw [hw1]; exact (alloc_lt (by simp <;> omega)).trans (alloc_at (by simp))
 have hbt : w1.heap[w.heap.size + 1 + 1]? = some (.cells #[.int .i64 0, .int .i64 0, .int .i64 0, .int .i64 0] 184 (0, 0)) := by rw [hw1]; exact alloc_at (by simp)
 have hu1 : Upd (fun _ => False) w w1 := by rw [hw1]; exact (((Upd.refl _ w).alloc _).alloc _).alloc _
 have HBA := Lib.hid hba; have HBB := Lib.hid hbb; have HBT := Lib.hid hbt; have HU1 := Lib.hid hu1
 clear hba hbb hbt hu1 hw1
 go_step
 refine wpList_load_mid rfl 48 (.tmp 2) rfl w.heap.size 0 rfl av _ (rangeAt_block HBA.out) Tryz.underlying48 rfl HIA.out ?_
 go_wp2_with (go_at_call 170; fail)
 refine (HC1.out _).mono ?_
 rintro e w2 ⟨rfl, hu⟩
 have HBB2 := Lib.hid ((hu.block _ (lt_of_heap HBB.out) (fun e => e)).trans HBB.out); have HBT2 := Lib.hid ((hu.block _ (lt_of_heap HBT.out) (fun e => e)).trans HBT.out); have HU2 := Lib.hid (HU1.out.trans hu)
 clear hu HBB HBT HU1 HC1 HBA
 simp only []
 go_upto_region 2 with fail
 obtain ⟨w3, hw3⟩ : ∃ w3, w3 = w2.alloc (.cells #[.int .i64 x0, .int .i64 x1, .int .i64 x2, .int .i64 x3] 184) := ⟨_, rfl⟩
 rw [← hw3]
 have h23 : Upd (fun _ => False) w2 w3 := by rw [hw3]; exact (Upd.refl _ w2).alloc _
 have hx3 : w3.heap[w2.heap.size]? = some (.cells #[.int .i64 x0, .int .i64 x1, .int .i64 x2, .int .i64 x3] 184 (0, 0)) := by rw [hw3]; exact alloc_at rfl
 have HBB3 := Lib.hid ((h23.block _ (lt_of_heap HBB2.out) (fun e => e)).trans HBB2.out); have HBT3 := Lib.hid ((h23.block _ (lt_of_heap HBT2.out) (fun e => e)).trans HBT2.out); have HU3 := Lib.hid (HU2.out.trans h23); have HX3 := Lib.hid hx3
 clear hw3 h23 hx3 HBB2 HBT2 HU2
 go_step
 refine wpList_load_mid rfl 48 (.tmp 3) rfl (w.heap.size + 1) 0 rfl bv _ (rangeAt_block HBB3.out) Tryz.underlying48 rfl HIB.out ?_
 go_wp2_with (go_at_call 170; fail)
 refine (HC2.out _).mono ?_
 rintro e w4 ⟨rfl, hu⟩
 have HBT4 := Lib.hid ((hu.block _ (lt_of_heap HBT3.out) (fun e => e)).trans HBT3.out); have HX4 := Lib.hid ((hu.block _ (lt_of_heap HX3.out) (fun e => e)).trans HX3.out); have HU4 := Lib.hid (HU3.out.trans hu)
 clear hu HBT3 HX3 HU3 HC2 HBB3
 simp only []
 go_upto_region 3 with fail
 obtain ⟨w5, hw5⟩ : ∃ w5, w5 = w4.alloc (.cells #[.int .i64 y0, .int .i64 y1, .int .i64 y2, .int .i64 y3] 184) := ⟨_, rfl⟩
 rw [← hw5]
 have h45 : Upd (fun _ => False) w4 w5 := by rw [hw5]; exact (Upd.refl _ w4).alloc _
 have hy5 : w5.heap[w4.heap.size]? = some (.cells #[.int .i64 y0, .int .i64 y1, .int .i64 y2, .int .i64 y3] 184 (0, 0)) := by rw [hw5]; exact alloc_at rfl
 have hx5 := (h45.block _ (lt_of_heap HX4.out) (fun e => e)).trans HX4.out
 have hbt5 := (h45.block _ (lt_of_heap HBT4.out) (fun e => e)).trans HBT4.out
 have cx : w5.cell? ⟨w2.heap.size, 0, none⟩ = some (.int .i64 x0) := by simp [World.cell?, hx5]
 have cy : w5.cell? ⟨w4.heap.size, 0, none⟩ = some (.int .i64 y0) := by simp [World.cell?, hy5]
 have HX5 := Lib.hid hx5; have HY5 := Lib.hid hy5; have HT5 := Lib.hid hbt5; have HU5 := Lib.hid (HU4.out.trans h45)
 have hcf := HCF.out
 clear hw5 h45 hy5 hx5 hbt5 HBT4 HX4 HU4 HCF
 have fin : ∀ (z0 z1 z2 z3 : Int), Upd (fun k => k = w.heap.size + 1 + 1) w5 (w5.setCells (w.heap.size + 1 + 1) 0 [.int .i64 z0, .int .i64 z1, .int .i64 z2, .int .i64 z3]) ∧ (w5.setCells (w.heap.size + 1 + 1) 0 [.int .i64 z0, .int .i64 z1, .int .i64 z2, .int .i64 z3]).heap[w.heap.size + 1 + 1]? = some (.cells #[.int .i64 z0, .int .i64 z1, .int .i64 z2, .int .i64 z3] 184 (0, 0)) := fun z0 z1 z2 z3 =>
  ⟨Upd.setCells (b := w.heap.size + 1 + 1) (F := fun k => k = w.heap.size + 1 + 1) rfl _ 0 (Upd.refl _ w5), heap_setCells_whole (vs := [.int .i64 z0, .int .i64 z1, .int .i64 z2, .int .i64 z3]) HT5.out rfl⟩
 have FIN := Lib.hid fin
 clear fin
 by_cases hch : oa = true ∧ (ob = false ∨ y0 ≤ x0)
 ·rw [if_pos hch] at hcf
  obtain ⟨rfl, hch⟩ := hch
  have HCF := Lib.hid hcf
  clear hcf
  cases ob with
  |false =>
   clear hch
   go_upto_region 4 with fail
   go_step
   refine wpList_load_mid rfl 184 (.tmp 6) rfl w2.heap.size 0 rfl [.int .i64 x0, .int .i64 x1, .int .i64 x2, .int .i64 x3] _ (rangeAt_block (cs := [.int .i64 x0, .int .i64 x1, .int .i64 x2, .int .i64 x3]) HX5.out) Tryz.underlying184 rfl Tryz.size107r ?_
   refine wpList_store_mid rfl 184 (.tmp 4) (.tmp 32) rfl (w.heap.size + 1 + 1) 0 #[.int .i64 x0, .int .i64 x1, .int .i64 x2, .int .i64 x3] rfl rfl (by have q := there_block HT5.out; exact q) Tryz.size107r (by simp [Value.oneCell']) ?_
   go_wp2
   have hl3 := run_loadVar_mid (P := Tryz.prog) _ (w.heap.size + 1 + 1) 0 184 [.int .i64 x0, .int .i64 x1, .int .i64 x2, .int .i64 x3] _ (rangeAt_block (FIN.out x0 x1 x2 x3).2) Tryz.underlying184 rfl Tryz.size107r
   refine bodyPost_ret (results_cell_tmp Tryz.results130 rfl hl3) rfl ⟨by rw [HCF.out]; rfl, HU5.out.step (FIN.out x0 x1 x2 x3).1 (fun k hk e => by omega)⟩
  |true =>
   have hge : x0 ≥ y0 := by rcases hch with h | h; cases h; exact h
   clear hch
   go_upto_region 4 with fail
   go_step
   refine wpList_load_mid rfl 184 (.tmp 6) rfl w2.heap.size 0 rfl [.int .i64 x0, .int .i64 x1, .int .i64 x2, .int .i64 x3] _ (rangeAt_block (cs := [.int .i64 x0, .int .i64 x1, .int .i64 x2, .int .i64 x3]) HX5.out) Tryz.underlying184 rfl Tryz.size107r ?_
   refine wpList_store_mid rfl 184 (.tmp 4) (.tmp 32) rfl (w.heap.size + 1 + 1) 0 #[.int .i64 x0, .int .i64 x1, .int .i64 x2, .int .i64 x3] rfl rfl (by have q := there_block HT5.out; exact q) Tryz.size107r (by simp [Value.oneCell']) ?_
   go_wp2
   have hl3 := run_loadVar_mid (P := Tryz.prog) _ (w.heap.size + 1 + 1) 0 184 [.int .i64 x0, .int .i64 x1, .int .i64 x2, .int .i64 x3] _ (rangeAt_block (FIN.out x0 x1 x2 x3).2) Tryz.underlying184 rfl Tryz.size107r
   refine bodyPost_ret (results_cell_tmp Tryz.results130 rfl hl3) rfl ⟨by rw [HCF.out]; rfl, HU5.out.step (FIN.out x0 x1 x2 x3).1 (fun k hk e => by omega)⟩
 ·rw [if_neg hch] at hcf
  have HCF := Lib.hid hcf
  clear hcf
  cases oa with
  |false =>
   clear hch
   go_upto_region 5 with fail
   go_step
   refine wpList_load_mid rfl 184 (.tmp 8) rfl w4.heap.size 0 rfl [.int .i64 y0, .int .i64 y1, .int .i64 y2, .int .i64 y3] _ (rangeAt_block (cs := [.int .i64 y0, .int .i64 y1, .int .i64 y2, .int .i64 y3]) HY5.out) Tryz.underlying184 rfl Tryz.size107r ?_
   iterate 3 go_step
   refine wpList_store_mid rfl 184 (.tmp 4) (.tmp 33) rfl (w.heap.size + 1 + 1) 0 #[.int .i64 y0, .int .i64 y1, .int .i64 y2, .int .i64 y3] rfl rfl (by have q := there_block HT5.out; exact q) Tryz.size107r (by simp [Value.oneCell']) ?_
   go_wp2
   have hl3 := run_loadVar_mid (P := Tryz.prog) _ (w.heap.size + 1 + 1) 0 184 [.int .i64 y0, .int .i64 y1, .int .i64 y2, .int .i64 y3] _ (rangeAt_block (FIN.out y0 y1 y2 y3).2) Tryz.underlying184 rfl Tryz.size107r
   refine bodyPost_ret (results_cell_tmp Tryz.results130 rfl hl3) rfl ⟨by rw [HCF.out]; rfl, HU5.out.step (FIN.out y0 y1 y2 y3).1 (fun k hk e => by omega)⟩
  |true =>
   cases ob with
   |false => exact absurd ⟨rfl, .inl rfl⟩ hch
   |true =>
    have hge : ¬ x0 ≥ y0 := fun h => hch ⟨rfl, .inr h⟩
    clear hch
    go_upto_region 5 with fail
    go_step
    refine wpList_load_mid rfl 184 (.tmp 8) rfl w4.heap.size 0 rfl [.int .i64 y0, .int .i64 y1, .int .i64 y2, .int .i64 y3] _ (rangeAt_block (cs := [.int .i64 y0, .int .i64 y1, .int .i64 y2, .int .i64 y3]) HY5.out) Tryz.underlying184 rfl Tryz.size107r ?_
    iterate 3 go_step
    refine wpList_store_mid rfl 184 (.tmp 4) (.tmp 33) rfl (w.heap.size + 1 + 1) 0 #[.int .i64 y0, .int .i64 y1, .int .i64 y2, .int .i64 y3] rfl rfl (by have q := there_block HT5.out; exact q) Tryz.size107r (by simp [Value.oneCell']) ?_
    go_wp2
    have hl3 := run_loadVar_mid (P := Tryz.prog) _ (w.heap.size + 1 + 1) 0 184 [.int .i64 y0, .int .i64 y1, .int .i64 y2, .int .i64 y3] _ (rangeAt_block (FIN.out y0 y1 y2 y3).2) Tryz.underlying184 rfl Tryz.size107r
    refine bodyPost_ret (results_cell_tmp Tryz.results130 rfl hl3) rfl ⟨by rw [HCF.out]; rfl, HU5.out.step (FIN.out y0 y1 y2 y3).1 (fun k hk e => by omega)⟩
end
section
open Go.RowKit
def overF (b : List Int) (off : Nat) (src : List Int) : List Int := b.take off ++ (src.take (b.length - off) ++ b.drop (off + src.length))
theorem overF_length (b : List Int) (off : Nat) (src : List Int) (h : off ≤ b.length) : (overF b off src).length = b.length := by
 simp only [overF, List.length_append, List.length_take, List.length_drop]; omega
theorem overF_get (b : List Int) (off : Nat) (src : List Int) (h : off ≤ b.length) (j : Nat) : (overF b off src)[j]? = if off ≤ j ∧ j < off + src.length ∧ j < b.length then src[j - off]? else b[j]? := by
 unfold overF
 by_cases h1 : j < off
 ·rw [if_neg (by omega), List.getElem?_append_left (by simp; omega), List.getElem?_take_of_lt h1]
 ·rw [List.getElem?_append_right (by simp; omega)]
  have e : (b.take off).length = off := by simp; omega
  rw [e]
  by_cases h2 : j - off < (src.take (b.length - off)).length
  ·rw [List.getElem?_append_left h2]
   simp only [List.length_take] at h2
   rw [if_pos (by omega), List.getElem?_take_of_lt (by omega)]
  ·rw [List.getElem?_append_right (by omega)]
   simp only [List.length_take] at h2 ⊢
   by_cases h3 : j < b.length
   ·rw [if_neg (by omega), List.getElem?_drop]
    congr 1
    omega
   ·rw [if_neg (by omega), List.getElem?_drop, List.getElem?_eq_none (by omega), List.getElem?_eq_none (by omega)]
theorem leadF_length (turn number : Int) (snap : Bool) (n k : Nat) : (leadF turn number snap n k).length = 12 := by simp [leadF, layF_length]
theorem cutF_length {turn number : Int} {snap : Bool} {b : List Int} {k : Nat} : (cutF turn number snap b k).length = 16 + (allF b k).length := by simp [cutF, leadF_length, layF_length]; omega
theorem allF_len48 {b : List Int} {k : Nat} : (allF b k).length = 48 := by
 unfold allF
 split <;> simp [layF_length] <;> omega
/-! ### What is found -/
def startT (s : List Int) : Int := be s
def startN (s : List Int) : Int := be (s.drop 16)
def startB (s : List Int) : List Int := overF (List.replicate (startN s).toNat 0) 0 (s.drop 20)
def Starts (h : Hd) (left : Int) (s : List Int) : Prop := 1 ≤ startT s ∧ startT s ≤ h.turn ∧ startN s ≤ 40000 ∧ (secsN (startN s).toNat : Int) ≤ left
theorem secsN_pos (n : Nat) : 1 ≤ secsN n := by unfold secsN; omega
def usedOf (l : List (List Int)) : Int := (l.map fun b => (secsN b.length : Int)).sum
theorem usedOf_nil : usedOf [] = 0 := rfl
theorem usedOf_cons (b : List Int) (l : List (List Int)) : usedOf (b :: l) = secsN b.length + usedOf l := by simp [usedOf]
theorem usedOf_append (k l : List (List Int)) : usedOf (k ++ l) = usedOf k + usedOf l := by simp [usedOf]
/-! ### Sectors laid -/
def Hd.laid (h : Hd) : Int × List Int := (h.turn % 2, headF h)
def Dk.S (D : Dk) (i : Int) : List Int := D.shows i.toNat
def fmtX (area : Nat) : Lg := ⟨fmtH area, [[]], 1, false⟩
theorem S_bytes {D : Dk} {K : Nat} (h : D.Ok K) {i : Int} (hi : 0 ≤ i ∧ i < D.arr.length) : okBlk (D.S i) := shows_blk h (by omega)
theorem be_nonneg {bs : List Int} (h : Bytes bs) : 0 ≤ be bs := by
 unfold be
 split
 ·rename_i b0 b1 b2 b3 r
  exact (be4_bound (fun x hx => h x (by simp at hx; rcases hx with rfl | rfl | rfl | rfl <;> simp))).1
 ·omega
end
end Go.Proofs.YtbimkhdiplnbfaaGreat
