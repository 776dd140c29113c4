/- Walks: a head is read. -/
import Derived.Test.YtbimkhdiplnbfaaU2
import Derived.Test.YtbimkhdiplnbfaaU3
import Derived.Test.YtbimkhdiplnbfaaU5
import Derived.Test.YtbimkhdiplnbfaaU17
import Derived.Test.YtbimkhdiplnbfaaU18

section
namespace Go.Proofs.Ytbimkhdiplnbfaa
open Go.RowKit Go.Shelf

theorem run_exec_eqlV {o : Oper} {a : Act} {w : World} {x y : Operand} {rt : TypeId} {xs ys : List Int} (ho : o.op = .binOp .eql 56 x y rt) (hx : a.eval x = .agg (bcells xs).toArray) (hy : a.eval y = .agg (bcells ys).toArray) (h1 : xs.length = 64) (h2 : ys.length = 64) :
    (execOp a.eval o).run Try.prog w = .ok (.value (.bool (xs == ys))) w := by
  have hr : (binOp .eql 56 (.agg (bcells xs).toArray) (.agg (bcells ys).toArray)).run Try.prog w = .ok (.bool (xs == ys)) w := by
    rw [run_eql_struct, eq_bytes w h1 h2]; rfl
  have hg := run_eqGuard_agg (P := Try.prog) w .eql 56 x y (bcells xs).toArray (bcells ys).toArray (by kernel_rfl)
  simp [execOp, ho, hx, hy, hg, hr, Result.andThen]

/-- The number of the first four bytes. -/
def be (bs : List Int) : Int := match bs with
  | b0 :: b1 :: b2 :: b3 :: _ => be4 b0 b1 b2 b3 4
  | _ => 0

/-- What a sector says, read as a head. -/
def readF (bs : List Int) : Hd := ⟨be (bs.drop 8), be (bs.drop 12), be (bs.drop 16), be (bs.drop 20)⟩

structure Hd.Says (h : Hd) : Prop where
  turn : 1 ≤ h.turn ∧ h.turn ≤ 1073741824
  area : 4 ≤ h.area ∧ h.area ≤ 1000
  place : h.place < 2 * h.area
  number : 1 ≤ h.number ∧ h.number ≤ 1073741824

open Classical in
/-- Does a sector say a head? -/
noncomputable def hOk (bs : List Int) : Bool := decide ((readF bs).Says ∧ headF (readF bs) = bs)
theorem hOk_iff (bs : List Int) : hOk bs = true ↔ (readF bs).Says ∧ headF (readF bs) = bs := by simp [hOk]

theorem slice_eight (g : Nat) (W : World) : (Instr.sliceAt 56 (.pointer (some ⟨g, 0, none⟩)) (some (.int .i64 8)) none none).run Try.prog W = .ok (.slice (some ⟨g, 8, none⟩) 56 56) W := by
  have hz : (sizeOf (Try.prog.elem 56)).run Try.prog W = .ok 1 W := by kernel_rfl
  have hu : Try.prog.underlying 56 = some (.array (Try.prog.arrayLen 56) (Try.prog.elem 56)) := by kernel_rfl
  have hn : Try.prog.arrayLen 56 = 64 := by kernel_rfl
  rw [run_sliceAt_array_l W 56 _ hu .i64 8 (by omega) (by rw [hn]; omega), hz, hn]
  rfl

theorem split16 {bs : List Int} (h : bs.length = 64) : ∃ p a0 a1 a2 a3 b0 b1 b2 b3 c0 c1 c2 c3 d0 d1 d2 d3 r, bs = p ++ a0 :: a1 :: a2 :: a3 :: b0 :: b1 :: b2 :: b3 :: c0 :: c1 :: c2 :: c3 :: d0 :: d1 :: d2 :: d3 :: r ∧ p.length = 8 := by
  have e : bs = bs.take 8 ++ bs.drop 8 := (List.take_append_drop 8 bs).symm
  have hd : (bs.drop 8).length = 56 := by simp; omega
  have ht : (bs.take 8).length = 8 := by simp; omega
  generalize bs.drop 8 = y at e hd
  generalize bs.take 8 = p at e ht
  match y, hd with
  | a0 :: a1 :: a2 :: a3 :: b0 :: b1 :: b2 :: b3 :: c0 :: c1 :: c2 :: c3 :: d0 :: d1 :: d2 :: d3 :: r, _ => exact ⟨p, a0, a1, a2, a3, b0, b1, b2, b3, c0, c1, c2, c3, d0, d1, d2, d3, r, e, ht⟩

theorem readF_split {p : List Int} (hp : p.length = 8) (a0 a1 a2 a3 b0 b1 b2 b3 c0 c1 c2 c3 d0 d1 d2 d3 : Int) (r : List Int) :
    readF (p ++ a0 :: a1 :: a2 :: a3 :: b0 :: b1 :: b2 :: b3 :: c0 :: c1 :: c2 :: c3 :: d0 :: d1 :: d2 :: d3 :: r) = ⟨be4 a0 a1 a2 a3 4, be4 b0 b1 b2 b3 4, be4 c0 c1 c2 c3 4, be4 d0 d1 d2 d3 4⟩ := by
  match p, hp with
  | [p0, p1, p2, p3, p4, p5, p6, p7], _ => rfl

theorem Try.size107r : (Try.prog.info? 107).map (·.size) = some 4 := by kernel_rfl

set_option maxRecDepth 100000 in
set_option maxHeartbeats 4000000 in
theorem hread_any {bs : List Int} (w : World) (hl : bs.length = 64) (hB : Bytes bs) :
    Calls Try.prog 110 #[.agg (bcells bs).toArray] w fun e w' => e = .returned (.tuple #[(readF bs).val, .bool (hOk bs)]) ∧ Upd (fun _ => False) w w' := by
  obtain ⟨p, a0, a1, a2, a3, b0, b1, b2, b3, c0, c1, c2, c3, d0, d1, d2, d3, r, hbs, hp⟩ := split16 hl
  have hh := readF_split hp a0 a1 a2 a3 b0 b1 b2 b3 c0 c1 c2 c3 d0 d1 d2 d3 r
  rw [← hbs] at hh
  have hbl : (bcells bs).length = 64 := by simp [bcells, hl]
  have H1B := Lib.hid (all_oneCell_toArray (bcells_one bs))
  have hi : (Try.prog.info? 56).map (·.size) = some (bcells bs).length := by rw [Try.info56p, hbl]
  have HI := Lib.hid hi; have HBL := Lib.hid hbl; have HH := Lib.hid hh; have HP := Lib.hid hp; have HBS := Lib.hid hbs; have HB := Lib.hid hB; have HL := Lib.hid hl
  clear hh hp hbl hi hl hB hbs
  have hs := slice_eight w.heap.size
  go_enter Try.func110, Try.ntmps110
  go_wp2_with (go_at_call 124; fail)
  obtain ⟨W0, hW⟩ : ∃ W0, W0 = (w.alloc (.cells (bcells bs).toArray 56)).alloc (.cells #[.int .i64 0, .int .i64 0, .int .i64 0, .int .i64 0] 107) := ⟨_, rfl⟩
  rw [← hW]
  have hWs : W0.heap.size = w.heap.size + 2 := by rw [hW]; simp
  have hbk : W0.heap[w.heap.size]? = some (.cells (bcells bs).toArray 56 (0, 0)) := by rw [hW]; exact (alloc_lt (by simp)).trans (alloc_at rfl)
  have hhk : W0.heap[w.heap.size + 1]? = some (.cells #[.int .i64 0, .int .i64 0, .int .i64 0, .int .i64 0] 107 (0, 0)) := by rw [hW]; exact alloc_at (by simp)
  have hu : Upd (fun _ => False) w W0 := by rw [hW]; exact ((Upd.refl _ w).alloc _).alloc _
  obtain ⟨y, hy⟩ : ∃ y, y = a0 :: a1 :: a2 :: a3 :: b0 :: b1 :: b2 :: b3 :: c0 :: c1 :: c2 :: c3 :: d0 :: d1 :: d2 :: d3 :: r := ⟨_, rfl⟩
  have hyl : y.length = 56 := by
    have h1 := HL.out; have h2 := HBS.out; have h3 := HP.out
    rw [h2, ← hy] at h1
    simp only [List.length_append] at h1
    omega
  have hin : BytesIn W0 (.slice (some ⟨w.heap.size, 8, none⟩) 56 56) y := by
    refine .inr ⟨⟨w.heap.size, 8, none⟩, 56, by rw [hyl], by omega, by unfold maxLen; omega, fun i u hi => ?_⟩
    rw [Addr.add_mid, cell_of_heap hbk]
    have h2 := HBS.out; have h3 := HP.out
    rw [h2, ← hy, bcells_append]
    have h4 : (bcells p ++ bcells y).toArray[8 + i]? = (bcells y)[i]? := by
      rw [List.getElem?_toArray, List.getElem?_append_right (by simp [bcells, h3])]
      simp [bcells, h3]
    rw [h4, hi]
  have HR1 := Lib.hid (oread_any W0 hin (by rw [hy]; simp) (by omega))
  have HW := Lib.hid hWs; have HBK := Lib.hid hbk; have HHK := Lib.hid hhk; have HU := Lib.hid hu; have HY := Lib.hid hy
  clear hWs hbk hhk hu hy hyl hin hW hs
  refine HR1.out.mono ?_
  rintro e w1 ⟨rfl, h1, h2⟩
  rw [HY.out] at h1
  have H1 := Lib.hid h1; have H2 := Lib.hid h2
  clear h1 h2 HR1
  simp only []
  have hBa : Bytes [a0, a1, a2, a3] := fun x hx => HB.out x (by rw [HBS.out]; simp at hx; rcases hx with rfl | rfl | rfl | rfl <;> simp)
  have hBb : Bytes [b0, b1, b2, b3] := fun x hx => HB.out x (by rw [HBS.out]; simp at hx; rcases hx with rfl | rfl | rfl | rfl <;> simp)
  have hBc : Bytes [c0, c1, c2, c3] := fun x hx => HB.out x (by rw [HBS.out]; simp at hx; rcases hx with rfl | rfl | rfl | rfl <;> simp)
  have hBd : Bytes [d0, d1, d2, d3] := fun x hx => HB.out x (by rw [HBS.out]; simp at hx; rcases hx with rfl | rfl | rfl | rfl <;> simp)
  have K0 : ∀ W rest, Rd W W0.heap.size (a0 :: a1 :: a2 :: a3 :: rest) → Calls Try.prog 125 #[.pointer (some ⟨W0.heap.size, 0, none⟩)] W fun e w' => e = .returned (.int .u32 (be4 a0 a1 a2 a3 4)) ∧ Rd w' W0.heap.size rest ∧ Upd (fun k => k = W0.heap.size) W w' := fun W _ h => u32_any W h hBa
  have K1 : ∀ W rest, Rd W W0.heap.size (b0 :: b1 :: b2 :: b3 :: rest) → Calls Try.prog 125 #[.pointer (some ⟨W0.heap.size, 0, none⟩)] W fun e w' => e = .returned (.int .u32 (be4 b0 b1 b2 b3 4)) ∧ Rd w' W0.heap.size rest ∧ Upd (fun k => k = W0.heap.size) W w' := fun W _ h => u32_any W h hBb
  have K2 : ∀ W rest, Rd W W0.heap.size (c0 :: c1 :: c2 :: c3 :: rest) → Calls Try.prog 125 #[.pointer (some ⟨W0.heap.size, 0, none⟩)] W fun e w' => e = .returned (.int .u32 (be4 c0 c1 c2 c3 4)) ∧ Rd w' W0.heap.size rest ∧ Upd (fun k => k = W0.heap.size) W w' := fun W _ h => u32_any W h hBc
  have K3 : ∀ W rest, Rd W W0.heap.size (d0 :: d1 :: d2 :: d3 :: rest) → Calls Try.prog 125 #[.pointer (some ⟨W0.heap.size, 0, none⟩)] W fun e w' => e = .returned (.int .u32 (be4 d0 d1 d2 d3 4)) ∧ Rd w' W0.heap.size rest ∧ Upd (fun k => k = W0.heap.size) W w' := fun W _ h => u32_any W h hBd
  have n0 := be4_bound hBa; have n1 := be4_bound hBb; have n2 := be4_bound hBc; have n3 := be4_bound hBd
  have hh := HH.out
  obtain ⟨x0, hx0⟩ : ∃ x, x = be4 a0 a1 a2 a3 4 := ⟨_, rfl⟩
  obtain ⟨x1, hx1⟩ : ∃ x, x = be4 b0 b1 b2 b3 4 := ⟨_, rfl⟩
  obtain ⟨x2, hx2⟩ : ∃ x, x = be4 c0 c1 c2 c3 4 := ⟨_, rfl⟩
  obtain ⟨x3, hx3⟩ : ∃ x, x = be4 d0 d1 d2 d3 4 := ⟨_, rfl⟩
  rw [← hx0] at K0 n0 hh; rw [← hx1] at K1 n1 hh; rw [← hx2] at K2 n2 hh; rw [← hx3] at K3 n3 hh
  have v0 : IntKind.i64.wrap x0 = x0 := by rw [IntKind.wrap_i64]; omega
  have v1 : IntKind.i64.wrap x1 = x1 := by rw [IntKind.wrap_i64]; omega
  have v2 : IntKind.i64.wrap x2 = x2 := by rw [IntKind.wrap_i64]; omega
  have v3 : IntKind.i64.wrap x3 = x3 := by rw [IntKind.wrap_i64]; omega
  have HK0 := Lib.hid K0; have HK1 := Lib.hid K1; have HK2 := Lib.hid K2; have HK3 := Lib.hid K3; have HHX := Lib.hid hh
  have HN := Lib.hid (And.intro n0 (And.intro n1 (And.intro n2 n3)))
  clear hBa hBb hBc hBd K0 K1 K2 K3 n0 n1 n2 n3 hx0 hx1 hx2 hx3 hh HH
  go_wp2_with (go_at_call 125; fail)
  refine (HK0.out _ _ H1.out).mono ?_
  rintro e w2 ⟨rfl, h1, h2⟩
  have HA := Lib.hid h1; have HUA := Lib.hid h2
  clear h1 h2 H1
  simp only []
  go_wp2_with (go_at_call 125; fail)
  refine (HK1.out _ _ HA.out).mono ?_
  rintro e w3 ⟨rfl, h1, h2⟩
  have HB2 := Lib.hid h1; have HUB := Lib.hid (HUA.out.trans h2)
  clear h1 h2 HA HUA
  simp only []
  go_wp2_with (go_at_call 125; fail)
  refine (HK2.out _ _ HB2.out).mono ?_
  rintro e w4 ⟨rfl, h1, h2⟩
  have HC2 := Lib.hid h1; have HUC := Lib.hid (HUB.out.trans h2)
  clear h1 h2 HB2 HUB
  simp only []
  go_wp2_with (go_at_call 125; fail)
  refine (HK3.out _ _ HC2.out).mono ?_
  rintro e w5 ⟨rfl, h1, h2⟩
  have HUD := Lib.hid (HUC.out.trans h2)
  clear h1 h2 HC2 HUC
  simp only []
  have hu1 : Upd (fun _ => False) w w1 := HU.out.trans H2.out
  have hsz1 := hu1.size
  have hbk1 := (H2.out.block _ (lt_of_heap HBK.out) (fun e => e)).trans HBK.out
  have hhk1 := (H2.out.block _ (lt_of_heap HHK.out) (fun e => e)).trans HHK.out
  have hW2 := HW.out
  have hU5 : Upd (fun _ => False) w w5 := hu1.step HUD.out (fun k hk e => by omega)
  have hbk5 := (HUD.out.block _ (lt_of_heap hbk1) (by omega)).trans hbk1
  have hhk5 := (HUD.out.block _ (lt_of_heap hhk1) (by omega)).trans hhk1
  obtain ⟨w6, hw6⟩ : ∃ w6, w6 = w5.alloc (.cells #[.int .i64 x0, .int .i64 x1, .int .i64 x2, .int .i64 x3] 107) := ⟨_, rfl⟩
  have h56 : Upd (fun _ => False) w5 w6 := by rw [hw6]; exact (Upd.refl _ w5).alloc _
  have h5b : w6.heap[w5.heap.size]? = some (.cells #[.int .i64 x0, .int .i64 x1, .int .i64 x2, .int .i64 x3] 107 (0, 0)) := by rw [hw6]; exact alloc_at rfl
  have HU6 := Lib.hid (hU5.trans h56); have H5 := Lib.hid h5b
  have HBK6 := Lib.hid ((h56.block _ (lt_of_heap hbk5) (fun e => e)).trans hbk5); have HT6 := Lib.hid ((h56.block _ (lt_of_heap hhk5) (fun e => e)).trans hhk5)
  have HSZ : RowKit.Hid (w.heap.size + 1 < w5.heap.size) := Lib.hid (lt_of_heap hhk5)
  have hN := HN.out
  have hxu : (⟨x0, x1, x2, x3⟩ : Hd).U32 := ⟨hN.1, hN.2.1, hN.2.2.1, hN.2.2.2⟩
  have HBC : RowKit.Hid (∀ W, Calls Try.prog 109 #[.agg #[.int .i64 x0, .int .i64 x1, .int .i64 x2, .int .i64 x3]] W fun e w' => e = .returned (.agg (bcells (headF ⟨x0, x1, x2, x3⟩)).toArray) ∧ Upd (fun _ => False) W w') := Lib.hid (fun W => block_any ⟨x0, x1, x2, x3⟩ W hxu)
  have HHL : RowKit.Hid ((headF ⟨x0, x1, x2, x3⟩).length = 64) := Lib.hid (headF_ok ⟨x0, x1, x2, x3⟩).1
  have HW6 := Lib.hid hw6
  clear hu1 hsz1 hbk1 hhk1 hW2 hU5 hbk5 hhk5 hw6 h56 h5b hN hxu HK0 HK1 HK2 HK3 HN HB HBS HP HY HUD H2 HHK HBK HU
  go_upto_region 4 with fail
  all_goals rw [← HW6.out]
  all_goals (try (
      have hA : (Upd (fun k => k = w.heap.size + 1) w6 w6.drew ∧ ∃ e0 e1 e2 e3, w6.drew.heap[w.heap.size + 1]? = some (.cells #[e0, e1, e2, e3] 107 (0, 0))) := ⟨(Upd.refl _ w6).drew, _, _, _, _, HT6.out⟩
      refine wp_region_G 9 (fun W => Upd (fun k => k = w.heap.size + 1) w6 W ∧ ∃ e0 e1 e2 e3, W.heap[w.heap.size + 1]? = some (.cells #[e0, e1, e2, e3] 107 (0, 0))) [false, false, false, false, false, false, false, false, false, false] rfl (by kernel_rfl) ?_
      refine wpG_takeT (i := 0) (v := .agg #[.int .i64 x0, .int .i64 x1, .int .i64 x2, .int .i64 x3]) rfl (fun L hc h => (hc.waits (n := 9) (i := 8) (by kernel_rfl) (hc.waits (n := 8) (i := 0) (by kernel_rfl) h))) (by kernel_rfl) (fun _ _ _ h => h) hA (.inl ⟨rfl, fun w5 q1 => ?_⟩) ?_
      · exact run_load_mid' rfl rfl [.int .i64 x0, .int .i64 x1, .int .i64 x2, .int .i64 x3] (rangeAt_block (cs := [.int .i64 x0, .int .i64 x1, .int .i64 x2, .int .i64 x3]) ((q1.1.block _ (lt_of_heap H5.out) (by have := HSZ.out; omega)).trans H5.out)) Try.underlying107 rfl Try.size107r
      simp only [Act.put, List.setIfInBounds_toArray, List.set]
      refine wpG_takeT (i := 1) (v := .bool false) rfl (fun L hc h => (hc.waits (n := 9) (i := 7) (by kernel_rfl) (hc.waits (n := 7) (i := 2) (by kernel_rfl) (hc.waits (n := 2) (i := 1) (by kernel_rfl) h)))) (by kernel_rfl) (fun _ _ _ h => h) hA (.inl ⟨rfl, fun w5 q1 => ?_⟩) ?_
      · go_simp
      simp only [Act.put, List.setIfInBounds_toArray, List.set]
      refine wpG_takeT (i := 2) (v := .bool false) rfl (fun L hc h => (hc.waits (n := 9) (i := 7) (by kernel_rfl) (hc.waits (n := 7) (i := 2) (by kernel_rfl) h))) (by kernel_rfl) (fun _ _ _ h => h) hA (.inl ⟨rfl, fun w5 q1 => ?_⟩) ?_
      · go_simp
      simp only [Act.put, List.setIfInBounds_toArray, List.set]
      refine wpG_takeT (i := 3) (v := undef) rfl (fun L hc h => (hc.waits (n := 9) (i := 8) (by kernel_rfl) (hc.waits (n := 8) (i := 4) (by kernel_rfl) (hc.waits (n := 4) (i := 3) (by kernel_rfl) h)))) (by kernel_rfl) (fun _ _ _ h => h) hA (.inr ⟨rfl, rfl⟩) ?_
      simp only [Act.put, List.setIfInBounds_toArray, List.set]
      refine wpG_takeT (i := 4) (v := undef) rfl (fun L hc h => (hc.waits (n := 9) (i := 8) (by kernel_rfl) (hc.waits (n := 8) (i := 4) (by kernel_rfl) h))) (by kernel_rfl) (fun _ _ _ h => h) hA (.inr ⟨rfl, rfl⟩) ?_
      simp only [Act.put, List.setIfInBounds_toArray, List.set]
      refine wpG_takeT (i := 5) (v := undef) rfl (fun L hc h => (hc.waits (n := 9) (i := 7) (by kernel_rfl) (hc.waits (n := 7) (i := 6) (by kernel_rfl) (hc.waits (n := 6) (i := 5) (by kernel_rfl) h)))) (by kernel_rfl) (fun _ _ _ h => h) hA (.inr ⟨rfl, rfl⟩) ?_
      simp only [Act.put, List.setIfInBounds_toArray, List.set]
      refine wpG_takeT (i := 6) (v := undef) rfl (fun L hc h => (hc.waits (n := 9) (i := 7) (by kernel_rfl) (hc.waits (n := 7) (i := 6) (by kernel_rfl) h))) (by kernel_rfl) (fun _ _ _ h => h) hA (.inr ⟨rfl, rfl⟩) ?_
      simp only [Act.put, List.setIfInBounds_toArray, List.set]
      refine wpG_takeT (i := 7) (v := .bool false) rfl (fun L hc h => (hc.waits (n := 9) (i := 7) (by kernel_rfl) h)) (by kernel_rfl) (fun _ _ _ h => h) hA (.inl ⟨rfl, fun w5 q1 => ?_⟩) ?_
      · go_simp
      simp only [Act.put, List.setIfInBounds_toArray, List.set]
      refine wpG_do (i := 8) rfl (by kernel_rfl) rfl (fun K hK => ?_)
      obtain ⟨hAu, e0, e1, e2, e3, hAb⟩ := hA
      refine wp_store_mid 107 (.tmp 2) (.tmp 58) rfl (w.heap.size + 1) 0 #[.int .i64 x0, .int .i64 x1, .int .i64 x2, .int .i64 x3] rfl rfl (by have q := there_block hAb; exact q) Try.size107r (by simp [Value.oneCell']) ?_
      have hAv := Upd.setCells (b := w.heap.size + 1) (F := fun k => k = w.heap.size + 1) rfl [.int .i64 x0, .int .i64 x1, .int .i64 x2, .int .i64 x3] 0 hAu
      have hAc := heap_setCells_whole (vs := [.int .i64 x0, .int .i64 x1, .int .i64 x2, .int .i64 x3]) hAb rfl
      refine hK _ _ ⟨hAv, _, _, _, _, hAc⟩ ?_
      clear hK
      simp only [Act.put, List.setIfInBounds_toArray, List.set]
      refine wpG_tail_lit (k := 9) rfl rfl (by kernel_rfl) ?_
      simp only [List.drop]
      have HAV := Lib.hid hAv; have HAC := Lib.hid hAc
      clear hAv hAc hAu hAb
      go_wp2
      have hl3 := run_loadVar_mid (P := Try.prog) _ (w.heap.size + 1) 0 107 [.int .i64 x0, .int .i64 x1, .int .i64 x2, .int .i64 x3] _ (rangeAt_block HAC.out) Try.underlying107 rfl Try.size107r
      refine bodyPost_ret (results_cell_tmp Try.results110 rfl hl3) rfl ?_
      have hx := HHX.out
      have ho : hOk bs = false := by
        cases hq : hOk bs with
        | false => rfl
        | true =>
          have := (hOk_iff bs).1 hq
          rw [hx] at this
          obtain ⟨⟨s1, s2, s3, s4⟩, _⟩ := this
          simp only at s1 s2 s3 s4
          omega
      exact ⟨by rw [hx, ho]; rfl, HU6.out.step HAV.out (fun k hk e => by omega)⟩
      ))
  by_cases hq : x3 ≤ 1073741824
  · simp only [hq, decide_true]
    have hA : (Upd (fun k => k = w.heap.size + 1) w6 w6.drew ∧ ∃ e0 e1 e2 e3, w6.drew.heap[w.heap.size + 1]? = some (.cells #[e0, e1, e2, e3] 107 (0, 0))) := ⟨(Upd.refl _ w6).drew, _, _, _, _, HT6.out⟩
    refine wp_region_G 9 (fun W => Upd (fun k => k = w.heap.size + 1) w6 W ∧ ∃ e0 e1 e2 e3, W.heap[w.heap.size + 1]? = some (.cells #[e0, e1, e2, e3] 107 (0, 0))) [false, false, false, false, false, false, false, false, false, false] rfl (by kernel_rfl) ?_
    refine wpG_takeT (i := 0) (v := .agg #[.int .i64 x0, .int .i64 x1, .int .i64 x2, .int .i64 x3]) rfl (fun L hc h => (hc.waits (n := 9) (i := 8) (by kernel_rfl) (hc.waits (n := 8) (i := 0) (by kernel_rfl) h))) (by kernel_rfl) (fun _ _ _ h => h) hA (.inl ⟨rfl, fun w5 q1 => ?_⟩) ?_
    · exact run_load_mid' rfl rfl [.int .i64 x0, .int .i64 x1, .int .i64 x2, .int .i64 x3] (rangeAt_block (cs := [.int .i64 x0, .int .i64 x1, .int .i64 x2, .int .i64 x3]) ((q1.1.block _ (lt_of_heap H5.out) (by have := HSZ.out; omega)).trans H5.out)) Try.underlying107 rfl Try.size107r
    simp only [Act.put, List.setIfInBounds_toArray, List.set]
    refine wpG_takeT (i := 1) (v := .bool true) rfl (fun L hc h => (hc.waits (n := 9) (i := 7) (by kernel_rfl) (hc.waits (n := 7) (i := 2) (by kernel_rfl) (hc.waits (n := 2) (i := 1) (by kernel_rfl) h)))) (by kernel_rfl) (fun _ _ _ h => h) hA (.inl ⟨rfl, fun w5 q1 => ?_⟩) ?_
    · go_simp
    simp only [Act.put, List.setIfInBounds_toArray, List.set]
    refine wpG_takeT (i := 2) (v := .bool true) rfl (fun L hc h => (hc.waits (n := 9) (i := 7) (by kernel_rfl) (hc.waits (n := 7) (i := 2) (by kernel_rfl) h))) (by kernel_rfl) (fun _ _ _ h => h) hA (.inl ⟨rfl, fun w5 q1 => ?_⟩) ?_
    · go_simp
    simp only [Act.put, List.setIfInBounds_toArray, List.set]
    refine wpG_takeT (i := 3) (v := .agg #[.int .i64 x0, .int .i64 x1, .int .i64 x2, .int .i64 x3]) rfl (fun L hc h => (hc.waits (n := 9) (i := 8) (by kernel_rfl) (hc.waits (n := 8) (i := 4) (by kernel_rfl) (hc.waits (n := 4) (i := 3) (by kernel_rfl) h)))) (by kernel_rfl) (fun _ _ _ h => h) hA (.inl ⟨rfl, fun w5 q1 => ?_⟩) ?_
    · exact run_load_mid' rfl rfl [.int .i64 x0, .int .i64 x1, .int .i64 x2, .int .i64 x3] (rangeAt_block (cs := [.int .i64 x0, .int .i64 x1, .int .i64 x2, .int .i64 x3]) ((q1.1.block _ (lt_of_heap H5.out) (by have := HSZ.out; omega)).trans H5.out)) Try.underlying107 rfl Try.size107r
    simp only [Act.put, List.setIfInBounds_toArray, List.set]
    refine wpG_takeT (i := 5) (v := .agg (bcells bs).toArray) rfl (fun L hc h => (hc.waits (n := 9) (i := 7) (by kernel_rfl) (hc.waits (n := 7) (i := 6) (by kernel_rfl) (hc.waits (n := 6) (i := 5) (by kernel_rfl) h)))) (by kernel_rfl) (fun _ _ _ h => h) hA (.inl ⟨rfl, fun w5 q1 => ?_⟩) ?_
    · exact run_load_mid' rfl rfl (bcells bs) (rangeAt_block ((q1.1.block _ (lt_of_heap HBK6.out) (by omega)).trans HBK6.out)) Try.underlying56 rfl HI.out
    simp only [Act.put, List.setIfInBounds_toArray, List.set]
    refine wpG_doIf (i := 4) rfl (by kernel_rfl) rfl (fun K hK => ?_)
    have HKK := Lib.hid hK
    clear hK
    go_step
    refine (HBC.out _).mono ?_
    rintro e w7 ⟨rfl, hu7⟩
    have hA : (Upd (fun k => k = w.heap.size + 1) w6 w7 ∧ ∃ e0 e1 e2 e3, w7.heap[w.heap.size + 1]? = some (.cells #[e0, e1, e2, e3] 107 (0, 0))) := ⟨hA.1.trans (hu7.mono (fun _ _ e => e.elim)), _, _, _, _, (hu7.block _ (lt_of_heap HT6.out) (fun e => e)).trans HT6.out⟩
    simp only []
    refine HKK.out _ _ hA ?_
    clear HKK hu7
    simp only [List.setIfInBounds_toArray, List.set]
    refine wpG_takeT (i := 6) (v := .bool (headF ⟨x0, x1, x2, x3⟩ == bs)) rfl (fun L hc h => (hc.waits (n := 9) (i := 7) (by kernel_rfl) (hc.waits (n := 7) (i := 6) (by kernel_rfl) h))) (by kernel_rfl) (fun _ _ _ h => h) hA (.inl ⟨rfl, fun w5 q1 => ?_⟩) ?_
    · exact run_exec_eqlV rfl rfl rfl HHL.out HL.out
    simp only [Act.put, List.setIfInBounds_toArray, List.set]
    refine wpG_takeT (i := 7) (v := .bool (headF ⟨x0, x1, x2, x3⟩ == bs)) rfl (fun L hc h => (hc.waits (n := 9) (i := 7) (by kernel_rfl) h)) (by kernel_rfl) (fun _ _ _ h => h) hA (.inl ⟨rfl, fun w5 q1 => ?_⟩) ?_
    · go_simp
    simp only [Act.put, List.setIfInBounds_toArray, List.set]
    refine wpG_do (i := 8) rfl (by kernel_rfl) rfl (fun K hK => ?_)
    obtain ⟨hAu, e0, e1, e2, e3, hAb⟩ := hA
    refine wp_store_mid 107 (.tmp 2) (.tmp 58) rfl (w.heap.size + 1) 0 #[.int .i64 x0, .int .i64 x1, .int .i64 x2, .int .i64 x3] rfl rfl (by have q := there_block hAb; exact q) Try.size107r (by simp [Value.oneCell']) ?_
    have hAv := Upd.setCells (b := w.heap.size + 1) (F := fun k => k = w.heap.size + 1) rfl [.int .i64 x0, .int .i64 x1, .int .i64 x2, .int .i64 x3] 0 hAu
    have hAc := heap_setCells_whole (vs := [.int .i64 x0, .int .i64 x1, .int .i64 x2, .int .i64 x3]) hAb rfl
    refine hK _ _ ⟨hAv, _, _, _, _, hAc⟩ ?_
    clear hK
    simp only [Act.put, List.setIfInBounds_toArray, List.set]
    refine wpG_tail_lit (k := 9) rfl rfl (by kernel_rfl) ?_
    simp only [List.drop]
    have HAV := Lib.hid hAv; have HAC := Lib.hid hAc
    clear hAv hAc hAu hAb
    go_wp2
    have hl3 := run_loadVar_mid (P := Try.prog) _ (w.heap.size + 1) 0 107 [.int .i64 x0, .int .i64 x1, .int .i64 x2, .int .i64 x3] _ (rangeAt_block HAC.out) Try.underlying107 rfl Try.size107r
    refine bodyPost_ret (results_cell_tmp Try.results110 rfl hl3) rfl ?_
    have hx := HHX.out
    have ho : hOk bs = (headF ⟨x0, x1, x2, x3⟩ == bs) := by
      rw [Bool.eq_iff_iff, hOk_iff, hx, beq_iff_eq]
      exact ⟨fun h => h.2, fun h => ⟨⟨⟨by assumption, by assumption⟩, ⟨by assumption, by assumption⟩, by assumption, ⟨by assumption, by assumption⟩⟩, h⟩⟩
    exact ⟨by rw [hx, ho]; rfl, HU6.out.step HAV.out (fun k hk e => by omega)⟩
  · simp only [hq, decide_false]
    have hA : (Upd (fun k => k = w.heap.size + 1) w6 w6.drew ∧ ∃ e0 e1 e2 e3, w6.drew.heap[w.heap.size + 1]? = some (.cells #[e0, e1, e2, e3] 107 (0, 0))) := ⟨(Upd.refl _ w6).drew, _, _, _, _, HT6.out⟩
    refine wp_region_G 9 (fun W => Upd (fun k => k = w.heap.size + 1) w6 W ∧ ∃ e0 e1 e2 e3, W.heap[w.heap.size + 1]? = some (.cells #[e0, e1, e2, e3] 107 (0, 0))) [false, false, false, false, false, false, false, false, false, false] rfl (by kernel_rfl) ?_
    refine wpG_takeT (i := 0) (v := .agg #[.int .i64 x0, .int .i64 x1, .int .i64 x2, .int .i64 x3]) rfl (fun L hc h => (hc.waits (n := 9) (i := 8) (by kernel_rfl) (hc.waits (n := 8) (i := 0) (by kernel_rfl) h))) (by kernel_rfl) (fun _ _ _ h => h) hA (.inl ⟨rfl, fun w5 q1 => ?_⟩) ?_
    · exact run_load_mid' rfl rfl [.int .i64 x0, .int .i64 x1, .int .i64 x2, .int .i64 x3] (rangeAt_block (cs := [.int .i64 x0, .int .i64 x1, .int .i64 x2, .int .i64 x3]) ((q1.1.block _ (lt_of_heap H5.out) (by have := HSZ.out; omega)).trans H5.out)) Try.underlying107 rfl Try.size107r
    simp only [Act.put, List.setIfInBounds_toArray, List.set]
    refine wpG_takeT (i := 1) (v := .bool false) rfl (fun L hc h => (hc.waits (n := 9) (i := 7) (by kernel_rfl) (hc.waits (n := 7) (i := 2) (by kernel_rfl) (hc.waits (n := 2) (i := 1) (by kernel_rfl) h)))) (by kernel_rfl) (fun _ _ _ h => h) hA (.inl ⟨rfl, fun w5 q1 => ?_⟩) ?_
    · go_simp
    simp only [Act.put, List.setIfInBounds_toArray, List.set]
    refine wpG_takeT (i := 2) (v := .bool false) rfl (fun L hc h => (hc.waits (n := 9) (i := 7) (by kernel_rfl) (hc.waits (n := 7) (i := 2) (by kernel_rfl) h))) (by kernel_rfl) (fun _ _ _ h => h) hA (.inl ⟨rfl, fun w5 q1 => ?_⟩) ?_
    · go_simp
    simp only [Act.put, List.setIfInBounds_toArray, List.set]
    refine wpG_takeT (i := 3) (v := undef) rfl (fun L hc h => (hc.waits (n := 9) (i := 8) (by kernel_rfl) (hc.waits (n := 8) (i := 4) (by kernel_rfl) (hc.waits (n := 4) (i := 3) (by kernel_rfl) h)))) (by kernel_rfl) (fun _ _ _ h => h) hA (.inr ⟨rfl, rfl⟩) ?_
    simp only [Act.put, List.setIfInBounds_toArray, List.set]
    refine wpG_takeT (i := 4) (v := undef) rfl (fun L hc h => (hc.waits (n := 9) (i := 8) (by kernel_rfl) (hc.waits (n := 8) (i := 4) (by kernel_rfl) h))) (by kernel_rfl) (fun _ _ _ h => h) hA (.inr ⟨rfl, rfl⟩) ?_
    simp only [Act.put, List.setIfInBounds_toArray, List.set]
    refine wpG_takeT (i := 5) (v := undef) rfl (fun L hc h => (hc.waits (n := 9) (i := 7) (by kernel_rfl) (hc.waits (n := 7) (i := 6) (by kernel_rfl) (hc.waits (n := 6) (i := 5) (by kernel_rfl) h)))) (by kernel_rfl) (fun _ _ _ h => h) hA (.inr ⟨rfl, rfl⟩) ?_
    simp only [Act.put, List.setIfInBounds_toArray, List.set]
    refine wpG_takeT (i := 6) (v := undef) rfl (fun L hc h => (hc.waits (n := 9) (i := 7) (by kernel_rfl) (hc.waits (n := 7) (i := 6) (by kernel_rfl) h))) (by kernel_rfl) (fun _ _ _ h => h) hA (.inr ⟨rfl, rfl⟩) ?_
    simp only [Act.put, List.setIfInBounds_toArray, List.set]
    refine wpG_takeT (i := 7) (v := .bool false) rfl (fun L hc h => (hc.waits (n := 9) (i := 7) (by kernel_rfl) h)) (by kernel_rfl) (fun _ _ _ h => h) hA (.inl ⟨rfl, fun w5 q1 => ?_⟩) ?_
    · go_simp
    simp only [Act.put, List.setIfInBounds_toArray, List.set]
    refine wpG_do (i := 8) rfl (by kernel_rfl) rfl (fun K hK => ?_)
    obtain ⟨hAu, e0, e1, e2, e3, hAb⟩ := hA
    refine wp_store_mid 107 (.tmp 2) (.tmp 58) rfl (w.heap.size + 1) 0 #[.int .i64 x0, .int .i64 x1, .int .i64 x2, .int .i64 x3] rfl rfl (by have q := there_block hAb; exact q) Try.size107r (by simp [Value.oneCell']) ?_
    have hAv := Upd.setCells (b := w.heap.size + 1) (F := fun k => k = w.heap.size + 1) rfl [.int .i64 x0, .int .i64 x1, .int .i64 x2, .int .i64 x3] 0 hAu
    have hAc := heap_setCells_whole (vs := [.int .i64 x0, .int .i64 x1, .int .i64 x2, .int .i64 x3]) hAb rfl
    refine hK _ _ ⟨hAv, _, _, _, _, hAc⟩ ?_
    clear hK
    simp only [Act.put, List.setIfInBounds_toArray, List.set]
    refine wpG_tail_lit (k := 9) rfl rfl (by kernel_rfl) ?_
    simp only [List.drop]
    have HAV := Lib.hid hAv; have HAC := Lib.hid hAc
    clear hAv hAc hAu hAb
    go_wp2
    have hl3 := run_loadVar_mid (P := Try.prog) _ (w.heap.size + 1) 0 107 [.int .i64 x0, .int .i64 x1, .int .i64 x2, .int .i64 x3] _ (rangeAt_block HAC.out) Try.underlying107 rfl Try.size107r
    refine bodyPost_ret (results_cell_tmp Try.results110 rfl hl3) rfl ?_
    have hx := HHX.out
    have ho : hOk bs = false := by
      cases hq : hOk bs with
      | false => rfl
      | true =>
        have := (hOk_iff bs).1 hq
        rw [hx] at this
        obtain ⟨⟨s1, s2, s3, s4⟩, _⟩ := this
        simp only at s1 s2 s3 s4
        omega
    exact ⟨by rw [hx, ho]; rfl, HU6.out.step HAV.out (fun k hk e => by omega)⟩

end Go.Proofs.Ytbimkhdiplnbfaa
end

section
namespace Go.Proofs.Ytbimkhdiplnbfaa
open Go.RowKit Go.Shelf

/-- The head that counts, of two sectors. -/
noncomputable def countsF (a b : List Int) : Hd × Bool :=
  if hOk a = true ∧ (hOk b = false ∨ (readF b).turn ≤ (readF a).turn) then (readF a, true) else (readF b, hOk b)

set_option maxRecDepth 100000 in
set_option maxHeartbeats 4000000 in
theorem counts_any {a b : List Int} (w : World) (ha : a.length = 64) (hb : b.length = 64) (hA : Bytes a) (hB : Bytes b) :
    Calls Try.prog 71 #[.agg (bcells a).toArray, .agg (bcells b).toArray] w fun e w' => e = .returned (.tuple #[(countsF a b).1.val, .bool (countsF a b).2]) ∧ Upd (fun _ => False) w w' := by
  obtain ⟨cf, hcf⟩ : ∃ cf, cf = countsF a b := ⟨_, rfl⟩
  have hc1 : ∀ W, Calls Try.prog 110 #[.agg (bcells a).toArray] W fun e w' => e = .returned (.tuple #[(readF a).val, .bool (hOk a)]) ∧ Upd (fun _ => False) W w' := fun W => hread_any W ha hA
  have hc2 : ∀ W, Calls Try.prog 110 #[.agg (bcells b).toArray] W fun e w' => e = .returned (.tuple #[(readF b).val, .bool (hOk b)]) ∧ Upd (fun _ => False) W w' := fun W => hread_any W hb hB
  unfold countsF at hcf
  rw [show countsF a b = cf by rw [hcf]; rfl]
  have hia : (Try.prog.info? 56).map (·.size) = some (bcells a).length := by rw [Try.info56p]; simp [bcells, ha]
  have hib : (Try.prog.info? 56).map (·.size) = some (bcells b).length := by rw [Try.info56p]; simp [bcells, hb]
  have HIA := Lib.hid hia; have HIB := Lib.hid hib
  have H1A := Lib.hid (all_oneCell_toArray (bcells_one a)); have H1B := Lib.hid (all_oneCell_toArray (bcells_one b))
  generalize readF a = x at hcf hc1
  generalize readF b = y at hcf hc2
  generalize hOk a = oa at hcf hc1
  generalize hOk b = ob at hcf hc2
  obtain ⟨x0, x1, x2, x3⟩ := x
  obtain ⟨y0, y1, y2, y3⟩ := y
  simp only [Hd.val] at hc1 hc2
  have HC1 := Lib.hid hc1; have HC2 := Lib.hid hc2; have HCF := Lib.hid hcf
  clear hc1 hc2 hcf hia hib ha hb hA hB
  generalize bcells a = av at *
  generalize bcells b = bv at *
  go_enter Try.func71, Try.ntmps71
  go_upto_region 1 with fail
  obtain ⟨w1, hw1⟩ : ∃ w1, w1 = ((w.alloc (.cells av.toArray 56)).alloc (.cells bv.toArray 56)).alloc (.cells #[.int .i64 0, .int .i64 0, .int .i64 0, .int .i64 0] 107) := ⟨_, rfl⟩
  rw [← hw1]
  have hba : w1.heap[w.heap.size]? = some (.cells av.toArray 56 (0, 0)) := by rw [hw1]; exact (alloc_lt (by simp <;> omega)).trans ((alloc_lt (by simp)).trans (alloc_at rfl))
  have hbb : w1.heap[w.heap.size + 1]? = some (.cells bv.toArray 56 (0, 0)) := by rw [hw1]; exact (alloc_lt (by simp <;> omega)).trans (alloc_at (by simp))
  have hbt : w1.heap[w.heap.size + 1 + 1]? = some (.cells #[.int .i64 0, .int .i64 0, .int .i64 0, .int .i64 0] 107 (0, 0)) := by rw [hw1]; exact alloc_at (by simp)
  have hu1 : Upd (fun _ => False) w w1 := by rw [hw1]; exact (((Upd.refl _ w).alloc _).alloc _).alloc _
  have HBA := Lib.hid hba; have HBB := Lib.hid hbb; have HBT := Lib.hid hbt; have HU1 := Lib.hid hu1
  clear hba hbb hbt hu1 hw1
  go_step
  refine wpList_load_mid rfl 56 (.tmp 2) rfl w.heap.size 0 rfl av _ (rangeAt_block HBA.out) Try.underlying56 rfl HIA.out ?_
  go_wp2_with (go_at_call 110; fail)
  refine (HC1.out _).mono ?_
  rintro e w2 ⟨rfl, hu⟩
  have HBB2 := Lib.hid ((hu.block _ (lt_of_heap HBB.out) (fun e => e)).trans HBB.out); have HBT2 := Lib.hid ((hu.block _ (lt_of_heap HBT.out) (fun e => e)).trans HBT.out); have HU2 := Lib.hid (HU1.out.trans hu)
  clear hu HBB HBT HU1 HC1 HBA
  simp only []
  go_upto_region 2 with fail
  obtain ⟨w3, hw3⟩ : ∃ w3, w3 = w2.alloc (.cells #[.int .i64 x0, .int .i64 x1, .int .i64 x2, .int .i64 x3] 107) := ⟨_, rfl⟩
  rw [← hw3]
  have h23 : Upd (fun _ => False) w2 w3 := by rw [hw3]; exact (Upd.refl _ w2).alloc _
  have hx3 : w3.heap[w2.heap.size]? = some (.cells #[.int .i64 x0, .int .i64 x1, .int .i64 x2, .int .i64 x3] 107 (0, 0)) := by rw [hw3]; exact alloc_at rfl
  have HBB3 := Lib.hid ((h23.block _ (lt_of_heap HBB2.out) (fun e => e)).trans HBB2.out); have HBT3 := Lib.hid ((h23.block _ (lt_of_heap HBT2.out) (fun e => e)).trans HBT2.out); have HU3 := Lib.hid (HU2.out.trans h23); have HX3 := Lib.hid hx3
  clear hw3 h23 hx3 HBB2 HBT2 HU2
  go_step
  refine wpList_load_mid rfl 56 (.tmp 3) rfl (w.heap.size + 1) 0 rfl bv _ (rangeAt_block HBB3.out) Try.underlying56 rfl HIB.out ?_
  go_wp2_with (go_at_call 110; fail)
  refine (HC2.out _).mono ?_
  rintro e w4 ⟨rfl, hu⟩
  have HBT4 := Lib.hid ((hu.block _ (lt_of_heap HBT3.out) (fun e => e)).trans HBT3.out); have HX4 := Lib.hid ((hu.block _ (lt_of_heap HX3.out) (fun e => e)).trans HX3.out); have HU4 := Lib.hid (HU3.out.trans hu)
  clear hu HBT3 HX3 HU3 HC2 HBB3
  simp only []
  go_upto_region 3 with fail
  obtain ⟨w5, hw5⟩ : ∃ w5, w5 = w4.alloc (.cells #[.int .i64 y0, .int .i64 y1, .int .i64 y2, .int .i64 y3] 107) := ⟨_, rfl⟩
  rw [← hw5]
  have h45 : Upd (fun _ => False) w4 w5 := by rw [hw5]; exact (Upd.refl _ w4).alloc _
  have hy5 : w5.heap[w4.heap.size]? = some (.cells #[.int .i64 y0, .int .i64 y1, .int .i64 y2, .int .i64 y3] 107 (0, 0)) := by rw [hw5]; exact alloc_at rfl
  have hx5 := (h45.block _ (lt_of_heap HX4.out) (fun e => e)).trans HX4.out
  have hbt5 := (h45.block _ (lt_of_heap HBT4.out) (fun e => e)).trans HBT4.out
  have cx : w5.cell? ⟨w2.heap.size, 0, none⟩ = some (.int .i64 x0) := by simp [World.cell?, hx5]
  have cy : w5.cell? ⟨w4.heap.size, 0, none⟩ = some (.int .i64 y0) := by simp [World.cell?, hy5]
  have HX5 := Lib.hid hx5; have HY5 := Lib.hid hy5; have HT5 := Lib.hid hbt5; have HU5 := Lib.hid (HU4.out.trans h45)
  have hcf := HCF.out
  clear hw5 h45 hy5 hx5 hbt5 HBT4 HX4 HU4 HCF
  have fin : ∀ (z0 z1 z2 z3 : Int), Upd (fun k => k = w.heap.size + 1 + 1) w5 (w5.setCells (w.heap.size + 1 + 1) 0 [.int .i64 z0, .int .i64 z1, .int .i64 z2, .int .i64 z3]) ∧ (w5.setCells (w.heap.size + 1 + 1) 0 [.int .i64 z0, .int .i64 z1, .int .i64 z2, .int .i64 z3]).heap[w.heap.size + 1 + 1]? = some (.cells #[.int .i64 z0, .int .i64 z1, .int .i64 z2, .int .i64 z3] 107 (0, 0)) := fun z0 z1 z2 z3 =>
    ⟨Upd.setCells (b := w.heap.size + 1 + 1) (F := fun k => k = w.heap.size + 1 + 1) rfl _ 0 (Upd.refl _ w5), heap_setCells_whole (vs := [.int .i64 z0, .int .i64 z1, .int .i64 z2, .int .i64 z3]) HT5.out rfl⟩
  have FIN := Lib.hid fin
  clear fin
  by_cases hch : oa = true ∧ (ob = false ∨ y0 ≤ x0)
  · rw [if_pos hch] at hcf
    obtain ⟨rfl, hch⟩ := hch
    have HCF := Lib.hid hcf
    clear hcf
    cases ob with
    | false =>
      clear hch
      go_upto_region 4 with fail
      go_step
      refine wpList_load_mid rfl 107 (.tmp 6) rfl w2.heap.size 0 rfl [.int .i64 x0, .int .i64 x1, .int .i64 x2, .int .i64 x3] _ (rangeAt_block (cs := [.int .i64 x0, .int .i64 x1, .int .i64 x2, .int .i64 x3]) HX5.out) Try.underlying107 rfl Try.size107r ?_
      refine wpList_store_mid rfl 107 (.tmp 4) (.tmp 32) rfl (w.heap.size + 1 + 1) 0 #[.int .i64 x0, .int .i64 x1, .int .i64 x2, .int .i64 x3] rfl rfl (by have q := there_block HT5.out; exact q) Try.size107r (by simp [Value.oneCell']) ?_
      go_wp2
      have hl3 := run_loadVar_mid (P := Try.prog) _ (w.heap.size + 1 + 1) 0 107 [.int .i64 x0, .int .i64 x1, .int .i64 x2, .int .i64 x3] _ (rangeAt_block (FIN.out x0 x1 x2 x3).2) Try.underlying107 rfl Try.size107r
      refine bodyPost_ret (results_cell_tmp Try.results71 rfl hl3) rfl ⟨by rw [HCF.out]; rfl, HU5.out.step (FIN.out x0 x1 x2 x3).1 (fun k hk e => by omega)⟩
    | true =>
      have hge : x0 ≥ y0 := by rcases hch with h | h; cases h; exact h
      clear hch
      go_upto_region 4 with fail
      go_step
      refine wpList_load_mid rfl 107 (.tmp 6) rfl w2.heap.size 0 rfl [.int .i64 x0, .int .i64 x1, .int .i64 x2, .int .i64 x3] _ (rangeAt_block (cs := [.int .i64 x0, .int .i64 x1, .int .i64 x2, .int .i64 x3]) HX5.out) Try.underlying107 rfl Try.size107r ?_
      refine wpList_store_mid rfl 107 (.tmp 4) (.tmp 32) rfl (w.heap.size + 1 + 1) 0 #[.int .i64 x0, .int .i64 x1, .int .i64 x2, .int .i64 x3] rfl rfl (by have q := there_block HT5.out; exact q) Try.size107r (by simp [Value.oneCell']) ?_
      go_wp2
      have hl3 := run_loadVar_mid (P := Try.prog) _ (w.heap.size + 1 + 1) 0 107 [.int .i64 x0, .int .i64 x1, .int .i64 x2, .int .i64 x3] _ (rangeAt_block (FIN.out x0 x1 x2 x3).2) Try.underlying107 rfl Try.size107r
      refine bodyPost_ret (results_cell_tmp Try.results71 rfl hl3) rfl ⟨by rw [HCF.out]; rfl, HU5.out.step (FIN.out x0 x1 x2 x3).1 (fun k hk e => by omega)⟩
  · rw [if_neg hch] at hcf
    have HCF := Lib.hid hcf
    clear hcf
    cases oa with
    | false =>
      clear hch
      go_upto_region 5 with fail
      go_step
      refine wpList_load_mid rfl 107 (.tmp 8) rfl w4.heap.size 0 rfl [.int .i64 y0, .int .i64 y1, .int .i64 y2, .int .i64 y3] _ (rangeAt_block (cs := [.int .i64 y0, .int .i64 y1, .int .i64 y2, .int .i64 y3]) HY5.out) Try.underlying107 rfl Try.size107r ?_
      iterate 3 go_step
      refine wpList_store_mid rfl 107 (.tmp 4) (.tmp 33) rfl (w.heap.size + 1 + 1) 0 #[.int .i64 y0, .int .i64 y1, .int .i64 y2, .int .i64 y3] rfl rfl (by have q := there_block HT5.out; exact q) Try.size107r (by simp [Value.oneCell']) ?_
      go_wp2
      have hl3 := run_loadVar_mid (P := Try.prog) _ (w.heap.size + 1 + 1) 0 107 [.int .i64 y0, .int .i64 y1, .int .i64 y2, .int .i64 y3] _ (rangeAt_block (FIN.out y0 y1 y2 y3).2) Try.underlying107 rfl Try.size107r
      refine bodyPost_ret (results_cell_tmp Try.results71 rfl hl3) rfl ⟨by rw [HCF.out]; rfl, HU5.out.step (FIN.out y0 y1 y2 y3).1 (fun k hk e => by omega)⟩
    | true =>
      cases ob with
      | false => exact absurd ⟨rfl, .inl rfl⟩ hch
      | true =>
        have hge : ¬ x0 ≥ y0 := fun h => hch ⟨rfl, .inr h⟩
        clear hch
        go_upto_region 5 with fail
        go_step
        refine wpList_load_mid rfl 107 (.tmp 8) rfl w4.heap.size 0 rfl [.int .i64 y0, .int .i64 y1, .int .i64 y2, .int .i64 y3] _ (rangeAt_block (cs := [.int .i64 y0, .int .i64 y1, .int .i64 y2, .int .i64 y3]) HY5.out) Try.underlying107 rfl Try.size107r ?_
        iterate 3 go_step
        refine wpList_store_mid rfl 107 (.tmp 4) (.tmp 33) rfl (w.heap.size + 1 + 1) 0 #[.int .i64 y0, .int .i64 y1, .int .i64 y2, .int .i64 y3] rfl rfl (by have q := there_block HT5.out; exact q) Try.size107r (by simp [Value.oneCell']) ?_
        go_wp2
        have hl3 := run_loadVar_mid (P := Try.prog) _ (w.heap.size + 1 + 1) 0 107 [.int .i64 y0, .int .i64 y1, .int .i64 y2, .int .i64 y3] _ (rangeAt_block (FIN.out y0 y1 y2 y3).2) Try.underlying107 rfl Try.size107r
        refine bodyPost_ret (results_cell_tmp Try.results71 rfl hl3) rfl ⟨by rw [HCF.out]; rfl, HU5.out.step (FIN.out y0 y1 y2 y3).1 (fun k hk e => by omega)⟩

end Go.Proofs.Ytbimkhdiplnbfaa
end

section
namespace Go.Proofs.Ytbimkhdiplnbfaa
open Go.RowKit

/-- Bytes with others copied over them from a place on. -/
def overF (b : List Int) (off : Nat) (src : List Int) : List Int := b.take off ++ (src.take (b.length - off) ++ b.drop (off + src.length))

theorem overF_length (b : List Int) (off : Nat) (src : List Int) (h : off ≤ b.length) : (overF b off src).length = b.length := by
  simp only [overF, List.length_append, List.length_take, List.length_drop]; omega

theorem overF_get (b : List Int) (off : Nat) (src : List Int) (h : off ≤ b.length) (j : Nat) : (overF b off src)[j]? = if off ≤ j ∧ j < off + src.length ∧ j < b.length then src[j - off]? else b[j]? := by
  unfold overF
  by_cases h1 : j < off
  · rw [if_neg (by omega), List.getElem?_append_left (by simp; omega), List.getElem?_take_of_lt h1]
  · rw [List.getElem?_append_right (by simp; omega)]
    have e : (b.take off).length = off := by simp; omega
    rw [e]
    by_cases h2 : j - off < (src.take (b.length - off)).length
    · rw [List.getElem?_append_left h2]
      simp only [List.length_take] at h2
      rw [if_pos (by omega), List.getElem?_take_of_lt (by omega)]
    · rw [List.getElem?_append_right (by omega)]
      simp only [List.length_take] at h2 ⊢
      by_cases h3 : j < b.length
      · rw [if_neg (by omega), List.getElem?_drop]
        congr 1
        omega
      · rw [if_neg (by omega), List.getElem?_drop, List.getElem?_eq_none (by omega), List.getElem?_eq_none (by omega)]

theorem be4_lay {x : Int} (h : 0 ≤ x ∧ x ≤ 4294967295) : be4 (x / 2 ^ 24 % 256) (x / 2 ^ 16 % 256) (x / 2 ^ 8 % 256) (x / 2 ^ 0 % 256) 4 = x := by
  show x / 2 ^ 24 % 256 * 16777216 + (x / 2 ^ 16 % 256 * 65536 + (x / 2 ^ 8 % 256 * 256 + x / 2 ^ 0 % 256)) = x
  omega

theorem layF32 (x : Int) : layF x 32 = [x / 2 ^ 24 % 256, x / 2 ^ 16 % 256, x / 2 ^ 8 % 256, x / 2 ^ 0 % 256] := rfl
theorem layF16 (x : Int) : layF x 16 = [x / 2 ^ 8 % 256, x / 2 ^ 0 % 256] := rfl

theorem be_lay {x : Int} (h : 0 ≤ x ∧ x ≤ 4294967295) (r : List Int) : be (layF x 32 ++ r) = x := by
  rw [layF32]; exact be4_lay h

theorem layF32_inj {x y : Int} (hx : 0 ≤ x ∧ x ≤ 4294967295) (hy : 0 ≤ y ∧ y ≤ 4294967295) (h : layF x 32 = layF y 32) : x = y := by
  have h1 := be_lay hx []; have h2 := be_lay hy []
  rw [h] at h1
  exact h1.symm.trans h2
theorem layF16_inj {x y : Int} (hx : 0 ≤ x ∧ x ≤ 65535) (hy : 0 ≤ y ∧ y ≤ 65535) (h : layF x 16 = layF y 16) : x = y := by
  rw [layF16, layF16] at h
  injection h with h1 h2
  injection h2 with h2 _
  omega

theorem leadF_length (turn number : Int) (snap : Bool) (n k : Nat) : (leadF turn number snap n k).length = 12 := by simp [leadF, layF_length]
theorem cutF_length {turn number : Int} {snap : Bool} {b : List Int} {k : Nat} : (cutF turn number snap b k).length = 16 + (allF b k).length := by simp [cutF, leadF_length, layF_length]; omega

theorem cutF_turn {turn number : Int} (ht : 0 ≤ turn ∧ turn ≤ 4294967295) (snap : Bool) (b : List Int) (k : Nat) : be (cutF turn number snap b k) = turn := by
  unfold cutF leadF
  rw [List.append_assoc, List.append_assoc, List.append_assoc, List.append_assoc]
  exact be_lay ht _

theorem cutF_drop (turn number : Int) (snap : Bool) (b : List Int) (k : Nat) : (cutF turn number snap b k).drop 16 = allF b k := by
  unfold cutF
  exact List.drop_left' (by simp [leadF_length, layF_length])

theorem allF_zero (b : List Int) : ∃ r, allF b 0 = layF b.length 32 ++ r := by
  unfold allF
  simp only [if_true]
  exact ⟨_, by rw [List.append_assoc]⟩

theorem cutF_len {turn number : Int} {snap : Bool} {b : List Int} (h : b.length ≤ 40000) : be ((cutF turn number snap b 0).drop 16) = b.length := by
  rw [cutF_drop]
  obtain ⟨r, hr⟩ := allF_zero b
  rw [hr]
  exact be_lay (by omega) r

theorem app_inj {a b c d : List Int} (h : a ++ b = c ++ d) (hl : a.length = c.length) : a = c ∧ b = d := List.append_inj h hl

/-- Two sectors of parts are alike: so are what they name. -/
theorem cutF_names {t n t' n' : Int} {s s' : Bool} {b b' : List Int} {k k' : Nat} (ht : 0 ≤ t ∧ t ≤ 4294967295) (ht' : 0 ≤ t' ∧ t' ≤ 4294967295) (hn : 0 ≤ n ∧ n ≤ 4294967295) (hn' : 0 ≤ n' ∧ n' ≤ 4294967295) (hk : k ≤ 65535) (hk' : k' ≤ 65535) (hb : b.length ≤ 40000) (hb' : b'.length ≤ 40000)
    (h : cutF t n s b k = cutF t' n' s' b' k') : t = t' ∧ n = n' ∧ k = k' ∧ manyF b.length s = manyF b'.length s' ∧ allF b k = allF b' k' := by
  have hA : allF b k = allF b' k' := by rw [← cutF_drop t n s b k, ← cutF_drop t' n' s' b' k', h]
  unfold cutF at h
  rw [List.append_assoc, List.append_assoc] at h
  obtain ⟨h1, _⟩ := app_inj h (by rw [leadF_length, leadF_length])
  unfold leadF at h1
  obtain ⟨h1, hm⟩ := app_inj h1 (by simp [layF_length])
  obtain ⟨h1, hkk⟩ := app_inj h1 (by simp [layF_length])
  obtain ⟨h1, hnn⟩ := app_inj h1 (by simp [layF_length])
  have m1 : ∀ (m : Nat) (s : Bool), m ≤ 40000 → 0 ≤ manyF m s ∧ manyF m s ≤ 65535 := by
    intro m s hm
    unfold manyF secsN
    cases s <;> simp <;> omega
  refine ⟨layF32_inj ht ht' h1, layF32_inj hn hn' hnn, ?_, layF16_inj (m1 _ _ hb) (m1 _ _ hb') hm, hA⟩
  have := layF16_inj (x := (k : Int)) (y := (k' : Int)) (by omega) (by omega) hkk
  omega

theorem cutF_snap {t n t' n' : Int} {s s' : Bool} {b b' : List Int} {k k' : Nat} (ht : 0 ≤ t ∧ t ≤ 4294967295) (ht' : 0 ≤ t' ∧ t' ≤ 4294967295) (hn : 0 ≤ n ∧ n ≤ 4294967295) (hn' : 0 ≤ n' ∧ n' ≤ 4294967295) (hk : k ≤ 65535) (hk' : k' ≤ 65535) (hb : b.length ≤ 40000) (hb' : b'.length ≤ 40000)
    (h : cutF t n s b k = cutF t' n' s' b' k') : s = s' := by
  obtain ⟨_, _, _, hm, _⟩ := cutF_names ht ht' hn hn' hk hk' hb hb' h
  unfold manyF secsN at hm
  cases s <;> cases s' <;> simp at hm ⊢ <;> omega

/-- What stands in a part's k-th sector hangs on these bytes alone. -/
theorem allF_congr {b c : List Int} {k : Nat} (hl : b.length = c.length) (h : ∀ j, 48 * k - 4 ≤ j → j < 48 * k + 44 → b[j]? = c[j]?) : allF b k = allF c k := by
  have e : (b.drop (48 * k - 4)).take (min (48 * k + 44) b.length - (48 * k - 4)) = (c.drop (48 * k - 4)).take (min (48 * k + 44) c.length - (48 * k - 4)) := by
    apply List.ext_getElem?
    intro j
    rw [hl]
    by_cases hj : j < min (48 * k + 44) c.length - (48 * k - 4)
    · rw [List.getElem?_take_of_lt hj, List.getElem?_take_of_lt hj, List.getElem?_drop, List.getElem?_drop]
      exact h _ (by omega) (by omega)
    · rw [List.getElem?_eq_none (by simp; omega), List.getElem?_eq_none (by simp; omega)]
  unfold allF
  rw [e, hl]

theorem cutF_congr {t n : Int} {s : Bool} {b c : List Int} {k : Nat} (hl : b.length = c.length) (h : ∀ j, 48 * k - 4 ≤ j → j < 48 * k + 44 → b[j]? = c[j]?) : cutF t n s b k = cutF t n s c k := by
  unfold cutF
  rw [allF_congr hl h, hl]

theorem allF_get {b : List Int} {k j : Nat} (hk : 0 < k) (hj : j < 48) (hb : 48 * k - 4 + j < b.length) : (allF b k)[j]? = b[48 * k - 4 + j]? := by
  unfold allF
  simp only [show ¬ k = 0 by omega, if_false, List.nil_append]
  rw [List.getElem?_append_left (by simp; omega), List.getElem?_take_of_lt (by omega), List.getElem?_drop]
theorem allF_get0 {b : List Int} {j : Nat} (hj : j < 44) (hb : j < b.length) : (allF b 0)[4 + j]? = b[j]? := by
  unfold allF
  simp only [if_true, List.append_assoc]
  rw [List.getElem?_append_right (by simp [layF_length])]
  simp only [layF_length]
  rw [show 4 + j - 32 / 8 = j by omega, List.getElem?_append_left (by simp; omega), List.getElem?_take_of_lt (by omega), List.getElem?_drop]
  congr 1
  omega
theorem allF_len48 {b : List Int} {k : Nat} : (allF b k).length = 48 := by
  unfold allF
  split <;> simp [layF_length] <;> omega

/-! ### What is found -/

/-- The rest of a part, from its k-th sector on. -/
noncomputable def goS (S : Int → List Int) (h : Hd) (number place turn : Int) (snap : Bool) : Nat → Nat → List Int → Option (List Int)
  | 0, _, b => some b
  | m + 1, k, b => open Classical in if cutF turn number snap (overF b (48 * k - 4) ((S (atF h.area (place + k))).drop 16)) k = S (atF h.area (place + k)) then goS S h number place turn snap m (k + 1) (overF b (48 * k - 4) ((S (atF h.area (place + k))).drop 16)) else none

def startT (s : List Int) : Int := be s
def startN (s : List Int) : Int := be (s.drop 16)
def startB (s : List Int) : List Int := overF (List.replicate (startN s).toNat 0) 0 (s.drop 20)

def Starts (h : Hd) (left : Int) (s : List Int) : Prop := 1 ≤ startT s ∧ startT s ≤ h.turn ∧ startN s ≤ 40000 ∧ (secsN (startN s).toNat : Int) ≤ left

open Classical in
/-- The part that is whole at a place. -/
noncomputable def wholeS (S : Int → List Int) (h : Hd) (number place : Int) (snap : Bool) (left : Int) : Option (List Int) :=
  if left = 0 then none else
  if Starts h left (S (atF h.area place)) ∧ cutF (startT (S (atF h.area place))) number snap (startB (S (atF h.area place))) 0 = S (atF h.area place) then
    goS S h number place (startT (S (atF h.area place))) snap (secsN (startN (S (atF h.area place))).toNat - 1) 1 (startB (S (atF h.area place)))
  else none

/-- A part lies whole at a place. -/
def LiesAt (S : Int → List Int) (h : Hd) (number place t : Int) (snap : Bool) (b : List Int) : Prop := ∀ k : Nat, k < secsN b.length → S (atF h.area (place + k)) = cutF t number snap b k

theorem secsN_pos (n : Nat) : 1 ≤ secsN n := by unfold secsN; omega

theorem goS_finds {S : Int → List Int} {h : Hd} {number place t : Int} {snap : Bool} {b : List Int} (hl : LiesAt S h number place t snap b) : ∀ (m k : Nat) (c : List Int), 0 < k → k + m = secsN b.length → c.length = b.length → (∀ j, j < 48 * k - 4 → c[j]? = b[j]?) → goS S h number place t snap m k c = some b
  | 0, k, c, hk, hm, hc, hp => by
    unfold goS
    congr 1
    apply List.ext_getElem?
    intro j
    by_cases hj : j < b.length
    · exact hp j (by unfold secsN at hm; omega)
    · rw [List.getElem?_eq_none (by omega), List.getElem?_eq_none (by omega)]
  | m + 1, k, c, hk, hm, hc, hp => by
    have hs := hl k (by omega)
    have hoff : 48 * k - 4 ≤ c.length := by unfold secsN at hm; omega
    have hd : ((cutF t number snap b k).drop 16) = allF b k := cutF_drop ..
    have hg : ∀ j, j < 48 * (k + 1) - 4 → (overF c (48 * k - 4) (allF b k))[j]? = b[j]? := by
      intro j hj
      rw [overF_get _ _ _ hoff, allF_len48]
      split
      · rename_i h1
        rw [allF_get hk (by omega) (by omega)]
        congr 1; omega
      · by_cases h2 : j < b.length
        · exact hp j (by omega)
        · rw [List.getElem?_eq_none (by omega), List.getElem?_eq_none (by omega)]
    have hlen : (overF c (48 * k - 4) (allF b k)).length = b.length := by rw [overF_length _ _ _ hoff, hc]
    unfold goS
    rw [hs, hd, if_pos (cutF_congr hlen (fun j _ h2 => hg j (by omega)))]
    exact goS_finds hl m (k + 1) _ (by omega) (by omega) hlen hg

theorem wholeS_finds {S : Int → List Int} {h : Hd} {number place t left : Int} {snap : Bool} {b : List Int} (hl : LiesAt S h number place t snap b) (ht : 1 ≤ t ∧ t ≤ h.turn) (ht2 : h.turn ≤ 4294967295) (hb : b.length ≤ 40000) (hs : (secsN b.length : Int) ≤ left) : wholeS S h number place snap left = some b := by
  have h0 := secsN_pos b.length
  have e := hl 0 (by omega)
  rw [show place + ((0 : Nat) : Int) = place by omega] at e
  have eT : startT (cutF t number snap b 0) = t := cutF_turn (by omega) ..
  have eN : startN (cutF t number snap b 0) = b.length := cutF_len hb
  have hd : (cutF t number snap b 0).drop 20 = (allF b 0).drop 4 := by rw [← cutF_drop t number snap b 0, List.drop_drop]
  have hg : ∀ j, j < 44 → (startB (cutF t number snap b 0))[j]? = b[j]? := by
    intro j hj
    unfold startB
    rw [eN, hd, overF_get _ _ _ (by omega)]
    simp only [List.length_drop, allF_len48, List.length_replicate, Int.toNat_natCast]
    split
    · rename_i h1
      rw [List.getElem?_drop, show 4 + (j - 0) = 4 + j by omega]
      exact allF_get0 hj h1.2.2
    · rename_i h1
      rw [List.getElem?_eq_none (by simp; omega), List.getElem?_eq_none (by omega)]
  have hlen : (startB (cutF t number snap b 0)).length = b.length := by
    unfold startB
    rw [overF_length _ _ _ (by omega), eN]; simp
  unfold wholeS
  rw [if_neg (by omega), e, eT, eN, if_pos ⟨⟨by rw [eT]; omega, by rw [eT]; omega, by rw [eN]; omega, by rw [eN]; simpa using hs⟩, cutF_congr hlen (fun j _ h2 => hg j (by omega))⟩, Int.toNat_natCast]
  exact goS_finds hl _ 1 _ (by omega) (by omega) hlen hg

/-- What is found lies there. -/
theorem goS_lies {S : Int → List Int} {h : Hd} {number place t : Int} {snap : Bool} {b : List Int} : ∀ (m k : Nat) (c : List Int), 0 < k → k + m = secsN c.length → goS S h number place t snap m k c = some b →
    b.length = c.length ∧ (∀ j, j < 48 * k - 4 → b[j]? = c[j]?) ∧ ∀ i : Nat, k ≤ i → i < k + m → S (atF h.area (place + i)) = cutF t number snap b i
  | 0, k, c, hk, hm, hf => by
    unfold goS at hf
    injection hf with hf
    subst hf
    exact ⟨rfl, fun _ _ => rfl, fun i h1 h2 => by omega⟩
  | m + 1, k, c, hk, hm, hf => by
    unfold goS at hf
    have hoff : 48 * k - 4 ≤ c.length := by unfold secsN at hm; omega
    generalize hsrc : (S (atF h.area (place + k))).drop 16 = src at hf
    split at hf
    · rename_i hc
      have hlen : (overF c (48 * k - 4) src).length = c.length := overF_length _ _ _ hoff
      obtain ⟨g1, g2, g3⟩ := goS_lies m (k + 1) _ (by omega) (by rw [hlen]; omega) hf
      have hsl : src.length = 48 := by rw [← hsrc, ← hc, cutF_drop, allF_len48]
      refine ⟨by omega, fun j hj => ?_, fun i h1 h2 => ?_⟩
      · rw [g2 j (by omega), overF_get _ _ _ hoff, if_neg (by omega)]
      · by_cases hi : i = k
        · subst hi
          rw [← hc]
          exact cutF_congr g1.symm (fun j _ h4 => (g2 j (by omega)).symm)
        · exact g3 i (by omega) (by omega)
    · cases hf

theorem wholeS_lies {S : Int → List Int} {h : Hd} {number place left : Int} {snap : Bool} {b : List Int} (hf : wholeS S h number place snap left = some b) (hby : ∀ i, 0 ≤ startN (S i)) :
    ∃ t, (1 ≤ t ∧ t ≤ h.turn) ∧ b.length ≤ 40000 ∧ (secsN b.length : Int) ≤ left ∧ LiesAt S h number place t snap b := by
  unfold wholeS at hf
  split at hf
  · cases hf
  · split at hf
    · rename_i h0 hc
      obtain ⟨⟨h1, h2, h3, h4⟩, hc⟩ := hc
      have hn := hby (atF h.area place)
      have hlen : (startB (S (atF h.area place))).length = (startN (S (atF h.area place))).toNat := by
        unfold startB; rw [overF_length _ _ _ (by omega)]; simp
      have hp := secsN_pos (startN (S (atF h.area place))).toNat
      obtain ⟨g1, g2, g3⟩ := goS_lies _ 1 _ (by omega) (by rw [hlen]; omega) hf
      refine ⟨_, ⟨h1, h2⟩, by omega, by rw [g1, hlen]; exact h4, fun k hk => ?_⟩
      rw [g1, hlen] at hk
      by_cases h0 : k = 0
      · subst h0
        rw [show place + ((0 : Nat) : Int) = place by omega]
        rw (occs := .pos [1]) [← hc]
        exact cutF_congr g1.symm (fun j _ h6 => (g2 j (by omega)).symm)
      · exact g3 k (by omega) (by omega)
    · cases hf

end Go.Proofs.Ytbimkhdiplnbfaa
end

section
namespace Go.Proofs.Ytbimkhdiplnbfaa
open Go.RowKit

def usedOf (l : List (List Int)) : Int := (l.map fun b => (secsN b.length : Int)).sum
theorem usedOf_nil : usedOf [] = 0 := rfl
theorem usedOf_cons (b : List Int) (l : List (List Int)) : usedOf (b :: l) = secsN b.length + usedOf l := by simp [usedOf]
theorem usedOf_append (k l : List (List Int)) : usedOf (k ++ l) = usedOf k + usedOf l := by simp [usedOf]
theorem usedOf_pos (l : List (List Int)) : 0 ≤ usedOf l := by
  induction l with
  | nil => simp [usedOf]
  | cons b l ih => rw [usedOf_cons]; omega

/-- The parts that are found behind some. -/
noncomputable def foundS (S : Int → List Int) (h : Hd) : Nat → List (List Int) → Int → List (List Int)
  | 0, ps, _ => ps
  | f + 1, ps, u => match wholeS S h (h.number + ps.length) (h.place + u) (decide (ps = [])) (h.area - u) with
    | none => ps
    | some b => foundS S h f (ps ++ [b]) (u + secsN b.length)

/-- Parts lie one behind the other. -/
def PartsAt (S : Int → List Int) (h : Hd) : Nat → Int → List (List Int) → Prop
  | _, _, [] => True
  | j, u, b :: l => (∃ t, (1 ≤ t ∧ t ≤ h.turn) ∧ LiesAt S h (h.number + j) (h.place + u) t (decide (j = 0)) b) ∧ b.length ≤ 40000 ∧ PartsAt S h (j + 1) (u + secsN b.length) l

theorem PartsAt.congr {S S' : Int → List Int} {h : Hd} : ∀ (l : List (List Int)) (j : Nat) (u : Int), (∀ v, u ≤ v → v < u + usedOf l → S' (atF h.area (h.place + v)) = S (atF h.area (h.place + v))) → PartsAt S h j u l → PartsAt S' h j u l
  | [], _, _, _, _ => trivial
  | b :: l, j, u, hS, ⟨⟨t, ht, hl⟩, hb, hr⟩ => by
    have h0 := usedOf_pos l
    have h1 := secsN_pos b.length
    rw [usedOf_cons] at hS
    refine ⟨⟨t, ht, fun k hk => ?_⟩, hb, PartsAt.congr l _ _ (fun v h1 h2 => hS v (by omega) (by omega)) hr⟩
    rw [← hl k hk, show h.place + u + (k : Int) = h.place + (u + k) by omega]
    exact hS _ (by omega) (by omega)

theorem PartsAt.turn {S : Int → List Int} {h h' : Hd} (h1 : h'.area = h.area) (h2 : h'.place = h.place) (h3 : h'.number = h.number) (h4 : h.turn ≤ h'.turn) : ∀ (l : List (List Int)) (j : Nat) (u : Int), PartsAt S h j u l → PartsAt S h' j u l
  | [], _, _, _ => trivial
  | b :: l, j, u, ⟨⟨t, ht, hl⟩, hb, hr⟩ => by
    refine ⟨⟨t, by omega, fun k hk => ?_⟩, hb, PartsAt.turn h1 h2 h3 h4 l _ _ hr⟩
    rw [h1, h2, h3]
    exact hl k hk

theorem PartsAt.snoc {S : Int → List Int} {h : Hd} {b : List Int} : ∀ (l : List (List Int)) (j : Nat) (u : Int), PartsAt S h j u l → (∃ t, (1 ≤ t ∧ t ≤ h.turn) ∧ LiesAt S h (h.number + (j + l.length : Nat)) (h.place + (u + usedOf l)) t (decide (j + l.length = 0)) b) → b.length ≤ 40000 → PartsAt S h j u (l ++ [b])
  | [], j, u, _, ⟨t, ht, hl⟩, hb => by
    simp only [usedOf_nil, List.length_nil, Nat.add_zero, Int.add_zero] at hl
    exact ⟨⟨t, ht, hl⟩, hb, trivial⟩
  | c :: l, j, u, ⟨hc, hcl, hr⟩, ⟨t, ht, hl⟩, hb => by
    refine ⟨hc, hcl, PartsAt.snoc l _ _ hr ⟨t, ht, ?_⟩ hb⟩
    rw [usedOf_cons] at hl
    rw [show j + 1 + l.length = j + (c :: l).length by simp; omega, show u + (secsN c.length : Int) + usedOf l = u + (secsN c.length + usedOf l) by omega]
    exact hl

theorem PartsAt.short {S : Int → List Int} {h : Hd} : ∀ (l : List (List Int)) (j : Nat) (u : Int), PartsAt S h j u l → ∀ b ∈ l, b.length ≤ 40000
  | c :: l, j, u, ⟨_, hc, hr⟩, b, hb => by
    rcases List.mem_cons.1 hb with rfl | hb
    · exact hc
    · exact PartsAt.short l _ _ hr b hb

/-- What lies there is found, and no more. -/
theorem foundS_finds {S : Int → List Int} {h : Hd} (ht : h.turn ≤ 4294967295) : ∀ (l : List (List Int)) (f : Nat) (ps : List (List Int)) (u : Int), PartsAt S h ps.length u l → u + usedOf l ≤ h.area → l.length < f →
    wholeS S h (h.number + (ps ++ l).length) (h.place + (u + usedOf l)) (decide (ps ++ l = [])) (h.area - (u + usedOf l)) = none → foundS S h f ps u = ps ++ l
  | [], 0, _, _, _, _, hf, _ => by simp at hf
  | [], f + 1, ps, u, _, _, _, hn => by
    simp only [List.append_nil, usedOf_nil, Int.add_zero] at hn ⊢
    unfold foundS
    rw [hn]
  | b :: l, 0, _, _, _, _, hf, _ => by simp at hf
  | b :: l, f + 1, ps, u, ⟨⟨t, h1, h2⟩, hb, hr⟩, hu, hf, hn => by
    have h0 := usedOf_pos l
    rw [usedOf_cons] at hu hn
    have hw : wholeS S h (h.number + ps.length) (h.place + u) (decide (ps = [])) (h.area - u) = some b := by
      have e : decide (ps = []) = decide (ps.length = 0) := by simp
      rw [e]
      exact wholeS_finds h2 h1 ht hb (by omega)
    unfold foundS
    rw [hw]
    show foundS S h f (ps ++ [b]) (u + secsN b.length) = ps ++ b :: l
    rw [show ps ++ b :: l = (ps ++ [b]) ++ l by simp]
    refine foundS_finds ht l f (ps ++ [b]) _ (by simpa using hr) (by omega) (by simp at hf; omega) ?_
    rw [show ps ++ [b] ++ l = ps ++ b :: l by simp, show u + (secsN b.length : Int) + usedOf l = u + (secsN b.length + usedOf l) by omega]
    exact hn

/-! ### Sectors laid -/
def layS (S : Int → List Int) : List (Int × List Int) → Int → List Int
  | [] => S
  | x :: l => layS (fun i => if i = x.1 then x.2 else S i) l

theorem layS_other {i : Int} : ∀ (l : List (Int × List Int)) (S : Int → List Int), (∀ x ∈ l, x.1 ≠ i) → layS S l i = S i
  | [], _, _ => rfl
  | x :: l, S, h => by
    unfold layS
    rw [layS_other l _ (fun y hy => h y (List.mem_cons_of_mem _ hy))]
    simp [Ne.symm (h x (List.mem_cons_self ..))]

theorem layS_mem {i : Int} {b : List Int} : ∀ (l : List (Int × List Int)) (S : Int → List Int), l.Pairwise (fun x y => x.1 ≠ y.1) → (i, b) ∈ l → layS S l i = b
  | x :: l, S, hp, h => by
    unfold layS
    rw [List.pairwise_cons] at hp
    rcases List.mem_cons.1 h with rfl | h
    · rw [layS_other l _ (fun y hy => (hp.1 y hy).symm)]
      simp
    · exact layS_mem l _ hp.2 h

theorem atF_inj {area p a b : Int} (ha : 1 ≤ area) (h : atF area (p + a) = atF area (p + b)) (h1 : a ≤ b) (h2 : b < a + 2 * area) : a = b := by
  unfold atF at h
  have e : (p + b) % (2 * area) = (p + a) % (2 * area) := by omega
  have := Int.emod_emod_of_dvd (p + b) (Int.dvd_refl (2 * area))
  have h3 := Int.emod_add_mul_ediv (p + a) (2 * area)
  have h4 := Int.emod_add_mul_ediv (p + b) (2 * area)
  have h5 : 2 * area * ((p + b) / (2 * area)) - 2 * area * ((p + a) / (2 * area)) = b - a := by omega
  rw [← Int.mul_sub] at h5
  generalize (p + b) / (2 * area) - (p + a) / (2 * area) = q at h5
  rcases Int.lt_trichotomy q 0 with hq | hq | hq
  · have : 2 * area * q ≤ 2 * area * (-1) := Int.mul_le_mul_of_nonneg_left (by omega) (by omega)
    omega
  · subst hq; omega
  · have : 2 * area * 1 ≤ 2 * area * q := Int.mul_le_mul_of_nonneg_left (by omega) (by omega)
    omega

theorem atF_shift {area p : Int} (v : Int) : atF area (p % (2 * area) + v) = atF area (p + v) := by
  unfold atF
  rw [Int.emod_add_emod]

def partL (h : Hd) (number place : Int) (snap : Bool) (b : List Int) : List (Int × List Int) := (List.range (secsN b.length)).map fun (k : Nat) => (atF h.area (place + k), cutF h.turn number snap b k)

theorem partL_pairwise {h : Hd} {number place : Int} {snap : Bool} {b : List Int} (ha : 1 ≤ h.area) (hs : (secsN b.length : Int) ≤ 2 * h.area) : (partL h number place snap b).Pairwise (fun x y => x.1 ≠ y.1) := by
  unfold partL
  rw [List.pairwise_map]
  have hp : (List.range (secsN b.length)).Pairwise (fun i j => i < j ∧ j < secsN b.length) := by
    rw [List.pairwise_iff_getElem]
    intro i j hi hj hij
    simp at hi hj ⊢
    omega
  refine hp.imp (fun {x y} hx e => ?_)
  have := atF_inj ha e (by omega) (by omega)
  omega

theorem layS_part {S : Int → List Int} {h : Hd} {number place : Int} {snap : Bool} {b : List Int} (ha : 1 ≤ h.area) (hs : (secsN b.length : Int) ≤ 2 * h.area) : LiesAt (layS S (partL h number place snap b)) h number place h.turn snap b := fun k hk =>
  layS_mem _ _ (partL_pairwise ha hs) (List.mem_map.2 ⟨k, by simpa using hk, rfl⟩)

theorem layS_part_other {S : Int → List Int} {h : Hd} {number place i : Int} {snap : Bool} {b : List Int} (hi : ∀ k : Nat, k < secsN b.length → atF h.area (place + k) ≠ i) : layS S (partL h number place snap b) i = S i := by
  refine layS_other _ _ (fun x hx => ?_)
  unfold partL at hx
  rw [List.mem_map] at hx
  obtain ⟨k, hk, rfl⟩ := hx
  exact hi k (by simpa using hk)

end Go.Proofs.Ytbimkhdiplnbfaa
end

section
namespace Go.Proofs.Ytbimkhdiplnbfaa
open Go.RowKit

theorem headF_split (h : Hd) : ∃ r, headF h = lettersF ++ (layF h.turn 32 ++ (layF h.area 32 ++ (layF h.place 32 ++ (layF h.number 32 ++ r)))) := by
  obtain ⟨z, c, e⟩ : ∃ z c, headF h = (lettersF ++ layF h.turn 32 ++ layF h.area 32 ++ layF h.place 32 ++ layF h.number 32 ++ z) ++ c := ⟨_, _, rfl⟩
  exact ⟨z ++ c, by rw [e]; simp only [List.append_assoc]⟩

theorem readF_head {h : Hd} (hu : h.U32) : readF (headF h) = h := by
  obtain ⟨r, hr⟩ := headF_split h
  have e0 : (headF h).drop 8 = layF h.turn 32 ++ (layF h.area 32 ++ (layF h.place 32 ++ (layF h.number 32 ++ r))) := by rw [hr]; rfl
  have e1 : (headF h).drop 12 = layF h.area 32 ++ (layF h.place 32 ++ (layF h.number 32 ++ r)) := by rw [hr]; rfl
  have e2 : (headF h).drop 16 = layF h.place 32 ++ (layF h.number 32 ++ r) := by rw [hr]; rfl
  have e3 : (headF h).drop 20 = layF h.number 32 ++ r := by rw [hr]; rfl
  unfold readF
  rw [e0, e1, e2, e3, be_lay hu.turn, be_lay hu.area, be_lay hu.place, be_lay hu.number]

theorem hOk_head {h : Hd} (hu : h.U32) (hs : h.Says) : hOk (headF h) = true := by rw [hOk_iff, readF_head hu]; exact ⟨hs, rfl⟩
theorem hOk_zero : hOk zblk = false := by
  rw [Bool.eq_false_iff]
  intro h
  have := ((hOk_iff _).1 h).1.turn.1
  revert this
  decide

theorem Hd.Says.u32 {h : Hd} (hs : h.Says) (hp : 0 ≤ h.place) : h.U32 := by
  obtain ⟨h1, h2, h3, h4⟩ := hs
  exact ⟨by omega, by omega, by omega, by omega⟩

/-- A sector that is no part that is to come. -/
def OldC (next τ : Int) (s : List Int) : Prop := s = zblk ∨ ∃ t n snap b k, s = cutF t n snap b k ∧ (1 ≤ t ∧ t ≤ 2000000000) ∧ b.length ≤ 40000 ∧ k < secsN b.length ∧ 0 ≤ n ∧ (n < next ∨ (n = next ∧ (snap = true ∨ t < τ)))

theorem OldC.mono {n n' τ τ' : Int} {s : List Int} (h : OldC n τ s) (hn : n < n' ∨ n = n' ∧ τ ≤ τ') : OldC n' τ' s := by
  rcases h with h | ⟨t, m, snap, b, k, h1, h2, h3, h4, h5, h6⟩
  · exact .inl h
  · refine .inr ⟨t, m, snap, b, k, h1, h2, h3, h4, h5, ?_⟩
    rcases h6 with h6 | ⟨h6, h7⟩
    · exact .inl (by omega)
    · rcases hn with hn | hn
      · exact .inl (by omega)
      · refine .inr ⟨by omega, ?_⟩
        rcases h7 with h7 | h7
        · exact .inl h7
        · exact .inr (by omega)

theorem be_zblk : be zblk = 0 := by decide

/-- What stands on a disk of a log. -/
structure LawD (X : Lg) (τ : Int) (S : Int → List Int) : Prop where
  sum : X.used = usedOf X.parts
  one : X.parts ≠ []
  says : X.h.Says
  place : 0 ≤ X.h.place
  fits : X.used ≤ X.h.area
  next : X.h.number + X.parts.length ≤ 2000000000
  head : S (X.h.turn % 2) = headF X.h
  other : S ((X.h.turn + 1) % 2) = zblk ∨ ∃ h', S ((X.h.turn + 1) % 2) = headF h' ∧ h'.U32 ∧ h'.turn < X.h.turn
  parts : PartsAt S X.h 0 0 X.parts
  old : ∀ v, 0 ≤ v → v < 2 * X.h.area → OldC (X.h.number + X.parts.length) τ (S (2 + v))
  none : ∀ t b, 1 ≤ t → t ≤ X.h.turn → b.length ≤ 40000 → ¬ LiesAt S X.h (X.h.number + X.parts.length) (X.h.place + X.used) t false b

theorem atF_range {area p : Int} (ha : 1 ≤ area) : ∃ v, (0 ≤ v ∧ v < 2 * area) ∧ atF area p = 2 + v :=
  ⟨p % (2 * area), ⟨Int.emod_nonneg _ (by omega), Int.emod_lt_of_pos _ (by omega)⟩, rfl⟩

/-- Where no sector has the next number, no part of it lies. -/
theorem none_old {S : Int → List Int} {h : Hd} {next τ place : Int} (ha : 1 ≤ h.area) (hnx : 0 ≤ next ∧ next ≤ 2000000000) (hS : ∀ v, 0 ≤ v → v < 2 * h.area → OldC next τ (S (2 + v))) (hτ : τ ≤ 1) (t : Int) (b : List Int) (h1 : 1 ≤ t) (h2 : t ≤ 2000000000) (hb : b.length ≤ 40000) : ¬ LiesAt S h next place t false b := by
  intro hl
  have e := hl 0 (by have := secsN_pos b.length; omega)
  obtain ⟨v, hv, hva⟩ := atF_range (p := place + ((0 : Nat) : Int)) ha
  rw [hva] at e
  rcases hS v hv.1 hv.2 with hz | ⟨t', n', s', b', k', e', g1, g2, g3, g4, g5⟩
  · rw [hz] at e
    have := cutF_turn (turn := t) (number := next) (by omega) false b 0
    rw [← e, be_zblk] at this
    omega
  · rw [e'] at e
    have g6 : k' ≤ 65535 := by unfold secsN at g3; omega
    obtain ⟨c1, c2, _⟩ := cutF_names (by omega) (by omega) (by omega) (by omega) g6 (by omega) g2 hb e
    have c3 := cutF_snap (by omega) (by omega) (by omega) (by omega) g6 (by omega) g2 hb e
    rcases g5 with g5 | ⟨_, g5 | g5⟩
    · omega
    · rw [c3] at g5; simp at g5
    · omega

theorem LawD.counts {X : Lg} {τ : Int} {S : Int → List Int} (h : LawD X τ S) : countsF (S 0) (S 1) = (X.h, true) := by
  have hu := h.says.u32 h.place
  have hk := hOk_head hu h.says
  have ho := h.other
  have hh := h.head
  have ht := h.says.turn
  unfold countsF
  rcases (by omega : X.h.turn % 2 = 0 ∨ X.h.turn % 2 = 1) with e | e
  · have e2 : (X.h.turn + 1) % 2 = 1 := by omega
    rw [e] at hh; rw [e2] at ho
    rw [hh, hk, readF_head hu]
    refine if_pos ⟨rfl, ?_⟩
    rcases ho with ho | ⟨h', ho, hu', hlt⟩
    · rw [ho]; exact .inl hOk_zero
    · rw [ho, readF_head hu']; exact .inr (by omega)
  · have e2 : (X.h.turn + 1) % 2 = 0 := by omega
    rw [e] at hh; rw [e2] at ho
    rw [hh, hk, readF_head hu]
    rcases ho with ho | ⟨h', ho, hu', hlt⟩
    · rw [ho, if_neg (by rw [hOk_zero]; simp)]
    · rw [ho, readF_head hu', if_neg (by simp; omega)]

theorem LawD.found {X : Lg} {τ : Int} {S : Int → List Int} (h : LawD X τ S) (hS : ∀ i, 0 ≤ startN (S i)) {f : Nat} (hf : X.parts.length < f) : foundS S X.h f [] 0 = X.parts := by
  have ht := h.says.turn; have ha := h.says.area; have hs := h.sum; have hfi := h.fits
  have e := foundS_finds (S := S) (h := X.h) (by omega) X.parts f [] 0 h.parts (by omega) hf (by
    rw [List.nil_append, Int.zero_add, ← hs]
    rcases hw : wholeS S X.h (X.h.number + X.parts.length) (X.h.place + X.used) (decide (X.parts = [])) (X.h.area - X.used) with _ | b
    · rfl
    · rw [show decide (X.parts = []) = false by simp [h.one]] at hw
      obtain ⟨t, h1, h2, h3, h4⟩ := wholeS_lies hw hS
      exact absurd h4 (h.none t b h1.1 h1.2 h2))
  simpa using e

/-- Sectors 0 and 1 are the heads'. -/
theorem atF_ne {area p i : Int} (ha : 1 ≤ area) (hi : i < 2) : atF area p ≠ i := by
  obtain ⟨v, hv, e⟩ := atF_range (p := p) ha
  rw [e]; omega

/-- A transaction is laid. -/
theorem LawD.add {X : Lg} {τ : Int} {S : Int → List Int} (h : LawD X τ S) {b : List Int} (hb : b.length ≤ 40000) (hr : X.used + secsN b.length ≤ X.h.area) (hn : X.h.number + X.parts.length + 1 ≤ 2000000000) {τ' : Int} (hτ : τ' ≤ 1) :
    LawD (X.add b) τ' (layS S (partL X.h (X.h.number + X.parts.length) (X.h.place + X.used) false b)) := by
  have ha := h.says.area; have ht := h.says.turn; have hs := h.sum; have hnum := h.says.number
  have hsp := secsN_pos b.length
  have hup := usedOf_pos X.parts
  have hlow : ∀ i, i < 2 → layS S (partL X.h (X.h.number + X.parts.length) (X.h.place + X.used) false b) i = S i := fun i hi => layS_part_other (fun k _ => atF_ne (by omega) hi)
  have hnx : (X.h.number + (X.parts.length : Int)) < (X.add b).h.number + (X.add b).parts.length := by show X.h.number + (X.parts.length : Int) < X.h.number + ((X.parts ++ [b]).length : Int); simp; omega
  have hold : ∀ v, 0 ≤ v → v < 2 * X.h.area → OldC ((X.add b).h.number + (X.add b).parts.length) τ' (layS S (partL X.h (X.h.number + X.parts.length) (X.h.place + X.used) false b) (2 + v)) := by
    intro v h1 h2
    by_cases hk : ∃ k : Nat, k < secsN b.length ∧ atF X.h.area (X.h.place + X.used + k) = 2 + v
    · obtain ⟨k, hk, e⟩ := hk
      rw [← e, layS_part (by omega) (by omega) k hk]
      exact .inr ⟨_, _, _, _, _, rfl, by omega, hb, hk, by omega, .inl hnx⟩
    · rw [layS_part_other (fun k hk' e => hk ⟨k, hk', e⟩)]
      exact (h.old v h1 h2).mono (.inl hnx)
  have hnx2 : (X.add b).h.number + (X.add b).parts.length = X.h.number + X.parts.length + 1 := by show X.h.number + ((X.parts ++ [b]).length : Int) = _; simp; omega
  refine ⟨?_, ?_, h.says, h.place, hr, by rw [hnx2]; omega, ?_, ?_, ?_, hold, fun t c h1 h2 hc => none_old (h := (X.add b).h) (by show 1 ≤ X.h.area; omega) (by rw [hnx2]; omega) hold hτ t c h1 (by have : t ≤ X.h.turn := h2; omega) hc⟩
  · show X.used + secsN b.length = usedOf (X.parts ++ [b])
    rw [usedOf_append, usedOf_cons, usedOf_nil, hs]; omega
  · show X.parts ++ [b] ≠ []
    simp
  · show layS S _ (X.h.turn % 2) = headF X.h
    rw [hlow _ (by omega), h.head]
  · show layS S _ ((X.h.turn + 1) % 2) = zblk ∨ ∃ h', layS S _ ((X.h.turn + 1) % 2) = headF h' ∧ h'.U32 ∧ h'.turn < X.h.turn
    rw [hlow _ (by omega)]
    exact h.other
  · show PartsAt _ X.h 0 0 (X.parts ++ [b])
    refine PartsAt.snoc X.parts 0 0 (PartsAt.congr X.parts 0 0 (fun v h1 h2 => ?_) h.parts) ⟨X.h.turn, by omega, ?_⟩ hb
    · refine layS_part_other (fun k hk e => ?_)
      rw [show X.h.place + X.used + (k : Int) = X.h.place + (X.used + k) by omega] at e
      have := atF_inj (by omega) e.symm (by omega) (by omega)
      omega
    · have e0 : decide (0 + X.parts.length = 0) = false := by have := h.one; simpa using this
      rw [e0, Int.zero_add, ← hs, Nat.zero_add]
      exact layS_part (by omega) (by omega)

def Hd.laid (h : Hd) : Int × List Int := (h.turn % 2, headF h)

/-- A snapshot is laid, and its head. -/
theorem LawD.cp {X : Lg} {τ : Int} {S : Int → List Int} (h : LawD X τ S) {b : List Int} (hb : b.length ≤ 40000) (hr : (secsN b.length : Int) ≤ X.h.area) (hn : X.h.number + X.parts.length ≤ 1073741824) (ht1 : X.h.turn < 1073741824) {τ' : Int} (hτ : τ' ≤ 1) :
    LawD ((⟨X.cpH, [], 0, false⟩ : Lg).add b) τ' (layS (layS S (partL X.h X.cpH.number X.cpH.place true b)) [X.cpH.laid]) := by
  have ha := h.says.area; have ht := h.says.turn; have hs := h.sum; have hnum := h.says.number
  have hsp := secsN_pos b.length
  have hup := usedOf_pos X.parts
  have hlow : ∀ i, i < 2 → i ≠ (X.h.turn + 1) % 2 → layS (layS S (partL X.h X.cpH.number X.cpH.place true b)) [X.cpH.laid] i = S i := fun i hi hne => by
    rw [layS_other _ _ (by intro x hx; simp at hx; subst hx; exact fun e => hne e.symm)]
    exact layS_part_other (fun k _ => atF_ne (by omega) hi)
  have hhi : ∀ i, 2 ≤ i → layS (layS S (partL X.h X.cpH.number X.cpH.place true b)) [X.cpH.laid] i = layS S (partL X.h X.cpH.number X.cpH.place true b) i := fun i hi =>
    layS_other _ _ (by intro x hx; simp at hx; subst hx; show (X.h.turn + 1) % 2 ≠ i; omega)
  have hnx : ((⟨X.cpH, [], 0, false⟩ : Lg).add b).h.number + ((⟨X.cpH, [], 0, false⟩ : Lg).add b).parts.length = X.h.number + X.parts.length + 1 := rfl
  have hold : ∀ v, 0 ≤ v → v < 2 * X.h.area → OldC (((⟨X.cpH, [], 0, false⟩ : Lg).add b).h.number + ((⟨X.cpH, [], 0, false⟩ : Lg).add b).parts.length) τ' (layS (layS S (partL X.h X.cpH.number X.cpH.place true b)) [X.cpH.laid] (2 + v)) := by
    intro v h1 h2
    rw [hhi _ (by omega), hnx]
    by_cases hk : ∃ k : Nat, k < secsN b.length ∧ atF X.h.area (X.cpH.place + k) = 2 + v
    · obtain ⟨k, hk, e⟩ := hk
      rw [← e, layS_part (by omega) (by omega) k hk]
      exact .inr ⟨_, _, _, _, _, rfl, by omega, hb, hk, by show 0 ≤ X.h.number + (X.parts.length : Int); omega, .inl (by show X.h.number + (X.parts.length : Int) < _; omega)⟩
    · rw [layS_part_other (fun k hk' e => hk ⟨k, hk', e⟩)]
      exact (h.old v h1 h2).mono (.inl (by omega))
  have hpl : 0 ≤ X.cpH.place ∧ X.cpH.place < 2 * X.h.area := ⟨Int.emod_nonneg _ (by omega), Int.emod_lt_of_pos _ (by omega)⟩
  refine ⟨?_, by simp [Lg.add], ⟨by show 1 ≤ X.h.turn + 1 ∧ X.h.turn + 1 ≤ 1073741824; omega, ha, hpl.2, by show 1 ≤ X.h.number + (X.parts.length : Int) ∧ X.h.number + (X.parts.length : Int) ≤ 1073741824; omega⟩, hpl.1, by show 0 + (secsN b.length : Int) ≤ X.h.area; omega, by rw [hnx]; omega, ?_, ?_, ?_, hold, fun t c h1 h2 hc => none_old (h := ((⟨X.cpH, [], 0, false⟩ : Lg).add b).h) (by show 1 ≤ X.h.area; omega) (by rw [hnx]; omega) hold hτ t c h1 (by have : t ≤ X.h.turn + 1 := h2; omega) hc⟩
  · show 0 + (secsN b.length : Int) = usedOf ([] ++ [b])
    rw [List.nil_append, usedOf_cons, usedOf_nil]; omega
  · show layS (layS S _) [X.cpH.laid] ((X.h.turn + 1) % 2) = headF X.cpH
    exact layS_mem _ _ (List.pairwise_singleton ..) (List.mem_singleton.2 rfl)
  · refine .inr ⟨X.h, ?_, h.says.u32 h.place, by show X.h.turn < X.h.turn + 1; omega⟩
    show layS (layS S _) [X.cpH.laid] ((X.h.turn + 1 + 1) % 2) = headF X.h
    rw [hlow _ (by omega) (by omega), show (X.h.turn + 1 + 1) % 2 = X.h.turn % 2 by omega, h.head]
  · refine ⟨⟨X.h.turn, ?_, fun k hk => ?_⟩, hb, trivial⟩
    · show 1 ≤ X.h.turn ∧ X.h.turn ≤ X.h.turn + 1
      omega
    · show layS (layS S (partL X.h X.cpH.number X.cpH.place true b)) [X.cpH.laid] (atF X.h.area (X.cpH.place + 0 + k)) = cutF X.h.turn (X.cpH.number + 0) (decide (0 = 0)) b k
      rw [hhi _ (by obtain ⟨v, hv, e⟩ := atF_range (area := X.h.area) (p := X.cpH.place + 0 + k) (by omega); omega), Int.add_zero, Int.add_zero, layS_part (by omega) (by omega) k hk]
      rfl

/-- The same log, of a turn more. -/
def Lg.on (X : Lg) : Lg := { X with h := { X.h with turn := X.h.turn + 1 }, broken := false }

/-- A log is opened: its head of a turn more is laid. -/
theorem LawD.opened {X : Lg} {τ : Int} {S : Int → List Int} (h : LawD X τ S) (ht1 : X.h.turn < 1073741824) (hτ : τ ≤ X.h.turn + 1) : LawD X.on (X.h.turn + 1) (layS S [X.on.h.laid]) := by
  have ha := h.says.area; have ht := h.says.turn; have hs := h.sum; have hnum := h.says.number
  have hhi : ∀ i, i ≠ (X.h.turn + 1) % 2 → layS S [X.on.h.laid] i = S i := fun i hi =>
    layS_other _ _ (by intro x hx; simp at hx; subst hx; exact fun e => hi e.symm)
  have hat : ∀ p, layS S [X.on.h.laid] (atF X.h.area p) = S (atF X.h.area p) := fun p => hhi _ (atF_ne (by omega) (by omega))
  have hl : ∀ {n p t : Int} {s : Bool} {b : List Int}, LiesAt (layS S [X.on.h.laid]) X.on.h n p t s b → LiesAt S X.h n p t s b := fun h k hk => by
    have := h k hk
    rw [← this]
    exact (hat _).symm
  have hold : ∀ v, 0 ≤ v → v < 2 * X.h.area → OldC (X.h.number + X.parts.length) (X.h.turn + 1) (layS S [X.on.h.laid] (2 + v)) := by
    intro v h1 h2
    rw [hhi _ (by omega)]
    exact (h.old v h1 h2).mono (.inr ⟨rfl, hτ⟩)
  refine ⟨hs, h.one, ⟨by show 1 ≤ X.h.turn + 1 ∧ X.h.turn + 1 ≤ 1073741824; omega, ha, h.says.place, hnum⟩, h.place, h.fits, h.next, ?_, ?_, ?_, hold, fun t c h1 h2 hc hx => ?_⟩
  · exact layS_mem _ _ (List.pairwise_singleton ..) (List.mem_singleton.2 rfl)
  · refine .inr ⟨X.h, ?_, h.says.u32 h.place, by show X.h.turn < X.h.turn + 1; omega⟩
    show layS S [X.on.h.laid] ((X.h.turn + 1 + 1) % 2) = headF X.h
    rw [hhi _ (by omega), show (X.h.turn + 1 + 1) % 2 = X.h.turn % 2 by omega, h.head]
  · refine PartsAt.turn (h := X.h) (h' := X.on.h) rfl rfl rfl (by show X.h.turn ≤ X.h.turn + 1; omega) _ _ _ (PartsAt.congr X.parts 0 0 (fun v _ _ => hat _) h.parts)
  · have hx' := hl hx
    have ht2 : t ≤ X.h.turn + 1 := h2
    by_cases h3 : t ≤ X.h.turn
    · exact h.none t c h1 h3 hc hx'
    · have e := hx' 0 (by have := secsN_pos c.length; omega)
      obtain ⟨v, hv, hva⟩ := atF_range (area := X.h.area) (p := X.h.place + X.used + ((0 : Nat) : Int)) (by omega)
      have e' : S (2 + v) = cutF t (X.h.number + X.parts.length) false c 0 := by rw [← hva]; exact e
      have hnn := h.next
      rcases h.old v hv.1 hv.2 with hz | ⟨t', n', s', b', k', e2, g1, g2, g3, g4, g5⟩
      · rw [hz] at e'
        have := cutF_turn (turn := t) (number := X.h.number + X.parts.length) (by omega) false c 0
        rw [← e', be_zblk] at this
        omega
      · rw [e2] at e'
        have g6 : k' ≤ 65535 := by unfold secsN at g3; omega
        obtain ⟨c1, c2, _⟩ := cutF_names (by omega) (by omega) (by omega) (by omega) g6 (by omega) g2 hc e'
        have c3 := cutF_snap (by omega) (by omega) (by omega) (by omega) g6 (by omega) g2 hc e'
        rcases g5 with g5 | ⟨_, g5 | g5⟩
        · omega
        · rw [c3] at g5; simp at g5
        · omega

end Go.Proofs.Ytbimkhdiplnbfaa
end

section
namespace Go.Proofs.Ytbimkhdiplnbfaa
open Go.RowKit

/-- What a disk's sectors show. -/
def Dk.S (D : Dk) (i : Int) : List Int := D.shows i.toNat

theorem Dk.Good.calm {D : Dk} {N : Nat} (h : D.Good N) : D.Calm := ⟨h.dead, h.arm, h.fail⟩

theorem Dk.Good.S_write {D : Dk} {N : Nat} (h : D.Good N) {i j : Int} (hi : 0 ≤ i ∧ i < N) (hj : 0 ≤ j) (b : List Int) : (D.write i b).S j = if j = i then b else D.S j := by
  have ho : ¬ D.off i := by have := h.len; unfold Dk.off; omega
  unfold Dk.S
  rw [h.calm.shows_write]
  by_cases e : j = i
  · subst e; simp [ho]
  · rw [if_neg (by omega), if_neg e]

theorem Dk.Good.S_sync {D : Dk} {N : Nat} (h : D.Good N) {j : Int} (hj : 0 ≤ j ∧ j < N) : D.sync.S j = D.S j := by
  have hl := h.len
  unfold Dk.S
  rw [h.calm.sync (by omega)]
  have e : ((List.range D.arr.length).map D.shows).getD j.toNat [] = D.shows j.toNat := by
    rw [List.getD_eq_getElem?_getD, List.getElem?_map, List.getElem?_range (by omega)]
    rfl
  show (((((List.range D.arr.length).map D.shows).getD j.toNat [], (0 : Int)) :: []).getLast?.getD (zblk, 0)).1 = _
  rw [e]
  rfl

theorem layS_congr {N : Int} : ∀ (l : List (Int × List Int)) (S S' : Int → List Int), (∀ i, 0 ≤ i → i < N → S i = S' i) → ∀ i, 0 ≤ i → i < N → layS S l i = layS S' l i
  | [], _, _, h, i, h1, h2 => h i h1 h2
  | x :: l, S, S', h, i, h1, h2 => by
    unfold layS
    refine layS_congr l _ _ (fun j h3 h4 => ?_) i h1 h2
    show (if j = x.1 then x.2 else S j) = if j = x.1 then x.2 else S' j
    rw [h j h3 h4]

theorem Dk.Good.S_lays : ∀ (l : List (Int × List Int)) {D : Dk} {N : Nat}, D.Good N → (∀ x ∈ l, 0 ≤ x.1 ∧ x.1 < N) → ∀ j : Int, 0 ≤ j → j < N → (D.lays l).S j = layS D.S l j
  | [], _, _, h, _, j, h1, h2 => h.S_sync ⟨h1, h2⟩
  | (i, b) :: l, D, N, h, hl, j, h1, h2 => by
    have hi := hl (i, b) (List.mem_cons_self ..)
    have he := (h.callD (i := i) hi).1
    unfold Dk.lays layS
    rw [if_pos he, Dk.Good.S_lays l (h.write hi b) (fun x hx => hl x (List.mem_cons_of_mem _ hx)) j h1 h2]
    exact layS_congr (N := N) l _ _ (fun k h3 _ => h.S_write hi h3 b) j h1 h2

theorem LiesAt.congr {S S' : Int → List Int} {h : Hd} {n p t : Int} {s : Bool} {b : List Int} (hS : ∀ q, S' (atF h.area q) = S (atF h.area q)) (hl : LiesAt S h n p t s b) : LiesAt S' h n p t s b := fun k hk => by
  rw [hS]; exact hl k hk

theorem LawD.congr {X : Lg} {τ : Int} {S S' : Int → List Int} (h : LawD X τ S) (hS : ∀ i, 0 ≤ i → i < 2 + 2 * X.h.area → S' i = S i) : LawD X τ S' := by
  have ha := h.says.area
  have hat : ∀ q, S' (atF X.h.area q) = S (atF X.h.area q) := fun q => by
    obtain ⟨v, hv, e⟩ := atF_range (area := X.h.area) (p := q) (by omega)
    rw [e]; exact hS _ (by omega) (by omega)
  refine ⟨h.sum, h.one, h.says, h.place, h.fits, h.next, ?_, ?_, PartsAt.congr _ _ _ (fun v _ _ => hat _) h.parts, fun v h1 h2 => ?_, fun t b h1 h2 hb hl => h.none t b h1 h2 hb (LiesAt.congr (fun q => (hat q).symm) hl)⟩
  · rw [hS _ (by omega) (by omega)]; exact h.head
  · rw [hS _ (by omega) (by omega)]; exact h.other
  · rw [hS _ (by omega) (by omega)]; exact h.old v h1 h2

/-- A new log. -/
def fmtX (area : Nat) : Lg := ⟨fmtH area, [[]], 1, false⟩

theorem LawD.fmt {area : Nat} {S : Int → List Int} (ha : 4 ≤ area ∧ area ≤ 1000) (hz : ∀ i : Int, 0 ≤ i → i < 2 + 2 * area → S i = zblk) : LawD (fmtX area) 1 (layS (layS S (partL (fmtH area) 1 0 true [])) [(fmtH area).laid]) := by
  have hA : (fmtX area).h.area = area := rfl
  have hn : (fmtX area).h.number + (fmtX area).parts.length = 2 := rfl
  have hhi : ∀ i, 2 ≤ i → layS (layS S (partL (fmtH area) 1 0 true [])) [(fmtH area).laid] i = layS S (partL (fmtH area) 1 0 true []) i := fun i hi =>
    layS_other _ _ (by intro x hx; simp at hx; subst hx; show (1 : Int) % 2 ≠ i; omega)
  have hs : secsN ([] : List Int).length = 1 := rfl
  have hp := layS_part (S := S) (h := fmtH area) (number := 1) (place := 0) (snap := true) (b := []) (by show (1 : Int) ≤ area; omega) (by rw [hs]; show ((1 : Nat) : Int) ≤ 2 * (area : Int); omega)
  have hold : ∀ v, 0 ≤ v → v < 2 * (fmtX area).h.area → OldC ((fmtX area).h.number + (fmtX area).parts.length) 1 (layS (layS S (partL (fmtH area) 1 0 true [])) [(fmtH area).laid] (2 + v)) := by
    intro v h1 h2
    rw [hA] at h2
    rw [hhi _ (by omega), hn]
    by_cases hk : ∃ k : Nat, k < secsN ([] : List Int).length ∧ atF area (0 + k) = 2 + v
    · obtain ⟨k, hk, e⟩ := hk
      rw [← e, show (area : Int) = (fmtH area).area from rfl, hp k hk]
      exact .inr ⟨_, _, _, _, _, rfl, by show (1 : Int) ≤ 1 ∧ (1 : Int) ≤ 2000000000; omega, by simp, hk, by omega, .inl (by omega)⟩
    · rw [layS_part_other (fun k hk' e => hk ⟨k, hk', e⟩), hz _ (by omega) (by omega)]
      exact .inl rfl
  refine ⟨rfl, by simp [fmtX], ⟨by show (1 : Int) ≤ 1 ∧ (1 : Int) ≤ 1073741824; omega, by rw [hA]; omega, by show (0 : Int) < 2 * area; omega, by show (1 : Int) ≤ 1 ∧ (1 : Int) ≤ 1073741824; omega⟩, by show (0 : Int) ≤ 0; omega, by show (1 : Int) ≤ area; omega, by rw [hn]; omega, ?_, ?_, ?_, hold, fun t c h1 h2 hc => none_old (by rw [hA]; omega) (by rw [hn]; omega) hold (by omega) t c h1 (by have : t ≤ 1 := h2; omega) hc⟩
  · exact layS_mem _ _ (List.pairwise_singleton ..) (List.mem_singleton.2 rfl)
  · refine .inl ?_
    show layS (layS S _) [(fmtH area).laid] 0 = zblk
    rw [layS_other _ _ (by intro x hx; simp at hx; subst hx; show (1 : Int) % 2 ≠ 0; omega), layS_part_other (fun k _ => atF_ne (by show (1 : Int) ≤ area; omega) (by omega)), hz _ (by omega) (by omega)]
  · refine ⟨⟨1, by show (1 : Int) ≤ 1 ∧ (1 : Int) ≤ 1; omega, fun k hk => ?_⟩, by simp, trivial⟩
    show layS (layS S _) [(fmtH area).laid] (atF area (0 + 0 + k)) = cutF 1 (1 + 0) (decide (0 = 0)) [] k
    rw [hhi _ (by obtain ⟨v, hv, e⟩ := atF_range (area := (area : Int)) (p := 0 + 0 + k) (by omega); omega)]
    exact hp k hk

theorem layS_zl {area : Nat} {S : Int → List Int} {i : Int} (h1 : 0 ≤ i) (h2 : i < 2 + 2 * area) : layS S (fmt1 area) i = zblk := by
  have e : fmt1 area = (List.range (2 + 2 * area)).map fun (i : Nat) => ((i : Int), zblk) := by
    simp only [fmt1, raw, zl, List.map_map]; rfl
  rw [e]
  refine layS_mem _ _ ?_ (List.mem_map.2 ⟨i.toNat, by simp; omega, by rw [show ((i.toNat : Nat) : Int) = i by omega]⟩)
  rw [List.pairwise_map]
  refine (List.pairwise_lt_range (n := 2 + 2 * area)).imp (fun {x y} hx e => ?_)
  have : (x : Int) = y := e
  omega

theorem partL_raw {h : Hd} {number place : Int} {snap : Bool} {b : List Int} (hb : Bytes b) : raw (partSc h number place snap b hb) = partL h number place snap b := by
  simp only [raw, partSc, partL, List.map_map]; rfl

theorem S_bytes {D : Dk} {K : Nat} (h : D.Ok K) {i : Int} (hi : 0 ≤ i ∧ i < D.arr.length) : okBlk (D.S i) := shows_blk h (by omega)

theorem be_nonneg {bs : List Int} (h : Bytes bs) : 0 ≤ be bs := by
  unfold be
  split
  · rename_i b0 b1 b2 b3 r
    exact (be4_bound (fun x hx => h x (by simp at hx; rcases hx with rfl | rfl | rfl | rfl <;> simp))).1
  · omega

end Go.Proofs.Ytbimkhdiplnbfaa
end

section
namespace Go.Proofs.Ytbimkhdiplnbfaa
open Go.RowKit

open Classical in
/-- The rest of a part, from its k-th sector on, read off a disk. -/
noncomputable def goD (h : Hd) (number place turn : Int) (snap : Bool) : Nat → Nat → List Int → Dk → Option (List Int) × Int × Dk
  | 0, _, b, D => (some b, 0, D)
  | m + 1, k, b, D =>
    if D.callE (atF h.area (place + k)) false = 0 then
      if cutF turn number snap (overF b (48 * k - 4) ((D.reads (atF h.area (place + k))).drop 16)) k = D.reads (atF h.area (place + k)) then
        goD h number place turn snap m (k + 1) (overF b (48 * k - 4) ((D.reads (atF h.area (place + k))).drop 16)) (D.callD (atF h.area (place + k)) false)
      else (none, 0, D.callD (atF h.area (place + k)) false)
    else (none, D.callE (atF h.area (place + k)) false, D.callD (atF h.area (place + k)) false)

open Classical in
/-- The part that is whole at a place of a disk; an error; the disk. -/
noncomputable def wholeD (h : Hd) (number place : Int) (snap : Bool) (left : Int) (D : Dk) : Option (List Int) × Int × Dk :=
  if left = 0 then (none, 0, D) else
  if D.callE (atF h.area place) false = 0 then
    if Starts h left (D.reads (atF h.area place)) then
      if cutF (startT (D.reads (atF h.area place))) number snap (startB (D.reads (atF h.area place))) 0 = D.reads (atF h.area place) then
        goD h number place (startT (D.reads (atF h.area place))) snap (secsN (startN (D.reads (atF h.area place))).toNat - 1) 1 (startB (D.reads (atF h.area place))) (D.callD (atF h.area place) false)
      else (none, 0, D.callD (atF h.area place) false)
    else (none, 0, D.callD (atF h.area place) false)
  else (none, D.callE (atF h.area place) false, D.callD (atF h.area place) false)

/-- What is found behind some parts: all parts; an error; the disk. -/
noncomputable def foundD (h : Hd) : Nat → List (List Int) → Int → Dk → List (List Int) × Int × Dk
  | 0, ps, _, D => (ps, 0, D)
  | f + 1, ps, u, D =>
    match wholeD h (h.number + ps.length) (h.place + u) (decide (ps = [])) (h.area - u) D with
    | (some b, _, D') => foundD h f (ps ++ [b]) (u + secsN b.length) D'
    | (none, E, D') => (ps, E, D')

theorem Dk.Good.callR {D : Dk} {N : Nat} (h : D.Good N) {i : Int} (hi : 0 ≤ i ∧ i < N) : D.callE i false = 0 ∧ (D.callD i false).Good N ∧ D.reads i = D.S i ∧ (D.callD i false).S = D.S := by
  obtain ⟨h1, h2, h3, h4⟩ := h
  have n1 : ¬ (i < 0 ∨ (D.arr.length : Int) ≤ i) := by omega
  have e : D.callD i false = { D with fail := max (D.fail - 1) (-1), ops := D.ops + 1 } := by
    simp [Dk.callD, h1, h3, n1]
  have hr : D.callR i false = true := by simp [Dk.callR, h1, h3]; omega
  refine ⟨by simp [Dk.callE, h1, h3, n1], ?_, by unfold Dk.reads Dk.S; rw [if_pos hr], ?_⟩
  · rw [e]
    exact ⟨h1, h2, by show max (D.fail - 1) (-1) = -1; omega, h4⟩
  · rw [e]; rfl

theorem goD_good {h : Hd} {number place turn : Int} {snap : Bool} {N : Nat} (ha : 1 ≤ h.area) (hN : 2 + 2 * h.area ≤ N) : ∀ (m k : Nat) (b : List Int) (D : Dk), D.Good N → ∃ D', goD h number place turn snap m k b D = (goS D.S h number place turn snap m k b, 0, D') ∧ D'.Good N ∧ D'.S = D.S ∧ ∀ K, D.Ok K → D'.Ok (K + m)
  | 0, _, _, D, hg => ⟨D, rfl, hg, rfl, fun _ h => h⟩
  | m + 1, k, b, D, hg => by
    have hb := atF_bound (area := h.area) (place := place + k) ha
    obtain ⟨h1, h2, h3, h4⟩ := hg.callR (i := atF h.area (place + k)) (by omega)
    unfold goD goS
    rw [if_pos h1, h3]
    split
    · obtain ⟨D', e1, e2, e3, e4⟩ := goD_good ha hN m (k + 1) (overF b (48 * k - 4) ((D.S (atF h.area (place + k))).drop 16)) _ h2
      rw [h4] at e1 e3
      exact ⟨D', e1, e2, e3, fun K hK => Dk.Ok.mono (e4 _ (hK.callD _ _)) (by omega)⟩
    · exact ⟨_, rfl, h2, h4, fun K hK => Dk.Ok.mono (hK.callD _ _) (by omega)⟩

theorem wholeD_good {h : Hd} {number place left : Int} {snap : Bool} {N : Nat} {D : Dk} (ha : 1 ≤ h.area) (hN : 2 + 2 * h.area ≤ N) (hl : left ≤ 1000) (hg : D.Good N) : ∃ D', wholeD h number place snap left D = (wholeS D.S h number place snap left, 0, D') ∧ D'.Good N ∧ D'.S = D.S ∧ ∀ K, D.Ok K → D'.Ok (K + 1000) := by
  have hb := atF_bound (area := h.area) (place := place) ha
  obtain ⟨h1, h2, h3, h4⟩ := hg.callR (i := atF h.area place) (by omega)
  unfold wholeD wholeS
  by_cases hl0 : left = 0
  · rw [if_pos hl0, if_pos hl0]; exact ⟨D, rfl, hg, rfl, fun K hK => Dk.Ok.mono hK (by omega)⟩
  · rw [if_neg hl0, if_neg hl0, if_pos h1, h3]
    by_cases hs : Starts h left (D.S (atF h.area place))
    · rw [if_pos hs]
      by_cases hc : cutF (startT (D.S (atF h.area place))) number snap (startB (D.S (atF h.area place))) 0 = D.S (atF h.area place)
      · rw [if_pos hc, if_pos ⟨hs, hc⟩]
        obtain ⟨D', e1, e2, e3, e4⟩ := goD_good (number := number) (place := place) (turn := startT (D.S (atF h.area place))) (snap := snap) ha hN (secsN (startN (D.S (atF h.area place))).toNat - 1) 1 (startB (D.S (atF h.area place))) _ h2
        rw [h4] at e1 e3
        have h5 := hs.2.2.2
        exact ⟨D', e1, e2, e3, fun K hK => Dk.Ok.mono (e4 _ (hK.callD _ _)) (by omega)⟩
      · rw [if_neg hc, if_neg (fun q => hc q.2)]
        exact ⟨_, rfl, h2, h4, fun K hK => Dk.Ok.mono (hK.callD _ _) (by omega)⟩
    · rw [if_neg hs, if_neg (fun q => hs q.1)]
      exact ⟨_, rfl, h2, h4, fun K hK => Dk.Ok.mono (hK.callD _ _) (by omega)⟩

theorem foundD_good {h : Hd} {N : Nat} (ha : 1 ≤ h.area ∧ h.area ≤ 1000) (hN : 2 + 2 * h.area ≤ N) : ∀ (f : Nat) (ps : List (List Int)) (u : Int) (D : Dk), 0 ≤ u → D.Good N → ∃ D', foundD h f ps u D = (foundS D.S h f ps u, 0, D') ∧ D'.Good N ∧ D'.S = D.S ∧ ∀ K, D.Ok K → D'.Ok (K + 1000 * f)
  | 0, ps, u, D, _, hg => ⟨D, rfl, hg, rfl, fun _ h => h⟩
  | f + 1, ps, u, D, hu, hg => by
    obtain ⟨D', e1, e2, e3, e4⟩ := wholeD_good (number := h.number + ps.length) (place := h.place + u) (left := h.area - u) (snap := decide (ps = [])) (by omega) hN (by omega) hg
    unfold foundD foundS
    rw [e1]
    rcases wholeS D.S h (h.number + ps.length) (h.place + u) (decide (ps = [])) (h.area - u) with _ | b
    · exact ⟨D', rfl, e2, e3, fun K hK => Dk.Ok.mono (e4 K hK) (by omega)⟩
    · obtain ⟨D2, g1, g2, g3, g4⟩ := foundD_good ha hN f (ps ++ [b]) (u + secsN b.length) D' (by omega) e2
      rw [e3] at g1 g3
      exact ⟨D2, g1, g2, g3, fun K hK => Dk.Ok.mono (g4 _ (e4 K hK)) (by omega)⟩

end Go.Proofs.Ytbimkhdiplnbfaa
end

section
namespace Go.Proofs.Ytbimkhdiplnbfaa
open Go.RowKit

/-- A log as it was made. -/
def newLg (area : Nat) : Lg := ⟨fmtH area, [[]], 1, false⟩

set_option maxRecDepth 100000 in
set_option maxHeartbeats 4000000 in
theorem begun_run (w : World) : Calls Try.prog 15 #[] w fun e w' => ∃ q, e = .returned (.tuple #[.pointer (some ⟨q, 0, none⟩), .pointer (some ⟨w.heap.size + 1, 0, none⟩), .bool true]) ∧ Wk w w' q (w.heap.size + 1) (newLg 16) 34 20000 := by
  go_enter Try.func15, Try.ntmps15
  go_wp2_with (go_at_call 32; fail)
  refine (new_good_disk 34 w (by omega)).mono ?_
  rintro e w1 ⟨F1, rfl, d1, hF1, hu1, hg, hok⟩
  have D1 := Lib.hid d1; have HF1 := Lib.hid hF1; have HU1 := Lib.hid hu1; have HG := Lib.hid hg; have HOK := Lib.hid hok
  clear d1 hF1 hu1 hg hok
  simp only []
  go_wp2_with (go_at_call 23; fail)
  refine (format_good (area := 16) (N := 34) (K := 0) w1 D1.out HG.out HOK.out (by omega) (by omega) (by omega)).mono ?_
  rintro e w2 ⟨q, G2, F2, rfl, hw2, hG2, hF2, hu2⟩
  have hu : Upd (fun _ => False) w w2 := HU1.out.step hu2 (fun k hk e => by have := HF1.out k e; omega)
  have hs1 := HU1.out.size
  have HW : RowKit.Hid (Wk w w2 q (w.heap.size + 1) (newLg 16) 34 20000) := Lib.hid ⟨⟨_, _, _, hw2, fun k hk => by have := hG2 k hk; omega, fun k hk => (hF2 k hk).elim (HF1.out k) (fun e => by omega)⟩, hu⟩
  clear hw2 hG2 hF2 hu2 hu hs1 D1 HF1 HU1 HG HOK
  simp only []
  go_wp2
  go_returns
  exact ⟨_, rfl, HW.out⟩
end Go.Proofs.Ytbimkhdiplnbfaa
end

section
namespace Go.Proofs.Ytbimkhdiplnbfaa
open Go.RowKit

section
variable {F : Fence} {n : Nat} {P : Program}

/-- A round begins: a record turns, behind whatever was laid by the iterator. -/
def Begun (l : Nat) (W0 W : World) : Prop := ∃ W1 r, Upd (fun _ => False) W0 W1 ∧ W1.heap[l]? = some (.loop r) ∧ ∃ r', W = W1.putObj l (.loop r')

theorem Begun.cells {l : Nat} {_W0 W1 : World} {r : Loop} (hl : W1.heap[l]? = some (.loop r)) {k : Nat} {o : Obj} (r' : Obj) (h : W1.heap[k]? = some o) (hc : o.isCells = true) : (W1.putObj l r').heap[k]? = some o := by
  by_cases e : k = l
  · subst e; rw [hl] at h; injection h with h; subst h; cases hc
  · rw [World.putObj_heap_other e]; exact h

/-- The rule. T says what is known of an element: it may speak of the world in which it is told. -/
theorem wpIn_rangeFunc_told {α : Type} {g : Operand} {ps : Array Tmp} {assign body : Code} {Q : Exit → Act → World → Prop} {a : Act} {w : World}
    (hro : F.round = none) (h1 : 1 ≤ n) {gf : Nat} {lb : Array Value} (hg : a.eval g = .func (.func gf) #[] lb) (hFg : F.fn gf) (eg : ∀ args w, (callFunc gf args).run P w = .ok (.enter gf args) w)
    {encs : α → Array Value} (hps : ∀ x, (encs x).size = ps.size) (T : List α → α → World → World → Prop) (S : List α → Prop) (I : List α → World → Prop) (Kp : Nat → Prop) (hKp : ∀ k, Kp k → k < w.heap.size)
    (hIU : ∀ pre W W', I pre W → Upd (fun _ => False) W W' → I pre W') (hIP : ∀ pre W l o o', I pre W → w.heap.size ≤ l → W.heap[l]? = some o → o.isCells = false → I pre (W.putObj l o')) (h0 : I [] w)
    (hseq : ∀ (l : Nat) (J : List α → World → Prop) (W : World), J [] W → (∀ k, k < w.heap.size → W.heap[k]? = w.heap[k]?) → (∀ pre W W', J pre W → Upd (fun _ => False) W W' → J pre W') →
      (∀ pre x W0 W1, J pre W0 → Upd (fun _ => False) W0 W1 → T pre x W0 W1 → YieldAt F (n - 1 - 1) P l (encs x) W1 fun e W' => e = .returned (.bool true) ∧ J (pre ++ [x]) W' ∧ ∀ k, Kp k → W'.heap[k]? = W1.heap[k]?) →
      CallsIn F (n - 1) P gf (#[.func (.yield l) #[] #[]] ++ lb) W fun e W' => (∃ v, e = .returned v) ∧ ∃ xs, S xs ∧ J xs W')
    (a₁ : α → Act) (hassign : ∀ (l : Nat) (x : α) (W : World) (K : Act → World → Prop), K (a₁ x) W →
      assign.wpIn (F.inRound l) (n - 1 - 1) P (Exit.then K (fun _ _ _ => False)) { tmps := (ps.zip (encs x)).foldl (fun t (p, v) => t.setIfInBounds p v) a.tmps, defers := [] } W)
    (hbody : ∀ (l : Nat) (pre : List α) (x : α) (W0 W1 W : World) (r r' : Loop), w.heap.size ≤ l → I pre W0 → Upd (fun _ => False) W0 W1 → T pre x W0 W1 → W1.heap[l]? = some (.loop r) → W = W1.putObj l (.loop r') →
      body.wpIn (F.inRound l) (n - 1 - 1) P (fun e _ W3 => e = .normal ∧ I (pre ++ [x]) W3 ∧ KeepsFrom w.heap.size W W3 ∧ ∀ k, Kp k → W3.heap[k]? = W.heap[k]?) (a₁ x) W)
    (hdone : ∀ (xs : List α) (W : World), S xs → I xs W → W.heap[w.heap.size]? = some (.deferred (some [])) → Q .normal { a with defers := { target := .collected w.heap.size, args := #[] } :: a.defers } W) :
    (Code.rangeFunc g ps assign body).wpIn F n P Q a w := by
  refine wpIn_rangeFunc ?_
  intro fn hfn
  rw [hro]
  obtain ⟨m, hm⟩ : ∃ m, m = w.heap.size := ⟨_, rfl⟩
  obtain ⟨W1, hW1⟩ : ∃ W1, W1 = (w.alloc (.deferred (some []))).alloc (.loop { state := .ready, pending := none, fn, tmps := a.tmps, params := ps, assign, body, defers := w.heap.size }) := ⟨_, rfl⟩
  have hU1 : Upd (fun _ => False) w W1 := by rw [hW1]; exact ((Upd.refl _ w).alloc _).alloc _
  have hD1 : W1.heap[m]? = some (.deferred (some [])) := by rw [hW1, hm]; exact (alloc_lt (by simp)).trans (alloc_at rfl)
  obtain ⟨rec, hrec⟩ : ∃ rec : LoopState → Option Code → Loop, rec = fun st pe => { state := st, pending := pe, fn, tmps := a.tmps, params := ps, assign, body, defers := w.heap.size } := ⟨_, rfl⟩
  have hR1 : W1.heap[m + 1]? = some (.loop (rec .ready none)) := by rw [hW1, hm, hrec]; exact alloc_at (by simp)
  refine ⟨m + 1, [{ target := .collected m, args := #[] }], W1, { target := .fn (.func gf) lb, args := #[.func (.yield (m + 1)) #[] #[]] }, W1, gf, #[.func (.yield (m + 1)) #[] #[]] ++ lb, W1, ?_, ?_, ?_, ?_, fun _ => h1, ?_⟩
  · rw [hW1, hm]; exact run_enterLoop_outer _ _ _ _ _
  · simp only [resolve, hg]
    simp [go_sem]
  · intro f' hf'; simp [Target.leads] at hf'; subst hf'; exact hFg
  · simp [invoke, go_sem, eg]
  · have hread : ∀ {W W' : World} {k : Nat} {o : Obj}, Upd (fun _ => False) W W' → W.heap[k]? = some o → W'.heap[k]? = some o := fun hu h => (hu.block _ (lt_of_heap h) (fun e => e)).trans h
    refine (hseq (m + 1) (fun pre W => I pre W ∧ W.heap[m + 1]? = some (.loop (rec .ready none)) ∧ W.heap[m]? = some (.deferred (some []))) W1 ⟨hIU _ _ _ h0 hU1, hR1, hD1⟩ (fun k hk => hU1.block k hk (fun e => e)) (fun pre W W' hJ hu => ⟨hIU _ _ _ hJ.1 hu, hread hu hJ.2.1, hread hu hJ.2.2⟩) ?_).mono ?_
    · rintro pre x W0 Wy ⟨hi, hl, hd⟩ hu hT
      have hl1 := hread hu hl
      have hd1 := hread hu hd
      have hy := run_yield (P := P) (args := encs x) hl1 (by rw [hrec]; exact hps x)
      rw [hrec] at hy
      refine ⟨fn, _, assign, body, hy, roundIn_of_wpIn hfn (hassign _ x Wy _ ?_)⟩
      refine ⟨_, run_beginRound hl1 (by rw [hrec]), ?_⟩
      refine wpIn_mono (hbody (m + 1) pre x W0 Wy _ _ _ (by omega) hi hu hT hl1 rfl) ?_
      rintro e a3 W3 ⟨rfl, hi3, hk3, hkp3⟩
      have hl2 : (Wy.putObj (m + 1) (.loop { rec .ready none with state := .busy })).heap[m + 1]? = some (.loop { rec .ready none with state := .busy }) := World.putObj_heap_same (lt_of_heap hl1)
      have hl3 := hk3.same _ _ (by omega) hl2 rfl
      have hd3 := hk3.same m (.deferred (some [])) (by omega) ((World.putObj_heap_other (by omega)).trans hd1) rfl
      have hend := run_endRound (P := P) none hl3
      rw [hrec] at hend
      refine ⟨_, _, hend, rfl, ⟨hIP _ _ _ _ _ hi3 (by omega) hl3 rfl, ?_, (World.putObj_heap_other (by omega)).trans hd3⟩, fun k hk => ?_⟩
      · rw [hrec]; exact World.putObj_heap_same (lt_of_heap hl3)
      · have := hKp k hk
        rw [World.putObj_heap_other (by omega), hkp3 k hk, World.putObj_heap_other (by omega)]
    · rintro e W2 ⟨⟨v, rfl⟩, xs, hS, hi, hl, hd⟩
      have hend := run_endLoop (P := P) hl (by rw [hrec]; simp)
      rw [hrec] at hend
      refine ⟨none, _, hend, ?_⟩
      have := hdone xs _ hS (hIP _ _ _ _ (.loop { rec .ready none with state := .exhausted }) hi (by omega) hl rfl) (by rw [← hm]; exact (World.putObj_heap_other (by omega)).trans hd)
      rw [hm]
      rw [hrec, hm] at this
      exact this

end
end Go.Proofs.Ytbimkhdiplnbfaa
end

