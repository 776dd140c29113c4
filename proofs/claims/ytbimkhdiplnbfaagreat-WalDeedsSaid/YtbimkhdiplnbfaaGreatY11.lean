/- Walks: a part's sector. -/
import Derived.Test.YtbimkhdiplnbfaaGreatY10
import Derived.Deep.CutBlock
set_option linter.unusedVariables false
set_option linter.unusedSimpArgs false
namespace Go.Proofs.YtbimkhdiplnbfaaGreat
set_option maxRecDepth 1000000
set_option maxHeartbeats 16000000
section
open Go.RowKit
theorem secsI_nat {n : Nat} (h : n ≤ 40000) : secsI (n : Int) = (secsN n : Int) := by
 unfold secsI secsN
 rw [if_neg (by omega)]; omega
theorem BytesIn.slice' {w : World} {v : Value} {bs : List Int} (h : BytesIn w v bs) : ∃ sa c, v = .slice sa bs.length c := by
 rcases h with ⟨rfl, rfl⟩ | ⟨a, c, rfl, _⟩
 ·exact ⟨none, 0, rfl⟩
 ·exact ⟨_, c, rfl⟩
theorem manyF_bound {n : Nat} (h : n ≤ 40000) (snap : Bool) : 0 ≤ manyF n snap ∧ manyF n snap ≤ 65535 := by
 unfold manyF secsN; split <;> omega
theorem bytes_sub {w : World} {v : Value} {bs : List Int} {fr tn : Nat} (hb : BytesIn w v bs) (h1 : fr ≤ tn) (h2 : tn ≤ bs.length) :
  ∃ v', (Instr.sliceAt 39 v (some (.int .i64 fr)) (some (.int .i64 tn)) none).run Tryz.prog w = .ok v' w ∧ BytesIn w v' ((bs.drop fr).take (tn - fr)) := by
 have ht : Tryz.prog.underlying 39 = some (.slice (Tryz.prog.elem 39)) := by kernel_rfl
 have hz : (sizeOf (Tryz.prog.elem 39)).run Tryz.prog w = .ok 1 w := by kernel_rfl
 have hlen : ((bs.drop fr).take (tn - fr)).length = tn - fr := by simp; omega
 rw [run_sliceAt_slice w 39 v _ _ _ ht]
 rcases hb with ⟨rfl, rfl⟩ | ⟨a, c, rfl, g1, g2, g3⟩
 ·obtain rfl : tn = 0 := by simpa using h2
  obtain rfl : fr = 0 := by omega
  refine ⟨.slice none 0 0, ?_, .inl ⟨rfl, by simp⟩⟩
  rw [run_slice_lh w 39 none 0 0 ht .i64 .i64 _ _ (by omega) (by omega) (by omega), hz]
  rfl
 ·refine ⟨sliced (some a) fr tn c 1, ?_, .inr ⟨if c = fr then a else a.add fr, c - fr, ?_, ?_, ?_, ?_⟩⟩
  ·rw [run_slice_lh w 39 (some a) bs.length c ht .i64 .i64 _ _ (by omega) (by omega) (by omega), hz]
   simp
  ·rw [hlen]; unfold sliced; simp; split <;> rfl
  ·rw [hlen]; omega
  ·omega
  ·intro i u hi
   have hil : i < tn - fr := by
    have := (List.getElem?_eq_some_iff.1 hi).1
    simp [bcells] at this; omega
   rw [if_neg (by omega), Addr.add_add]
   refine g3 (fr + i) u ?_
   rw [← hi]
   simp [bcells, hil]
theorem run_exec_slice {P : Program} {o : Oper} {a : Act} {w w' : World} {x lo hi : Operand} {v vl vh u : Value} {t : TypeId} (ho : o.op = .slice t x (some lo) (some hi) none) (hx : a.eval x = v) (hl : a.eval lo = vl) (hh : a.eval hi = vh) (hr : (Instr.sliceAt t v (some vl) (some vh) none).run P w = .ok u w') : (execOp a.eval o).run P w = .ok (.value u) w' := by
 unfold execOp
 simp only [ho, Option.map_some, Option.map_none, hx, hl, hh, Sem.run_bind, hr, Result.andThen_ok, Sem.run_pure]
theorem allF_eq {b : List Int} {k fr tn : Nat} (h1 : fr = 48 * k - 4) (h2 : tn = min (48 * k + 44) b.length) : allF b k = ((if k = 0 then layF b.length 32 else []) ++ (b.drop fr).take (tn - fr)) ++ List.replicate (48 - ((if k = 0 then layF b.length 32 else []) ++ (b.drop fr).take (tn - fr)).length) 0 := by
 subst h1; subst h2; rfl
theorem allF_part {b : List Int} {k fr tn : Nat} (h1 : fr = 48 * k - 4) (h2 : tn = min (48 * k + 44) b.length) (_h3 : fr ≤ tn) : ((if k = 0 then layF b.length 32 else []) ++ (b.drop fr).take (tn - fr)).length ≤ 48 := by
 have e : (if k = 0 then layF b.length 32 else ([] : List Int)).length = if k = 0 then 4 else 0 := by split <;> simp [layF_length]
 rw [List.length_append, e]
 simp only [List.length_take, List.length_drop]
 split <;> omega
theorem bytes_part {b : List Int} (h : Bytes b) (fr n : Nat) : Bytes ((b.drop fr).take n) := fun x hx => h x (List.mem_of_mem_drop (List.mem_of_mem_take hx))
theorem cutF_eq {turn number many : Int} {snap : Bool} {b lead al : List Int} {k : Nat} (hm : many = manyF b.length snap) (hl : lead = ((layF turn 32 ++ layF number 32) ++ layF k 16) ++ layF many 16) (ha : al = allF b k) : cutF turn number snap b k = (lead ++ layF (sumF (lead ++ al)) 32) ++ al := by
 subst hm; subst hl; subst ha; rfl
theorem cut_any {v : Value} {b : List Int} {turn number : Int} {snap : Bool} {k : Nat} (w : World) (ht : 0 ≤ turn ∧ turn ≤ 4294967295) (hn : 0 ≤ number ∧ number ≤ 4294967295) (hbi : BytesIn w v b) (hby : Bytes b) (hl : b.length ≤ 40000) (hk : k < secsN b.length) :
  Calls Tryz.prog 162 #[.int .i64 turn, .int .i64 number, .bool snap, v, .int .i64 k] w fun e w' => e = .returned (.agg (bcells (cutF turn number snap b k)).toArray) ∧ Upd (fun _ => False) w w' := by
 obtain ⟨sa, sc, rfl⟩ := hbi.slice'
 have HBI := Lib.hid hbi; have HBY := Lib.hid hby
 have hsec := secsI_nat hl
 have hkl : 48 * k ≤ b.length + 3 := by unfold secsN at hk; omega
 have hk9 : k ≤ 834 := by unfold secsN at hk; omega
 have hm9 : secsN b.length < 1000 := by unfold secsN; omega
 have hmb := manyF_bound hl snap
 have q1 : IntKind.u32.wrap turn = turn := by rw [IntKind.wrap_u32]; omega
 have q2 : IntKind.u32.wrap number = number := by rw [IntKind.wrap_u32]; omega
 have q3 : IntKind.u32.wrap (b.length : Int) = b.length := by rw [IntKind.wrap_u32]; omega
 have q4 : IntKind.u16.wrap (k : Int) = k := by rw [IntKind.wrap_u16]; omega
 have q5 : IntKind.u16.wrap (manyF b.length snap) = manyF b.length snap := by rw [IntKind.wrap_u16]; omega
 clear hbi hby
 go_enter Tryz.func162, Tryz.ntmps162
 go_upto_region 1 with fail
 obtain ⟨w0, hw0⟩ : ∃ w0, w0 = w.alloc (.cells (bcells zblk).toArray 48) := ⟨_, rfl⟩
 refine (?_ : Code.wp _ _ _ _ (w.alloc (.cells (bcells zblk).toArray 48)))
 rw [← hw0]
 have HU0 : RowKit.Hid (Upd (fun _ => False) w w0) := Lib.hid (by rw [hw0]; exact (Upd.refl _ w).alloc _)
 have HB0 : RowKit.Hid (w0.heap[w.heap.size]? = some (.cells (bcells zblk).toArray 48 (0, 0))) := Lib.hid (by rw [hw0]; exact alloc_at rfl)
 have HBI0 := Lib.hid (HBI.out.kept HU0.out)
 clear hw0
 go_wp2_with (go_at_call 113; fail)
 refine (sectors_any _ _).mono ?_
 rintro e w1 ⟨rfl, rfl⟩
 rw [hsec]
 simp only []
 go_upto_if 19 with fail
 go_cut [11] from 16 to 73 (fun m wr => m = .int .i64 (manyF b.length snap) ∧ w0 = wr)
 case first =>
  cases snap with
  |false =>
   go_wp2
   go_meet
   case rel => exact ⟨by simp [manyF], rfl⟩
  |true =>
   have hor := or_sign hm9
   go_wp2
   go_meet
   case rel => exact ⟨by simp [manyF], rfl⟩
 case rest =>
  obtain ⟨rfl, rfl⟩ := hcut
  obtain ⟨many, hmany⟩ : ∃ many, many = manyF b.length snap := ⟨_, rfl⟩
  rw [← hmany] at hmb q5 ⊢
  have HMY := Lib.hid hmany
  clear hmany hsec hm9
  go_wp2_with (go_at_call 189; fail)
  refine (put32_any (v := .slice none 0 0) (bs := []) (x := b.length) w0 (by simp) (.inl ⟨rfl, rfl⟩) (by omega)).mono ?_
  rintro e w1 ⟨u1, rfl, ho1, hu1⟩
  have HO1 := Lib.hid ho1; have HU1 := Lib.hid hu1
  clear ho1 hu1
  simp only []
  go_upto_if 27 with fail
  go_cut [12] from 16 to 73 (fun out wr => OwnB wr w0.heap.size out (if k = 0 then layF b.length 32 else []) ∧ Upd (fun _ => False) w0 wr)
  case first =>
   rcases Nat.eq_zero_or_pos k with rfl | hk0
   ·go_wp2
    go_meet
    case rel => exact ⟨by simpa using HO1.out, HU1.out⟩
   ·have hk1 : (k : Int) > 0 := by omega
    go_wp2
    go_meet
    case rel =>
     refine ⟨?_, HU1.out⟩
     rw [if_neg (by omega)]
     exact World.ownsRow_nil _ _ _ _
  case rest =>
   obtain ⟨ho2, hu2⟩ := hcut
   have HO2 := Lib.hid ho2; have HU2 := Lib.hid hu2
   clear ho2 hu2 HO1 HU1
   go_upto_region 8 with fail
   obtain ⟨fr, hfr⟩ : ∃ fr : Nat, fr = 48 * k - 4 := ⟨_, rfl⟩
   rw [show (if 48 * (k : Int) - 4 < 0 then 0 else 48 * (k : Int) - 4) = (fr : Int) by rw [hfr]; split <;> omega]
   obtain ⟨tn, htn⟩ : ∃ tn : Nat, tn = min (48 * k + 44) b.length := ⟨_, rfl⟩
   have hft : fr ≤ tn := by omega
   have htb : tn ≤ b.length := by omega
   have HFR := Lib.hid hfr; have HTN := Lib.hid htn
   clear hfr htn
   go_cut [12] from 16 to 73 (fun out wr => OwnB wr w0.heap.size out ((if k = 0 then layF b.length 32 else []) ++ (b.drop fr).take (tn - fr)) ∧ Upd (fun _ => False) w0 wr)
   case first =>
    iterate 31 go_step
    rw [show (if (b.length : Int) < 48 * (k : Int) + 48 - 4 then (b.length : Int) else 48 * (k : Int) + 48 - 4) = (tn : Int) by rw [HTN.out]; split <;> omega]
    obtain ⟨vs, hvs, hbs⟩ := bytes_sub (HBI0.out.kept HU2.out) hft htb
    refine wpList_exec rfl (run_exec_slice rfl rfl rfl rfl hvs) ?_
    have hpl := allF_part HFR.out HTN.out hft
    rw [List.length_append] at hpl
    refine wpList_appB rfl (.tmp 32) (.tmp 42) rfl rfl HO2.out rfl hbs (by omega) HU2.out.size ?_
    intro v' w4 g1 g2
    have G1 := Lib.hid g1
    have HU4 : RowKit.Hid (Upd (fun _ => False) w0 w4) := Lib.hid (HU2.out.step g2 (fun j hj e => by have := (World.ownsRow.lt HO2.out j e).1; omega))
    clear g1 g2 hvs hbs hpl
    go_wp2
    go_meet
    case rel => exact ⟨G1.out, HU4.out⟩
   case rest =>
    obtain ⟨ho3, hu3⟩ := hcut
    have hpl := allF_part HFR.out HTN.out hft
    have hal := allF_eq (b := b) HFR.out HTN.out
    have hpb : Bytes ((if k = 0 then layF b.length 32 else []) ++ (b.drop fr).take (tn - fr)) := Bytes.append (by split; exact layF_bytes _ _; exact fun x hx => by simp at hx) (bytes_part HBY.out _ _)
    obtain ⟨pm, hpm⟩ : ∃ pm, pm = (if k = 0 then layF b.length 32 else []) ++ (b.drop fr).take (tn - fr) := ⟨_, rfl⟩
    rw [← hpm] at ho3 hpl hal hpb
    obtain ⟨sb, cb, rfl⟩ := ho3.slice'
    have HO3 := Lib.hid ho3; have HU3 := Lib.hid hu3; have HAL := Lib.hid hal; have HPB := Lib.hid hpb
    clear ho3 hu3 hal hpb hpm HO2 HU2 HBI0 HBI
    go_upto_region 9 with fail
    iterate 13 go_step
    refine wpList_zerB rfl (.tmp 44) (.tmp 47) (m := 48 - pm.length) rfl rfl HO3.out rfl (by omega) (by omega) HU3.out.size ?_
    intro v5 w5 g1 g2
    rw [← HAL.out] at g1
    have hal48 : (allF b k).length = 48 := by rw [HAL.out]; simp; omega
    have halb : Bytes (allF b k) := by rw [HAL.out]; exact HPB.out.append (Bytes.zeros _)
    obtain ⟨al, hal⟩ : ∃ al, al = allF b k := ⟨_, rfl⟩
    rw [← hal] at g1 hal48 halb
    have G5 := Lib.hid g1; have HA := Lib.hid hal; have HA48 := Lib.hid hal48; have HAB := Lib.hid halb
    have HU5 : RowKit.Hid (Upd (fun _ => False) w0 w5) := Lib.hid (HU3.out.step g2 (fun j hj e => by have := (World.ownsRow.lt HO3.out j e).1; omega))
    clear g1 g2 hal hal48 halb HO3 HU3 HAL HPB hpl
    go_wp2_with (go_at_call 189; fail)
    refine (put32_any (v := .slice none 0 0) (bs := []) (x := turn) w5 (by simp) (.inl ⟨rfl, rfl⟩) ht).mono ?_
    rintro e w6 ⟨u6, rfl, g6, k6⟩
    have G6 := Lib.hid g6; have HU6 := Lib.hid (HU5.out.trans k6); have H56 := Lib.hid k6
    clear g6 k6
    simp only []
    go_wp2_with (go_at_call 189; fail)
    refine (put32_any (x := number) w6 (by simp [layF_length]) G6.out.bytesIn hn).mono ?_
    rintro e w7 ⟨u7, rfl, g7, k7⟩
    have G7 := Lib.hid g7; have HU7 := Lib.hid (HU6.out.trans k7); have H57 := Lib.hid (H56.out.trans k7)
    clear g7 k7 G6 HU6 H56
    simp only []
    go_wp2_with (go_at_call 147; fail)
    refine (put16_any (x := (k : Int)) w7 (by simp [layF_length]) G7.out.bytesIn (by omega)).mono ?_
    rintro e w8 ⟨u8, rfl, g8, k8⟩
    have G8 := Lib.hid g8; have HU8 := Lib.hid (HU7.out.trans k8); have H58 := Lib.hid (H57.out.trans k8)
    clear g8 k8 G7 HU7 H57
    simp only []
    go_wp2_with (go_at_call 147; fail)
    refine (put16_any (x := many) w8 (by simp [layF_length]) G8.out.bytesIn hmb).mono ?_
    rintro e w9 ⟨u9, rfl, g9, k9⟩
    simp only [List.nil_append] at g9
    obtain ⟨lead, hlead⟩ : ∃ lead, lead = ((layF turn 32 ++ layF number 32) ++ layF k 16) ++ layF many 16 := ⟨_, rfl⟩
    rw [← hlead] at g9
    have hl12 : lead.length = 12 := by rw [hlead]; simp [layF_length]
    have hlb : Bytes lead := by rw [hlead]; exact ((((layF_bytes _ _).append (layF_bytes _ _)).append (layF_bytes _ _)).append (layF_bytes _ _))
    have G9 := Lib.hid g9; have HU9 := Lib.hid (HU8.out.trans k9); have H59 := Lib.hid (H58.out.trans k9); have HLE := Lib.hid hlead; have HL12 := Lib.hid hl12; have HLB := Lib.hid hlb
    clear g9 k9 G8 HU8 H58 hlead hl12 hlb
    simp only []
    go_wp2_with (go_at_call 99; fail)
    refine (clone_any w9 (by have := HL12.out; omega) G9.out.bytesIn).mono ?_
    rintro e wa ⟨ua, rfl, ga, _, ka⟩
    have GA := Lib.hid ga; have HUA := Lib.hid (HU9.out.trans ka); have H5A := Lib.hid (H59.out.trans ka); have H9A := Lib.hid ka
    clear ga ka
    simp only []
    iterate 4 go_step
    refine wpList_appB rfl (.tmp 63) (.tmp 64) rfl rfl GA.out rfl (G5.out.bytesIn.kept H5A.out) (by have := HL12.out; have := HA48.out; omega) H9A.out.size ?_
    intro vb wb gb kb
    have GB := Lib.hid gb
    have HUB : RowKit.Hid (Upd (fun _ => False) w0 wb) := Lib.hid (HUA.out.step kb (fun j hj e => by have := (World.ownsRow.lt GA.out j e).1; have := HU9.out.size; omega))
    have H5B : RowKit.Hid (Upd (fun _ => False) w5 wb) := Lib.hid (H5A.out.step kb (fun j hj e => by have := (World.ownsRow.lt GA.out j e).1; have := H59.out.size; omega))
    have H9B : RowKit.Hid (Upd (fun _ => False) w9 wb) := Lib.hid (H9A.out.step kb (fun j hj e => by have := (World.ownsRow.lt GA.out j e).1; omega))
    clear gb kb GA HUA H5A H9A
    go_wp2_with (go_at_call 190; fail)
    refine (sum_any wb (by have := HL12.out; have := HA48.out; rw [List.length_append]; omega) GB.out.bytesIn (HLB.out.append HAB.out)).mono ?_
    rintro e wc2 ⟨rfl, kc⟩
    have HUC := Lib.hid (HUB.out.trans kc); have H5C := Lib.hid (H5B.out.trans kc); have H9C := Lib.hid (H9B.out.trans kc)
    clear kc GB HUB H5B H9B
    simp only []
    go_wp2_with (go_at_call 189; fail)
    refine (put32_any (x := sumF (lead ++ al)) wc2 (by have := HL12.out; omega) (G9.out.bytesIn.kept H9C.out) (sumF_bound _)).mono ?_
    rintro e wd ⟨ud, rfl, gd, kd⟩
    have GD := Lib.hid gd; have HUD := Lib.hid (HUC.out.trans kd); have H5D := Lib.hid (H5C.out.trans kd); have HCD := Lib.hid kd
    clear gd kd H5C H9C
    simp only []
    iterate 4 go_step
    refine wpList_appB rfl (.tmp 69) (.tmp 70) rfl rfl GD.out rfl (G5.out.bytesIn.kept H5D.out) (by have := HL12.out; have := HA48.out; rw [List.length_append, layF_length]; omega) HCD.out.size ?_
    intro vf wf gf kf
    have HUF : RowKit.Hid (Upd (fun _ => False) w0 wf) := Lib.hid (HUD.out.step kf (fun j hj e => by have := (World.ownsRow.lt GD.out j e).1; have := HUC.out.size; omega))
    rw [← cutF_eq HMY.out HLE.out HA.out] at gf
    have hc64 : (cutF turn number snap b k).length = 64 := by
     rw [cutF_eq HMY.out HLE.out HA.out]
     have := HL12.out; have := HA48.out
     simp [layF_length]; omega
    obtain ⟨cu, hcu⟩ : ∃ cu, cu = cutF turn number snap b k := ⟨_, rfl⟩
    rw [← hcu] at gf hc64
    obtain ⟨g1, c1, rfl⟩ := gf.slice_of (by intro e; rw [e] at hc64; simp at hc64)
    have hbf := (HUF.out.block _ (lt_of_heap HB0.out) (fun e => e)).trans HB0.out
    have hz : (bcells zblk).toArray.size = 64 := by simp [bcells, zblk]
    have hbl : (bcells cu).length = 64 := by simp [bcells, hc64]
    have hth : wf.there w.heap.size 0 (bcells cu).toArray.size := by
     have := there_block hbf
     rwa [show (bcells zblk).toArray.size = (bcells cu).toArray.size by rw [hz]; simp [hbl]] at this
    have hw := heap_setCells_whole (vs := bcells cu) hbf (by rw [hz, hbl])
    have hi : (Tryz.prog.info? 48).map (·.size) = some (bcells cu).length := by rw [Tryz.info56p, hbl]
    have HTH := Lib.hid hth; have HW := Lib.hid hw; have HR3 := Lib.hid (rangeAt_own gf); have HI := Lib.hid hi; have HCU := Lib.hid hcu
    have H1B := Lib.hid (all_oneCell_toArray (bcells_one cu))
    have hat := array_any g1 c1 wf
    rw [hc64]
    clear gf kf hcu hc64 hbf hz hbl hth hw hi GD HUD H5D HUC HCD G9 HU9 H59 G5 HU5 HA HA48 HAB HLE HL12 HLB HMY
    iterate 3 go_step
    refine wpList_load_mid rfl 48 (.tmp 72) rfl g1 0 rfl (bcells cu) _ HR3.out Tryz.underlying48 rfl HI.out ?_
    refine wpList_store_mid rfl 48 (.tmp 10) (.tmp 73) rfl w.heap.size 0 (bcells cu).toArray rfl rfl HTH.out (by rw [HI.out]; simp) H1B.out ?_
    go_wp2
    have hl3 := run_loadVar_mid (P := Tryz.prog) (wf.setCells w.heap.size 0 (bcells cu)) w.heap.size 0 48 (bcells cu) _ (rangeAt_block HW.out) Tryz.underlying48 rfl HI.out
    refine bodyPost_ret (results_cell1 Tryz.results162 rfl hl3) rfl ⟨by rw [HCU.out], ?_⟩
    exact (Upd.setCells (F := fun k => w.heap.size ≤ k) (Nat.le_refl _) (bcells cu) 0 ((HU0.out.trans HUF.out).mono (fun _ _ e => e.elim))).mono (fun j hj e => by omega)
end
end Go.Proofs.YtbimkhdiplnbfaaGreat
