/- Walks: the law WalDeeds. -/
import Derived.Test.YtbimkhdiplnbfaaGreatY2
import Derived.Test.YtbimkhdiplnbfaaGreatY18
import Derived.Test.YtbimkhdiplnbfaaGreatY34
set_option linter.unusedVariables false
set_option linter.unusedSimpArgs false
namespace Go.Proofs.YtbimkhdiplnbfaaGreat
set_option maxRecDepth 1000000
set_option maxHeartbeats 16000000
section
open Go.RowKit Go.Shelf Go.Joins
def DRows (w : World) (sa : Option Addr) (sn : Nat) (x : Nat → DeedR) (bs : Nat → List Int) (B : Nat → Nat → Bool) : Prop :=
 ∀ i, i < sn → (∃ b o, sa = some ⟨b, o, none⟩ ∧ b < w.heap.size ∧ w.cell? ⟨b, o + i * 4, none⟩ = some (.int .i64 (x i).k) ∧ w.cell? ⟨b, o + i * 4 + 1, none⟩ = some (.int .i64 (x i).n) ∧
  w.cell? ⟨b, o + i * 4 + 2, none⟩ = some (.slice (x i).ba (x i).bn (x i).bc) ∧ w.cell? ⟨b, o + i * 4 + 3, none⟩ = some (.slice (x i).ka (x i).kn (x i).kc)) ∧ DeedIn w (x i) (bs i) (B i)
theorem DRows.kept {w w' : World} {sa : Option Addr} {sn : Nat} {x : Nat → DeedR} {bs : Nat → List Int} {B : Nat → Nat → Bool} (h : DRows w sa sn x bs B) (hu : Upd (fun _ => False) w w') : DRows w' sa sn x bs B := fun i hi => by
 obtain ⟨⟨b, o, h1, h2, h3, h4, h5, h6⟩, h7⟩ := h i hi
 exact ⟨⟨b, o, h1, Nat.lt_of_lt_of_le h2 hu.size, cell_kept hu h3, cell_kept hu h4, cell_kept hu h5, cell_kept hu h6⟩, h7.kept hu⟩
theorem rem40n (on : Int) : ∃ k : Nat, k < 40 ∧ IntKind.i64.wrap ((IntKind.u64.wrap on).tmod 40) = (k : Int) := by
 have h0 : 0 ≤ IntKind.u64.wrap on := by rw [IntKind.wrap_u64]; omega
 rw [Int.tmod_eq_emod_of_nonneg h0]
 have h1 := Int.emod_nonneg (IntKind.u64.wrap on) (b := 40) (by decide)
 have h2 := Int.emod_lt_of_pos (IntKind.u64.wrap on) (b := 40) (by decide)
 exact ⟨((IntKind.u64.wrap on) % 40).toNat, by omega, by rw [IntKind.wrap_i64]; omega⟩
theorem boolsAt_nil {w : World} : BoolsAt w none [] := by exact fun i v hv => by simp at hv
def TwoD (w0 W : World) (d o : Nat) (F F2 : Nat → Prop) (K : Nat) : Prop :=
 ∃ D, Dsk W d D F ∧ Dsk W o D F2 ∧ D.Ok K ∧ (∀ k, F k → ¬ F2 k) ∧ (∀ k, F k ∨ F2 k → w0.heap.size ≤ k) ∧ Upd (fun _ => False) w0 W
theorem new_ddst {w0 W : World} {d o m n : Nat} {F F2 : Nat → Prop} (hn : 1 ≤ n ∧ n ≤ 40) (h1 : Dsk W d (Dk.new n) F) (h2 : Dsk W o (Dk.new n) F2) (hm : W.heap[m]? = some (.cells #[.pointer (some ⟨o, 0, none⟩), .int .i64 0, .int .i64 0, .int .i64 0, .int .i64 0, .slice none 0 0, .slice none 0 0, .bool false, .bool true] 37 (0, 0)))
  (hF : ∀ k, F k → w0.heap.size ≤ k ∧ ¬ F2 k ∧ k ≠ m) (hF2 : ∀ k, F2 k → w0.heap.size ≤ k ∧ k ≠ m) (hmm : w0.heap.size ≤ m) (hu : Upd (fun _ => False) w0 W) : DdSt w0 W d o m (.pointer none) 0 := by
 refine ⟨Dk.new n, X0, true, fun _ => False, F, F2, fun _ => False, ⟨h1, h2, ⟨⟨none, 0, none, 0, 0, hm, ⟨fun k hk => hk.elim, [], rfl, fun W hW => ⟨fun i v hv => by simp at hv, fun i v x hv => by simp at hv⟩⟩, Nat.le_refl _, by unfold maxLen; omega, fun _ => rfl⟩, fun k hk => hk.elim⟩, fun _ => rfl, fun e => absurd e (by decide), fun k hk => ⟨(hF k hk).2.1, fun e => e, (hF k hk).2.2⟩, fun e => absurd e (by decide), fun k hk => hk.elim, fun e => (hF2 m e).2 rfl⟩, ⟨Dk.new_ok (by omega) _, by simp [Dk.new]; omega, fun e => absurd e (by decide), fun _ => rfl⟩, fun k hk => ?_, hu⟩
 rcases hk with hk | ⟨e, _⟩ | hk | hk | hk
 ·exact (hF k hk).1
 ·cases e
 ·exact (hF2 k hk).1
 ·exact hk.elim
 ·exact hk ▸ hmm
theorem wpList_store48 {ops : Array Oper} {rest : List Oper} {op : Oper} {a : Act} {wa : World} {cs : Array Value} {BB : List Value} {Q : Exit → Act → World → Prop} (hgd : op.guard = none) (x y : Operand) (ho : op.op = .store 48 x y) (hx : a.eval x = .pointer (some ⟨wa.heap.size, 0, none⟩)) (hy : a.eval y = .agg BB.toArray) (hc : cs.size = 64) (hB : BB.length = 64) (h1 : ∀ v ∈ BB, v.oneCell' = true)
  (h : ∀ wb, wb.heap[wa.heap.size]? = some (.cells BB.toArray 48 (0, 0)) → Upd (fun _ => False) wa wb → wpList Tryz.prog ops Q rest (a.put op.dst undef) wb) : wpList Tryz.prog ops Q (op :: rest) a (wa.alloc (.cells cs 48)) := by
 have hx1 : (wa.alloc (.cells cs 48)).heap[wa.heap.size]? = some (.cells cs 48 (0, 0)) := alloc_at rfl
 have ht := there_block hx1
 rw [show cs.size = BB.toArray.size by simp [hc, hB]] at ht
 refine wpList_store_mid hgd 48 x y ho wa.heap.size 0 BB.toArray hx hy ht (by rw [Tryz.info56p]; simp [hB]) (all_oneCell_toArray h1) (h _ ?_ ?_)
 ·have := heap_setCells_whole (vs := BB) (old := cs) hx1 (by simp [hc, hB])
  simpa using this
 ·have u1 : Upd (fun k => k = wa.heap.size) wa ((wa.alloc (.cells cs 48)).setCells wa.heap.size 0 BB.toArray.toList) := Upd.setCells (F := fun k => k = wa.heap.size) rfl _ 0 ((Upd.refl _ wa).alloc _)
  exact (Upd.refl (fun _ => False) wa).step u1 (fun k hk e => by omega)
theorem deeds_run (on : Int) (sa : Option Addr) (sn sc : Nat) (x : Nat → DeedR) (bs : Nat → List Int) (B : Nat → Nat → Bool) (w : World) (hsn : sn ≤ 9223372036854775807) (hr : DRows w sa sn x bs B) :
  Calls Tryz.prog 3 #[.int .i64 on, .slice sa sn sc] w fun e w' => e = .returned (.bool true) ∧ Upd (fun _ => False) w w' := by
 obtain ⟨k0, hk0, hk1⟩ := rem40n on
 obtain ⟨n, hn⟩ : ∃ n, n = k0 + 1 := ⟨_, rfl⟩
 have hkn : IntKind.i64.wrap ((k0 : Int) + 1) = (n : Int) := by rw [IntKind.wrap_i64]; omega
 have hn40 : 1 ≤ n ∧ n ≤ 40 := by omega
 have HRW := Lib.hid hr; have HN := Lib.hid hn40
 clear hr hk0 hn hn40
 go_enter Tryz.func3, Tryz.ntmps3
 go_wp2_with (go_at_call 12; fail)
 refine (wakes04_run w).mono ?_
 rintro e w1 ⟨rfl, hu1⟩
 have HU1 := Lib.hid hu1
 clear hu1
 simp only []
 go_wp2_with (go_at_call 13; fail)
 refine (new_good_disk n w1 (by have := HN.out; omega)).mono ?_
 rintro e w2 ⟨F, rfl, hd1, hF1, hu2, _, _⟩
 have HD1 := Lib.hid hd1; have HF1 := Lib.hid hF1; have HU2 := Lib.hid hu2
 clear hd1 hF1 hu2
 simp only []
 go_wp2_with (go_at_call 13; fail)
 refine (new_good_disk n w2 (by have := HN.out; omega)).mono ?_
 rintro e w3 ⟨F2, rfl, hd2, hF2, hu3, _, _⟩
 have HD2 := Lib.hid hd2; have HF2 := Lib.hid hF2; have HU3 := Lib.hid hu3
 clear hd2 hF2 hu3
 simp only []
 go_upto_region 9 with fail
 clear hk1 hkn
 obtain ⟨w4, hw4⟩ : ∃ w4, w4 = w3.alloc (.cells #[.pointer (some ⟨w2.heap.size + 1, 0, none⟩), .int .i64 0, .int .i64 0, .int .i64 0, .int .i64 0, .slice none 0 0, .slice none 0 0, .bool false, .bool true] 37) := ⟨_, rfl⟩
 have hx4 : w4.heap[w3.heap.size]? = some (.cells #[.pointer (some ⟨w2.heap.size + 1, 0, none⟩), .int .i64 0, .int .i64 0, .int .i64 0, .int .i64 0, .slice none 0 0, .slice none 0 0, .bool false, .bool true] 37 (0, 0)) := by rw [hw4]; exact alloc_at rfl
 have hu4 : Upd (fun _ => False) w3 w4 := by rw [hw4]; exact (Upd.refl _ w3).alloc _
 rw [← hw4]
 have hz1 := HU1.out.size; have hz2 := HU2.out.size; have hz3 := HU3.out.size
 have hst := new_ddst (w0 := w) HN.out ((HD1.out.kept HU3.out (fun _ _ e => e)).kept hu4 (fun _ _ e => e)) (HD2.out.kept hu4 (fun _ _ e => e)) hx4 (fun k hk => by
  have h1 := HF1.out k hk; have h2 := HD1.out.lt k hk
  exact ⟨by omega, fun e => by have := HF2.out k e; omega, by omega⟩) (fun k hk => by
  have h1 := HF2.out k hk; have h2 := HD2.out.lt k hk
  exact ⟨by omega, by omega⟩) (by omega) (((HU1.out.trans HU2.out).trans HU3.out).trans hu4)
 have HST := Lib.hid hst
 clear hw4 hx4 hu4 hz1 hz2 hz3 hst HD1 HD2 HF1 HF2 HU1 HU2 HU3
 generalize w1.heap.size + 1 = d at *
 generalize w2.heap.size + 1 = o at *
 generalize w3.heap.size = m at *
 go_upto_block 0 with fail
 go_upto_region 11 with fail
 go_loopg [10, 47] sn (fun gk v i wr => ∃ k : Nat, k ≤ sn ∧ k ≤ 50 ∧ gk = sn - k ∧ i = .int .i64 k ∧ DdSt w wr d o m v k)
 case atStart => exact ⟨0, by omega, by omega, rfl, rfl, HST.out⟩
 case round =>
  clear HST
  obtain ⟨k, hk, hk50, rfl, rfl, hst⟩ := hrel
  have hu : Upd (fun _ => False) w wr := by
   obtain ⟨_, _, _, _, _, _, _, _, _, _, h⟩ := hst
   exact h
  have HST := Lib.hid hst; have HU := Lib.hid hu
  clear hst
  by_cases hks : k < sn
  ·have hksi : (k : Int) < sn := by omega
   obtain ⟨⟨sb, so, hsa, hsb, y0, y1, y2, y3⟩, _⟩ := (HRW.out.kept hu) k hks
   subst hsa
   by_cases h50 : k = 50
   ·have hb50 : ((k : Int) == 50) = true := by simp; omega
    clear h50
    go_upto_region 19 with fail
    obtain ⟨y, hy⟩ : ∃ y, y = x k := ⟨_, rfl⟩
    rw [← hy]
    obtain ⟨wv, hwv⟩ : ∃ wv, wv = wr.alloc (.cells #[.int .i64 y.k, .int .i64 y.n, .slice y.ba y.bn y.bc, .slice y.ka y.kn y.kc] 42) := ⟨_, rfl⟩
    have huv : Upd (fun _ => False) wr wv := by rw [hwv]; exact (Upd.refl _ wr).alloc _
    rw [← hwv]
    have HST := Lib.hid (HST.out.kept huv)
    clear hwv huv hy y0 y1 y2 y3 hsb hu hb50
    obtain ⟨D, X, no, G, F, F2, C, hM, hV, hS, hUp⟩ := HST.out
    have hok9 : D.Ok 1099511627774 := hV.ok.mono (by omega)
    have hokN : D.Ok 1099500000 := hV.ok.mono (by omega)
    have hc1 := crash_any wv none 0 [] boolsAt_nil (by simp) hM.d1 hok9
    simp only [List.length_nil] at hc1
    have HC1 := Lib.hid hc1; have HM := Lib.hid hM; have HS := Lib.hid hS; have HUP := Lib.hid hUp; have HOK9 := Lib.hid hok9; have HOKN := Lib.hid hokN
    clear hc1 hM hV hS hUp hok9 hokN
    go_wp2_with (go_at_call 16; fail)
    refine HC1.out.mono ?_
    rintro e w8 ⟨rfl, F', h3, g3, u3⟩
    have hx2 : ∀ k, F2 k → ¬ F k := fun k hk e => (HM.out.aF k e).1 hk
    have hc2 := crash_any w8 none 0 [] boolsAt_nil (by simp) (HM.out.d2.kept u3 hx2) HOK9.out
    simp only [List.length_nil] at hc2
    have HC2 := Lib.hid hc2; have H3 := Lib.hid h3; have HG3 := Lib.hid g3; have HU3 := Lib.hid u3
    clear hc2 h3 g3 u3 hx2 HC1
    simp only []
    go_wp2_with (go_at_call 16; fail)
    refine HC2.out.mono ?_
    rintro e w9 ⟨rfl, F2', h5, g5, u5⟩
    have hlt := HM.out.lt
    have hz3 := HU3.out.size
    have hap : ∀ k, F' k → ¬ F2' k := fun k hk e => by
     have h8 := H3.out.lt k hk
     rcases g5 k e with q | q
     ·rcases HG3.out k hk with r | r
      ·exact (HM.out.aF k r).1 q
      ·have := hlt k (.inr (.inr (.inl q))); omega
     ·omega
    have hup8 := HUP.out.size
    have htd : TwoD w w9 d o F' F2' 1099500000 := ⟨D.crash [], H3.out.kept u5 (fun k hk e => by
      have h8 := H3.out.lt k hk
      rcases HG3.out k hk with r | r
      ·exact (HM.out.aF k r).1 e
      ·have := hlt k (.inr (.inr (.inl e))); omega), h5, HOKN.out.crash [], hap, fun k hk => by
     rcases hk with q | q
     ·rcases HG3.out k q with r | r
      ·exact HS.out k (.inl r)
      ·omega
     ·rcases g5 k q with r | r
      ·exact HS.out k (.inr (.inr (.inl r)))
      ·omega, (HUP.out.step HU3.out (fun k hk e => by have := HS.out k (.inl e); omega)).step u5 (fun k hk e => by have := HS.out k (.inr (.inr (.inl e))); omega)⟩
    have HTD := Lib.hid htd
    clear hlt hz3 hap hup8 htd h5 g5 u5 HM HS HUP HOK9 HOKN HC2 H3 HG3 HU3
    simp only []
    go_upto_block 2 with fail
    go_upto_region 22 with fail
    go_loopg [81] n (fun gk i wr => ∃ j : Nat, j ≤ n ∧ gk = n - j ∧ i = .int .i64 j ∧ TwoD w wr d o F' F2' (1099500000 + j))
    case atStart => exact ⟨0, by omega, rfl, rfl, HTD.out⟩
    case round =>
     clear HTD
     obtain ⟨j, hj, rfl, rfl, D9, e1, e2, e3, e4, e5, e6⟩ := hrel
     have HE2 := Lib.hid e2; have HE3 := Lib.hid e3; have HE4 := Lib.hid e4; have HE5 := Lib.hid e5; have HE6 := Lib.hid e6
     by_cases hjn : j < n
     ·have hjni : (j : Int) < n := by omega
      have hrd := read_any (j : Int) wr e1 (e3.mono (by have := HN.out; omega))
      obtain ⟨BB, hBB⟩ : ∃ BB, BB = bcells (D9.reads j) := ⟨_, rfl⟩
      rw [← hBB] at hrd
      have hbl : (D9.reads j).length = 64 := (reads_blk HE3.out _).1
      have HNE := Lib.hid (show ∀ W : World, (binOp .neq 48 (.agg BB.toArray) (.agg BB.toArray)).run Tryz.prog W = .ok (.bool false) W from fun W => by rw [hBB, neq_bytes W hbl hbl]; simp)
      have HBB := Lib.hid hBB; have HBL := Lib.hid (show BB.length = 64 by rw [hBB, bcells_length]; exact hbl)
      have H1B := Lib.hid (show ∀ v ∈ BB, v.oneCell' = true by rw [hBB]; exact bcells_one _)
      have HEL2 := Lib.hid e2.lt
      have HRD := Lib.hid hrd
      clear hrd hBB hbl e1 e2 e3 e4 e5 e6
      go_wp2_with (go_at_call 17; fail)
      refine HRD.out.mono ?_
      rintro e wa ⟨rfl, hd8, hu8⟩
      have HD8 := Lib.hid hd8; have HU8 := Lib.hid hu8
      clear hd8 hu8 HRD
      simp only []
      iterate 13 go_step
      refine wpList_store48 rfl (.tmp 15) (.tmp 88) rfl rfl rfl rfl HBL.out H1B.out (fun wb hb ub => ?_)
      have hz8 := HU8.out.size
      have HT15 := Lib.hid (show wr.heap.size ≤ wa.heap.size from hz8)
      have HXB := Lib.hid hb
      have HD8 := Lib.hid (HD8.out.kept ub (fun _ _ e => e))
      have HE2 := Lib.hid (show Dsk wb o D9 F2' from (HE2.out.kept HU8.out (fun k hk e => HE4.out k e hk)).kept ub (fun _ _ e => e))
      have HF2L := Lib.hid (show ∀ k, F2' k → k < wr.heap.size from fun k hk => HEL2.out k hk)
      have HU8 := Lib.hid (show Upd F' wr wb from HU8.out.trans (ub.mono (fun _ _ e => e.elim)))
      have hrd := read_any (j : Int) wb HE2.out (HE3.out.mono (by have := HN.out; omega))
      rw [← HBB.out] at hrd
      have HRD := Lib.hid hrd
      clear hrd hz8 hb ub
      generalize wa.heap.size = t15 at *
      go_wp2_with (go_at_call 17; fail)
      refine HRD.out.mono ?_
      rintro e wc ⟨rfl, hd9, hu9⟩
      have HD9 := Lib.hid hd9; have HU9 := Lib.hid hu9
      clear hd9 hu9 HRD
      simp only []
      iterate 13 go_step
      refine wpList_store48 rfl (.tmp 17) (.tmp 94) rfl rfl rfl rfl HBL.out H1B.out (fun wd hb ub => ?_)
      have hb15 := (ub.block _ (lt_of_heap ((HU9.out.block _ (lt_of_heap HXB.out) (fun e => by have := HF2L.out _ e; have := HT15.out; omega)).trans HXB.out)) (fun e => e)).trans ((HU9.out.block _ (lt_of_heap HXB.out) (fun e => by have := HF2L.out _ e; have := HT15.out; omega)).trans HXB.out)
      have HB15 := Lib.hid hb15; have HB17 := Lib.hid hb; have HUB := Lib.hid ub
      have HTD := Lib.hid (show TwoD w wd d o F' F2' (1099500000 + (j + 1)) from ⟨D9.callD j false, (HD8.out.kept HU9.out (fun k hk e => HE4.out k hk e)).kept ub (fun _ _ e => e), HD9.out.kept ub (fun _ _ e => e), HE3.out.callD _ _, HE4.out, HE5.out, ((HE6.out.step HU8.out (fun k hk e => by have := HE5.out k (.inl e); omega)).step HU9.out (fun k hk e => by have := HE5.out k (.inr e); omega)).trans ub⟩)
      clear hb15 hb ub
      generalize wc.heap.size = t17 at *
      go_upto_region 26 with fail
      iterate 1 go_step
      refine wpList_load_mid rfl 48 (.tmp 15) rfl t15 0 rfl BB _ (rangeAt_block HB15.out) Tryz.underlying48 rfl (by rw [Tryz.info56p, HBL.out]) ?_
      refine wpList_load_mid rfl 48 (.tmp 17) rfl t17 0 rfl BB _ (rangeAt_block HB17.out) Tryz.underlying48 rfl (by rw [Tryz.info56p, HBL.out]) ?_
      refine wpList_exec rfl (run_exec_neq rfl rfl rfl (HNE.out _)) ?_
      have hcv3 : IntKind.i64.wrap ((j : Int) + 1) = (j : Int) + 1 := by rw [IntKind.wrap_i64]; have := HN.out; omega
      go_wp2
      go_roundg (n - (j + 1))
      case measure => omega
      case rel => exact ⟨j + 1, by omega, rfl, congrArg _ (by omega), HTD.out⟩
     ·skip
      obtain rfl : j = n := by omega
      go_wp2
      go_ret
      exact ⟨rfl, HE6.out⟩
   ·have hb50 : ((k : Int) == 50) = false := by simp; omega
    have hk49 : k ≤ 49 := by omega
    have hx50 : ¬ (k : Int) = 50 := by omega
    go_upto_region 13 with fail
    obtain ⟨y, hy⟩ : ∃ y, y = x k := ⟨_, rfl⟩
    have HDE : RowKit.Hid (DeedIn w y (bs k) (B k)) := Lib.hid (by rw [hy]; exact (HRW.out k hks).2)
    rw [← hy]
    clear y0 y1 y2 y3 hsb hu
    obtain ⟨wv, hwv⟩ : ∃ wv, wv = wr.alloc (.cells #[.int .i64 y.k, .int .i64 y.n, .slice y.ba y.bn y.bc, .slice y.ka y.kn y.kc] 42) := ⟨_, rfl⟩
    have huv : Upd (fun _ => False) wr wv := by rw [hwv]; exact (Upd.refl _ wr).alloc _
    have hbx : wv.heap[wr.heap.size]? = some (.cells #[.int .i64 y.k, .int .i64 y.n, .slice y.ba y.bn y.bc, .slice y.ka y.kn y.kc] 42 (0, 0)) := by rw [hwv]; exact alloc_at rfl
    rw [← hwv]
    have hdo := wdoes_any wv (HST.out.kept huv) (by omega) HDE.out
    unfold deedV at hdo
    obtain ⟨z0, z1, z2, z3⟩ := cells4_of hbx
    have HDO := Lib.hid hdo
    clear hdo hwv huv hbx hy HST
    go_wp2_with (go_at_call 14; fail)
    refine HDO.out.mono ?_
    rintro e w5 ⟨v5, rfl, hst5⟩
    have HST5 := Lib.hid hst5
    clear hst5 HDO z0 z1 z2 z3
    simp only []
    go_wp2_with (go_at_call 15; fail)
    refine (wsaid_any _ HST5.out (by omega)).mono ?_
    rintro e w6 ⟨rfl, hu6⟩
    have HST6 := Lib.hid (HST5.out.kept hu6)
    clear hu6 HST5
    simp only []
    go_wp2
    go_roundg (sn - (k + 1))
    case measure => omega
    case rel => exact ⟨k + 1, by omega, by omega, rfl, congrArg _ (by omega), HST6.out⟩
  ·obtain rfl : k = sn := by omega
   clear hu
   obtain ⟨D, X, no, G, F, F2, C, hM, hV, hS, hUp⟩ := HST.out
   have hok9 : D.Ok 1099511627774 := hV.ok.mono (by omega)
   have hokN : D.Ok 1099500000 := hV.ok.mono (by omega)
   have hc1 := crash_any wr none 0 [] boolsAt_nil (by simp) hM.d1 hok9
   simp only [List.length_nil] at hc1
   have HC1 := Lib.hid hc1; have HM := Lib.hid hM; have HS := Lib.hid hS; have HUP := Lib.hid hUp; have HOK9 := Lib.hid hok9; have HOKN := Lib.hid hokN
   clear hc1 hM hV hS hUp hok9 hokN
   go_wp2_with (go_at_call 16; fail)
   refine HC1.out.mono ?_
   rintro e w8 ⟨rfl, F', h3, g3, u3⟩
   have hx2 : ∀ k, F2 k → ¬ F k := fun k hk e => (HM.out.aF k e).1 hk
   have hc2 := crash_any w8 none 0 [] boolsAt_nil (by simp) (HM.out.d2.kept u3 hx2) HOK9.out
   simp only [List.length_nil] at hc2
   have HC2 := Lib.hid hc2; have H3 := Lib.hid h3; have HG3 := Lib.hid g3; have HU3 := Lib.hid u3
   clear hc2 h3 g3 u3 hx2 HC1
   simp only []
   go_wp2_with (go_at_call 16; fail)
   refine HC2.out.mono ?_
   rintro e w9 ⟨rfl, F2', h5, g5, u5⟩
   have hlt := HM.out.lt
   have hz3 := HU3.out.size
   have hap : ∀ k, F' k → ¬ F2' k := fun k hk e => by
    have h8 := H3.out.lt k hk
    rcases g5 k e with q | q
    ·rcases HG3.out k hk with r | r
     ·exact (HM.out.aF k r).1 q
     ·have := hlt k (.inr (.inr (.inl q))); omega
    ·omega
   have hup8 := HUP.out.size
   have htd : TwoD w w9 d o F' F2' 1099500000 := ⟨D.crash [], H3.out.kept u5 (fun k hk e => by
     have h8 := H3.out.lt k hk
     rcases HG3.out k hk with r | r
     ·exact (HM.out.aF k r).1 e
     ·have := hlt k (.inr (.inr (.inl e))); omega), h5, HOKN.out.crash [], hap, fun k hk => by
    rcases hk with q | q
    ·rcases HG3.out k q with r | r
     ·exact HS.out k (.inl r)
     ·omega
    ·rcases g5 k q with r | r
     ·exact HS.out k (.inr (.inr (.inl r)))
     ·omega, (HUP.out.step HU3.out (fun k hk e => by have := HS.out k (.inl e); omega)).step u5 (fun k hk e => by have := HS.out k (.inr (.inr (.inl e))); omega)⟩
   have HTD := Lib.hid htd
   clear hlt hz3 hap hup8 htd h5 g5 u5 HM HS HUP HOK9 HOKN HC2 H3 HG3 HU3
   simp only []
   go_upto_block 2 with fail
   go_upto_region 22 with fail
   go_loopg [81] n (fun gk i wr => ∃ j : Nat, j ≤ n ∧ gk = n - j ∧ i = .int .i64 j ∧ TwoD w wr d o F' F2' (1099500000 + j))
   case atStart => exact ⟨0, by omega, rfl, rfl, HTD.out⟩
   case round =>
    clear HTD
    obtain ⟨j, hj, rfl, rfl, D9, e1, e2, e3, e4, e5, e6⟩ := hrel
    have HE2 := Lib.hid e2; have HE3 := Lib.hid e3; have HE4 := Lib.hid e4; have HE5 := Lib.hid e5; have HE6 := Lib.hid e6
    by_cases hjn : j < n
    ·have hjni : (j : Int) < n := by omega
     have hrd := read_any (j : Int) wr e1 (e3.mono (by have := HN.out; omega))
     obtain ⟨BB, hBB⟩ : ∃ BB, BB = bcells (D9.reads j) := ⟨_, rfl⟩
     rw [← hBB] at hrd
     have hbl : (D9.reads j).length = 64 := (reads_blk HE3.out _).1
     have HNE := Lib.hid (show ∀ W : World, (binOp .neq 48 (.agg BB.toArray) (.agg BB.toArray)).run Tryz.prog W = .ok (.bool false) W from fun W => by rw [hBB, neq_bytes W hbl hbl]; simp)
     have HBB := Lib.hid hBB; have HBL := Lib.hid (show BB.length = 64 by rw [hBB, bcells_length]; exact hbl)
     have H1B := Lib.hid (show ∀ v ∈ BB, v.oneCell' = true by rw [hBB]; exact bcells_one _)
     have HEL2 := Lib.hid e2.lt
     have HRD := Lib.hid hrd
     clear hrd hBB hbl e1 e2 e3 e4 e5 e6
     go_wp2_with (go_at_call 17; fail)
     refine HRD.out.mono ?_
     rintro e wa ⟨rfl, hd8, hu8⟩
     have HD8 := Lib.hid hd8; have HU8 := Lib.hid hu8
     clear hd8 hu8 HRD
     simp only []
     iterate 13 go_step
     refine wpList_store48 rfl (.tmp 15) (.tmp 88) rfl rfl rfl rfl HBL.out H1B.out (fun wb hb ub => ?_)
     have hz8 := HU8.out.size
     have HT15 := Lib.hid (show wr.heap.size ≤ wa.heap.size from hz8)
     have HXB := Lib.hid hb
     have HD8 := Lib.hid (HD8.out.kept ub (fun _ _ e => e))
     have HE2 := Lib.hid (show Dsk wb o D9 F2' from (HE2.out.kept HU8.out (fun k hk e => HE4.out k e hk)).kept ub (fun _ _ e => e))
     have HF2L := Lib.hid (show ∀ k, F2' k → k < wr.heap.size from fun k hk => HEL2.out k hk)
     have HU8 := Lib.hid (show Upd F' wr wb from HU8.out.trans (ub.mono (fun _ _ e => e.elim)))
     have hrd := read_any (j : Int) wb HE2.out (HE3.out.mono (by have := HN.out; omega))
     rw [← HBB.out] at hrd
     have HRD := Lib.hid hrd
     clear hrd hz8 hb ub
     generalize wa.heap.size = t15 at *
     go_wp2_with (go_at_call 17; fail)
     refine HRD.out.mono ?_
     rintro e wc ⟨rfl, hd9, hu9⟩
     have HD9 := Lib.hid hd9; have HU9 := Lib.hid hu9
     clear hd9 hu9 HRD
     simp only []
     iterate 13 go_step
     refine wpList_store48 rfl (.tmp 17) (.tmp 94) rfl rfl rfl rfl HBL.out H1B.out (fun wd hb ub => ?_)
     have hb15 := (ub.block _ (lt_of_heap ((HU9.out.block _ (lt_of_heap HXB.out) (fun e => by have := HF2L.out _ e; have := HT15.out; omega)).trans HXB.out)) (fun e => e)).trans ((HU9.out.block _ (lt_of_heap HXB.out) (fun e => by have := HF2L.out _ e; have := HT15.out; omega)).trans HXB.out)
     have HB15 := Lib.hid hb15; have HB17 := Lib.hid hb; have HUB := Lib.hid ub
     have HTD := Lib.hid (show TwoD w wd d o F' F2' (1099500000 + (j + 1)) from ⟨D9.callD j false, (HD8.out.kept HU9.out (fun k hk e => HE4.out k hk e)).kept ub (fun _ _ e => e), HD9.out.kept ub (fun _ _ e => e), HE3.out.callD _ _, HE4.out, HE5.out, ((HE6.out.step HU8.out (fun k hk e => by have := HE5.out k (.inl e); omega)).step HU9.out (fun k hk e => by have := HE5.out k (.inr e); omega)).trans ub⟩)
     clear hb15 hb ub
     generalize wc.heap.size = t17 at *
     go_upto_region 26 with fail
     iterate 1 go_step
     refine wpList_load_mid rfl 48 (.tmp 15) rfl t15 0 rfl BB _ (rangeAt_block HB15.out) Tryz.underlying48 rfl (by rw [Tryz.info56p, HBL.out]) ?_
     refine wpList_load_mid rfl 48 (.tmp 17) rfl t17 0 rfl BB _ (rangeAt_block HB17.out) Tryz.underlying48 rfl (by rw [Tryz.info56p, HBL.out]) ?_
     refine wpList_exec rfl (run_exec_neq rfl rfl rfl (HNE.out _)) ?_
     have hcv3 : IntKind.i64.wrap ((j : Int) + 1) = (j : Int) + 1 := by rw [IntKind.wrap_i64]; have := HN.out; omega
     go_wp2
     go_roundg (n - (j + 1))
     case measure => omega
     case rel => exact ⟨j + 1, by omega, rfl, congrArg _ (by omega), HTD.out⟩
    ·skip
     obtain rfl : j = n := by omega
     go_wp2
     go_ret
     exact ⟨rfl, HE6.out⟩
end
end Go.Proofs.YtbimkhdiplnbfaaGreat
