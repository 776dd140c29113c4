/- TaskSource, walked. -/
import Derived.Test.YtbonfdkgkcbkmaaGreatW18
set_option linter.unusedVariables false
set_option linter.unusedSimpArgs false

namespace Go.Proofs.YtbonfdkgkcbkmaaGreat
set_option maxRecDepth 100000
open Go.RowKit Go.Shelf

attribute [local go_sem] Oper.semAt_some
set_option maxHeartbeats 32000000 in
theorem source_law (x : InM) (n0 n1 pl : Int) (w : World) (hr : RecsIn w x.ra x.recs) (hl : x.recs.length ≤ 140737488351232) :
    Calls Tryz.prog 5 #[.agg #[.int .i64 x.src, .slice x.ra x.recs.length x.rc], .agg #[.int .i64 n0, .int .i64 n1], .int .i64 pl] w fun e w' => e = .returned (.bool true) ∧ Upd0 w w' := by
  obtain ⟨b, hb⟩ : ∃ b, b = w.heap.size := ⟨_, rfl⟩
  obtain ⟨w1, hw1⟩ : ∃ w1, w1 = (w.alloc (.cells #[.int .i64 x.src, .slice x.ra x.recs.length x.rc] 41)).alloc (.cells #[.int .i64 n0, .int .i64 n1] 30) := ⟨_, rfl⟩
  have hu1 : Upd0 w w1 := by rw [hw1]; exact ((Upd.refl _ w).alloc _).alloc _
  have HX1 := Lib.hid (show w1.heap[b]? = some (.cells #[.int .i64 x.src, .slice x.ra x.recs.length x.rc] 41 (0, 0)) by rw [hw1, hb]; exact (alloc_lt (by simp)).trans (alloc_at rfl))
  have HN1 := Lib.hid (show w1.heap[b + 1]? = some (.cells #[.int .i64 n0, .int .i64 n1] 30 (0, 0)) by rw [hw1, hb]; exact alloc_at (by simp))
  have HU1 := Lib.hid hu1; have HB := Lib.hid hb; have HR := Lib.hid hr
  clear hu1 hr
  go_enter Tryz.func5, Tryz.ntmps5
  go_wp2_with (go_at_call 20; fail)
  rw [← hw1, ← hb]
  clear hw1 hb
  (with_reducible refine (wakes19_any w1).mono ?_)
  rintro _ w2 ⟨rfl, hu2⟩
  have HX2 := Lib.hid ((hu2.block _ (lt_of_heap HX1.out) (fun e => e)).trans HX1.out)
  have HN2 := Lib.hid ((hu2.block _ (lt_of_heap HN1.out) (fun e => e)).trans HN1.out)
  have HU2 := Lib.hid (HU1.out.trans hu2)
  clear hu2 HX1 HN1 HU1
  obtain ⟨c0, c1⟩ := cells2_of HX2.out
  obtain ⟨e0, e1⟩ := cells2_of HN2.out
  simp only []
  go_upto_region 6 with fail
  obtain ⟨wd, hwd⟩ : ∃ wd : Int, wd = max n0 0 % 3 + 1 := ⟨_, rfl⟩
  obtain ⟨ix, hix⟩ : ∃ ix : Int, ix = max n1 0 % wd := ⟨_, rfl⟩
  obtain ⟨aa, haa⟩ : ∃ aa : Int, aa = max x.src 0 % 4 := ⟨_, rfl⟩
  obtain ⟨g, hg⟩ : ∃ g, g = w2.heap.size := ⟨_, rfl⟩
  rw [← hwd, ← hix, ← haa, ← hg]
  obtain ⟨w3, hw3⟩ : ∃ w3, w3 = ((w2.alloc (.cells #[.int .i64 0] 3)).alloc (.cells #[.int .i64 1, .int .i64 wd, .slice none 0 0, .int .i64 aa, .int .i64 0, .int .i64 7, .int .i64 1, .slice (some ⟨g, 0, none⟩) 1 1, .int .i64 0, .int .i64 0] 89)).alloc (.cells #[.slice (some ⟨g + 1, 0, none⟩) 2 2] 24) := ⟨_, rfl⟩
  have hu3 : Upd0 w2 w3 := by rw [hw3]; exact (((Upd.refl _ w2).alloc _).alloc _).alloc _
  have hg0 : w3.heap[g]? = some (.cells #[.int .i64 0] 3 (0, 0)) := by rw [hw3]; exact (alloc_lt (by simp <;> omega)).trans ((alloc_lt (by simp <;> omega)).trans (alloc_at hg))
  have hg1 : w3.heap[g + 1]? = some (.cells #[.int .i64 1, .int .i64 wd, .slice none 0 0, .int .i64 aa, .int .i64 0, .int .i64 7, .int .i64 1, .slice (some ⟨g, 0, none⟩) 1 1, .int .i64 0, .int .i64 0] 89 (0, 0)) := by rw [hw3]; exact (alloc_lt (by simp <;> omega)).trans (alloc_at (by simp [hg]))
  have HG3 := Lib.hid (show w3.heap[g + 1 + 1]? = some (.cells #[.slice (some ⟨g + 1, 0, none⟩) 2 2] 24 (0, 0)) by rw [hw3]; exact alloc_at (by simp [hg]))
  rw [← hw3]
  have HX3 := Lib.hid ((hu3.block _ (lt_of_heap HX2.out) (fun e => e)).trans HX2.out)
  have HU3 := Lib.hid (HU2.out.trans hu3)
  have hok : (⟨some ⟨g + 1, 0, none⟩, 2, some ⟨g, 0, none⟩, 1, wd, aa, ix, x⟩ : SpV).Ok := by
    have h1 := Int.emod_nonneg (max n0 0) (show (3 : Int) ≠ 0 by decide)
    have h2 := Int.emod_lt_of_pos (max n0 0) (show (0 : Int) < 3 by decide)
    have h3 := Int.emod_nonneg (max x.src 0) (show (4 : Int) ≠ 0 by decide)
    have h4 := Int.emod_lt_of_pos (max x.src 0) (show (0 : Int) < 4 by decide)
    have h5 := Int.emod_nonneg (max n1 0) (show wd ≠ 0 by omega)
    have h6 := Int.emod_lt_of_pos (max n1 0) (show (0 : Int) < wd by omega)
    exact ⟨by show 1 ≤ wd; omega, by show wd ≤ 3; omega, by show 0 ≤ aa; omega, by show aa < 4; omega, by show 0 ≤ ix; omega, by show ix < wd; omega⟩
  have hin : (⟨some ⟨g + 1, 0, none⟩, 2, some ⟨g, 0, none⟩, 1, wd, aa, ix, x⟩ : SpV).In w3 := ⟨src_ops hg0 hg1, by show 2 ≤ 2; omega, by show 2 ≤ maxLen; unfold maxLen; omega, HR.out.kept HU3.out, hl⟩
  have HNW := Lib.hid (fun (W : World) (hW : Upd0 w3 W) => SpV.new hok W (hin.kept hW))
  simp only [] at HNW
  obtain ⟨s, hs⟩ : ∃ s : SpV, s = ⟨some ⟨g + 1, 0, none⟩, 2, some ⟨g, 0, none⟩, 1, wd, aa, ix, x⟩ := ⟨_, rfl⟩
  rw [← hs] at HNW hok hin
  have HIN := Lib.hid hin
  have HSI := Lib.hid (show s.idx = ix by rw [hs])
  have HSX := Lib.hid (show s.x = x by rw [hs])
  have HSS := Lib.hid (show s.w = wd by rw [hs])
  have HSA := Lib.hid (show s.ga = some ⟨g + 1, 0, none⟩ ∧ s.gc = 2 ∧ srcG s.ia s.ic s.w s.a = srcG (some ⟨g, 0, none⟩) 1 wd aa by rw [hs]; exact ⟨rfl, rfl, rfl⟩)
  clear hwd hix haa hg hw3 hu3 hg0 hg1 hok hin hs HX2 HN2 HU2 HR c0 c1 e0 e1
  obtain ⟨c0, c1⟩ := cells2_of HX3.out
  have cg := cells1_of HG3.out
  go_wp2_with (go_at_call 26; fail)
  (with_reducible refine (HNW.out w3 (Upd.refl _ _)).mono ?_)
  rintro e w4 ⟨⟨cs, er, rfl, hcl, hco, hcase⟩, hu4⟩
  have HCL := Lib.hid hcl; have HCO := Lib.hid hco; have HCA := Lib.hid hcase
  have HU4 := Lib.hid (HU3.out.trans hu4)
  have HIN4 := Lib.hid (HIN.out.kept hu4)
  have HX4 := Lib.hid ((hu4.block _ (lt_of_heap HX3.out) (fun e => e)).trans HX3.out)
  have HG4 := Lib.hid ((hu4.block _ (lt_of_heap HG3.out) (fun e => e)).trans HG3.out)
  clear hcl hco hcase hu4 HNW HIN HX3 HG3 HU3 c0 c1 cg
  simp only []
  iterate 10 go_step
  refine wpList_al (cs := zeroTk) (t := 74) rfl (run_alTk rfl) (fun w5 hx5 hu5 hz5 => ?_)
  obtain ⟨tb, htb⟩ : ∃ tb, tb = w4.heap.size := ⟨_, rfl⟩
  rw [← htb] at hx5 hz5 ⊢
  have HTB := Lib.hid htb
  clear htb
  refine wpList_stT (cs := cs) (.tmp 10) (.tmp 58) rfl rfl rfl rfl hx5 (by rw [HCL.out]; rfl) (by rw [sizeTk, HCL.out]) HCO.out (fun w6 hx6 hu6 => ?_)
  have hA6 : Upd0 w4 w6 := ((Upd.refl _ w4).trans hu5).cut hu6 (fun q hq => by have := HTB.out; omega)
  have HX6 := Lib.hid hx6; have HA6 := Lib.hid hA6
  clear hx5 hu5 hz5 hx6 hu6 hA6
  by_cases he : er = 0
  · obtain ⟨-, hfit, hcs⟩ := HCA.out.resolve_right (by omega)
    have HFT := Lib.hid hfit; have HCS := Lib.hid hcs
    have HLN := Lib.hid (show x.recs.length ≤ 40 by rw [← HSX.out]; exact hfit.len)
    subst he
    clear hfit hcs HCA HCL HCO
    have hx6 := (HA6.out.block _ (lt_of_heap HX4.out) (fun e => e)).trans HX4.out
    obtain ⟨c0, c1⟩ := cells2_of hx6
    have hl40 := HLN.out
    clear hx6
    obtain ⟨nn, hnn⟩ : ∃ nn, nn = x.recs.length := ⟨_, rfl⟩
    have HNN := Lib.hid hnn
    rw [← hnn] at c1 hl40 hl
    have hnc : (nn : Int) + 1 ≠ 0 := by omega
    go_upto_region 10 with fail
    rw [← hnn]
    clear hnn
    obtain ⟨pa, hpa⟩ : ∃ pa : Int, pa = max pl 0 % ((nn : Int) + 1) := ⟨_, rfl⟩
    rw [← hpa]
    clear hpa
    have HS6 := Lib.hid (show SoAt s w4 tb 0 0 false none 0 w6 from ⟨by rw [← HCS.out]; exact HX6.out, World.ownsRow_nil _ _ _ _, HA6.out, Nat.le_of_eq HTB.out.symm, Nat.zero_le _, fun e => by cases e⟩)
    clear HX6 HA6 HCS HTB
    go_upto_block 0 with fail
    go_cut [12] from 13 to 197 (fun t wx => ∃ (k n : Nat) (f : Bool) (qa : Option Addr) (qc : Nat), t = .slice qa (s.got k).length qc ∧ Hid (SoAt s w4 tb k n f qa qc wx))
    case first =>
      go_wp2_with (fail)
      go_loopw [12, 73] (fun t i wr => ∃ (k n : Nat) (f : Bool) (j : Nat) (qa : Option Addr) (qc : Nat), j ≤ nn + 2 ∧ i = .int .i64 j ∧ t = .slice qa (s.got k).length qc ∧ (n = 0 ∨ n = 5) ∧ ((j : Int) ≤ pa → n = 0) ∧ Hid (SoAt s w4 tb k n f qa qc wr)) (fun _ i _ => nn + 2 - (intOf i).toNat)
      case atStart => exact ⟨0, 0, false, 0, none, 0, by omega, rfl, rfl, .inl rfl, fun _ => rfl, HS6⟩
      case round =>
        obtain ⟨k, n, f, j, qa, qc, hj, rfl, rfl, hn, hnp, HS⟩ := hrel
        by_cases hlt : j < nn + 2
        · have hlti : (j : Int) < nn + 2 := by omega
          go_upto_if 78 with fail
          go_cut [14, 15, 16, 17, 19] from 74 to 117 (fun _ _ _ _ _ wx => ∃ n2 : Nat, (n2 = 0 ∨ n2 = 5) ∧ (((j + 1 : Nat) : Int) ≤ pa → n2 = 0) ∧ Hid (SoAt s w4 tb k n2 f qa qc wx))
          case first =>
            by_cases hjp : (j : Int) = pa
            · obtain rfl : n = 0 := hnp (by omega)
              subst hjp
              obtain ⟨cl, hcl⟩ : ∃ cl, cl = (s.t k 0 f).cells := ⟨_, rfl⟩
              have hbx := HS.out.box
              rw [← hcl] at hbx
              have HBX := Lib.hid hbx
              have HL24 := Lib.hid (show cl.length = 24 by rw [hcl]; exact TkV.clen (offAt_len _ _ _ _))
              obtain ⟨wa, hwa⟩ : ∃ wa, wa = wr.alloc (.cells #[.int .i64 1] 3) := ⟨_, rfl⟩
              have hua : Upd0 wr wa := by rw [hwa]; exact (Upd.refl _ wr).alloc _
              have hqa : IntsIn wa (some ⟨wr.heap.size, 0, none⟩) [1] := by rw [hwa]; exact Row.new (s := 1) (n := 1) wr 3 [[.int .i64 1]] (by omega) (by simp) rfl (by unfold maxLen; omega)
              have HTG := Lib.hid (SpV.trig (rc := 1) HFT.out (f := f) (k := k) HS.out.fin wa (HIN4.out.kept (HS.out.upd.trans hua)) hqa)
              rw [← hcl] at HTG
              have HUA := Lib.hid hua
              clear hcl hbx hua hqa hnp hn
              go_upto_region 15 with fail
              iterate 1 go_step
              refine wpList_ldA rfl rfl rfl HBX.out Tryz.underlying74 rfl (by rw [sizeTk]; simp [HL24.out]) ?_
              go_wp2_with (go_at_call 22; fail)
              rw [← hwa]
              clear hwa
              (with_reducible refine HTG.out.mono ?_)
              rintro e wb ⟨⟨D, hd1, hd2, rfl, hd4⟩, hub⟩
              obtain ⟨c5, hc5⟩ : ∃ c5, c5 = (s.t k 5 f).cells := ⟨_, rfl⟩
              have HC5 := Lib.hid hc5; have HD1 := Lib.hid hd1; have HD2 := Lib.hid hd2; have HD4 := Lib.hid hd4
              have HL5 := Lib.hid (show c5.length = 24 by rw [hc5]; exact TkV.clen (offAt_len _ _ _ _))
              have HO5 := Lib.hid (show ∀ v ∈ c5, v.oneCell' = true by rw [hc5]; exact TkV.one _)
              rw [← hc5]
              have HUB := Lib.hid (HUA.out.trans hub)
              clear hc5 hd1 hd2 hd4 hub HTG
              simp only []
              iterate 13 go_step
              refine wpList_al (cs := zeroTk) (t := 74) rfl (run_alTk rfl) (fun wA hxA huA hzA => ?_)
              refine wpList_al (cs := zeroDd) (t := 82) rfl (run_alDd rfl) (fun wB hxB huB hzB => ?_)
              have hxA := (huB.block _ (lt_of_heap hxA) (fun e => e)).trans hxA
              obtain ⟨tc, htc⟩ : ∃ tc, tc = wb.heap.size := ⟨_, rfl⟩
              obtain ⟨td, htd⟩ : ∃ td, td = wA.heap.size := ⟨_, rfl⟩
              rw [← htc] at hxA hzA ⊢
              rw [← htd] at hxB hzB ⊢
              have HTC := Lib.hid htc; have HTD := Lib.hid htd
              have HNT := Lib.hid (show ¬ tc = td from blk_ne hxA hxB (by decide))
              clear htc htd
              refine wpList_stT (cs := c5) (.tmp 14) (.tmp 83) rfl rfl rfl rfl hxA (by rw [HL5.out]; rfl) (by rw [sizeTk, HL5.out]) HO5.out (fun wC hxC huC => ?_)
              have hyC := (huC.block _ (lt_of_heap hxB) (fun e => HNT.out e.symm)).trans hxB
              refine wpList_stT (cs := D) (.tmp 15) (.tmp 84) rfl rfl rfl rfl hyC (by rw [HD1.out]; rfl) (by rw [sizeDd, HD1.out]) HD2.out (fun wD hxD huD => ?_)
              have hA : Upd0 wr wD := (((HUB.out.trans huA).trans huB).cut huC (fun q hq => by have := HTC.out; have := HUB.out.size; omega)).cut huD (fun q hq => by have := HTD.out; have := (HUB.out.trans huA).size; omega)
              have HAD := Lib.hid hA
              have HTD2 := Lib.hid hxD
              have HTC2 := Lib.hid ((huD.block _ (lt_of_heap hxC) HNT.out).trans hxC)
              have HSD := Lib.hid (HS.out.upd0 hA)
              clear hxA huA hzA hxB huB hzB hxC huC hyC hxD huD hA HUB HUA HTC HTD HBX
              have cf : wD.cell? ⟨tb, 23, none⟩ = some (.bool f) := (TkV.at (offAt_len _ _ _ _) HSD.out.box).2.2.2.2.2.2.2.2.2
              cases f
              · obtain ⟨eA, eC, na, nc, hD, -⟩ := HD4.out rfl
                have hxD := HTD2.out
                rw [hD] at hxD
                obtain ⟨p0, p16, -, -⟩ := deedV_at (SnV.len (offAt_len _ _ _ _)) hxD
                have HRG := Lib.hid (deed_offs hxD)
                have HOB := Lib.hid (off_bound s.x.recs s.idx s.w k HFT.out.len)
                have HSM := Lib.hid (SpV.sumgot HFT.out k)
                have HOL := Lib.hid (offAt_len s.x.recs s.idx s.w k)
                obtain ⟨os, hos⟩ : ∃ os, os = offAt s.x.recs s.idx s.w k := ⟨_, rfl⟩
                have HRG := Lib.hid (show wD.rangeAt td 7 (os.map I) by rw [hos]; exact HRG.out)
                rw [← hos] at HOB HSM HOL
                clear hos hD hxD HD4
                go_upto_region 18 with fail
                clear cf
                iterate 7 go_step
                refine wpList_load_mid rfl 43 (.tmp 89) rfl td 7 rfl (os.map I) _ HRG.out Tryz.underlying43 rfl (by rw [sizeOff8]; simp [HOL.out]) ?_
                go_wp2_with (fail)
                go_loop [17, 91] (fun sv i => ∃ q : Nat, q ≤ 8 ∧ i = .int .i64 q ∧ sv = .int .i64 ((os.take q).sum)) (fun _ i => 8 - (intOf i).toNat)
                case atStart => exact ⟨0, by omega, rfl, rfl⟩
                case round =>
                  obtain ⟨q, hq, rfl, rfl⟩ := hrel
                  by_cases hq8 : q < 8
                  · have hidx : ∀ w, (Instr.index 43 (.agg (os.map I).toArray) (.int .i64 q)).run Tryz.prog w = .ok (.int .i64 (os.getD q 0)) w := fun w => index8 HOL.out hq8 w
                    have hb1 := sum_bound os HOB.out q (by rw [HOL.out]; omega)
                    have hb2 := HOB.out q
                    have hst := sum_take os q (by rw [HOL.out]; omega)
                    obtain ⟨s1, hs1⟩ : ∃ s1, s1 = (os.take q).sum := ⟨_, rfl⟩
                    obtain ⟨s2, hs2⟩ : ∃ s2, s2 = os.getD q 0 := ⟨_, rfl⟩
                    rw [← hs1, ← hs2] at hst
                    rw [← hs1] at hb1 ⊢
                    rw [← hs2] at hb2 hidx
                    have HST := Lib.hid hst
                    have hq8i : (q : Int) < 8 := by omega
                    clear hs1 hs2 hst
                    go_wp2
                    exact ⟨⟨q + 1, by omega, by go_num, by rw [HST.out]⟩, by simp [intOf]; omega⟩
                  · obtain rfl : q = 8 := by omega
                    rw [HSM.out]
                    go_upto_region 25 with fail
                    iterate 1 go_step
                    refine wpList_ldA rfl rfl rfl HTC2.out Tryz.underlying74 rfl (by rw [sizeTk]; simp [HL5.out]) ?_
                    refine wpList_stT (cs := c5) (.tmp 10) (.tmp 117) rfl rfl rfl rfl HSD.out.box (by rw [HL5.out, List.size_toArray, SpV.clen]) (by rw [sizeTk, HL5.out]) HO5.out (fun wE hxE huE => ?_)
                    rw [HC5.out] at hxE
                    have HSE := Lib.hid (HSD.out.lay huE hxE)
                    clear hxE huE HC5 HTC2 HTD2 HL5 HO5 HD1 HD2 HNT p0 p16
                    go_wp2
                    go_meet
                    case rel => exact ⟨5, .inr rfl, fun e => by omega, HSE⟩
              · clear HD4 HD1 HD2 HL5 HO5 HC5 HTD2 HTC2 HNT
                go_wp2
                go_meet
                case rel => exact ⟨k, 0, true, qa, qc, rfl, HSD⟩
            · go_wp2
              go_meet
              case rel => exact ⟨n, hn, fun e => hnp (by omega), HS⟩
          case rest =>
            obtain ⟨n2, hn2, hnp2, HS2⟩ := hcut
            obtain ⟨cl, hcl⟩ : ∃ cl, cl = (s.t k n2 f).cells := ⟨_, rfl⟩
            have hbx := HS2.out.box
            have hn2b : n2 ≤ 4611686018427387904 := by omega
            have hck := HFT.out.chk (k := k) (n := n2) (f := f) hn2b HS2.out.fin
            have HCH := Lib.hid (choices_any (s.t k n2 f) wc ((HIN4.out.kept HS2.out.upd).tk k n2 f) hck (by rw [HFT.out.ok.self]))
            unfold ChA at HCH
            rw [← hcl] at hbx HCH
            rw [show (s.t k n2 f).fin = f from rfl] at HCH
            have HBX := Lib.hid hbx
            have HCE := Lib.hid hcl
            have HL24 := Lib.hid (show cl.length = 24 by rw [hcl]; exact SpV.clen _ _ _ _)
            clear hcl hbx hck HS hnp hn
            go_upto_region 26 with fail
            iterate 1 go_step
            refine wpList_ldA rfl rfl rfl HBX.out Tryz.underlying74 rfl (by rw [sizeTk]; simp [HL24.out]) ?_
            go_wp2_with (go_at_call 27; fail)
            (with_reducible refine HCH.out.mono ?_)
            rintro e wC ⟨⟨hf1, hf2⟩, huC⟩
            have HSC := Lib.hid (HS2.out.upd0 huC)
            clear huC HCH HBX
            cases f
            · obtain ⟨ca, cc, rfl, -⟩ := hf2 rfl
              clear hf1 hf2
              have hbx := HSC.out.box
              rw [← HCE.out] at hbx
              have HBX := Lib.hid hbx
              obtain ⟨wa, hwa⟩ : ∃ wa, wa = wC.alloc (.cells #[.int .i64 1] 3) := ⟨_, rfl⟩
              have hua : Upd0 wC wa := by rw [hwa]; exact (Upd.refl _ wC).alloc _
              have hqa : IntsIn wa (some ⟨wC.heap.size, 0, none⟩) [1] := by rw [hwa]; exact Row.new (s := 1) (n := 1) wC 3 [[.int .i64 1]] (by omega) (by simp) rfl (by unfold maxLen; omega)
              have HTG := Lib.hid (SpV.step (rc := 1) HFT.out (k := k) (n := n2) HSC.out.kl hn2b wa (HIN4.out.kept (HSC.out.upd.trans hua)) hqa)
              rw [← HCE.out] at HTG
              have HUA := Lib.hid hua
              clear hbx hua hqa HS2
              simp only []
              go_upto_region 27 with fail
              iterate 1 go_step
              refine wpList_ldA rfl rfl rfl HBX.out Tryz.underlying74 rfl (by rw [sizeTk]; simp [HL24.out]) ?_
              go_wp2_with (go_at_call 28; fail)
              rw [← hwa]
              clear hwa
              (with_reducible refine HTG.out.mono ?_)
              rintro e wb ⟨⟨k2, f2, el, eA, eC, rfl, hem, hk2, hfin2, hcase⟩, hub⟩
              obtain ⟨c2, hc2⟩ : ∃ c2, c2 = (s.t k2 n2 f2).cells := ⟨_, rfl⟩
              obtain ⟨D, hD⟩ : ∃ D, D = deedV eA eC zeroSn 0 f2 := ⟨_, rfl⟩
              have HC2 := Lib.hid hc2; have HDE := Lib.hid hD; have HFN := Lib.hid hfin2
              have HD1 := Lib.hid (show D.length = 18 by rw [hD]; rfl)
              have HD2 := Lib.hid (show ∀ v ∈ D, v.oneCell' = true by rw [hD]; exact deedV_one zeroSn_one)
              have HL2 := Lib.hid (show c2.length = 24 by rw [hc2]; exact SpV.clen _ _ _ _)
              have HO2 := Lib.hid (show ∀ v ∈ c2, v.oneCell' = true by rw [hc2]; exact TkV.one _)
              rw [← hc2, ← hD]
              have HUB := Lib.hid (HUA.out.trans hub)
              have HEM := Lib.hid hem
              have HCA := Lib.hid hcase
              clear hc2 hD hub hem hcase hfin2 HTG HBX
              simp only []
              iterate 13 go_step
              refine wpList_al (cs := zeroTk) (t := 74) rfl (run_alTk rfl) (fun wA hxA huA hzA => ?_)
              refine wpList_al (cs := zeroDd) (t := 82) rfl (run_alDd rfl) (fun wB hxB huB hzB => ?_)
              have hxA := (huB.block _ (lt_of_heap hxA) (fun e => e)).trans hxA
              obtain ⟨tc, htc⟩ : ∃ tc, tc = wb.heap.size := ⟨_, rfl⟩
              obtain ⟨td, htd⟩ : ∃ td, td = wA.heap.size := ⟨_, rfl⟩
              rw [← htc] at hxA hzA ⊢
              rw [← htd] at hxB hzB ⊢
              have HTC := Lib.hid htc; have HTD := Lib.hid htd
              have HNT := Lib.hid (show ¬ tc = td from blk_ne hxA hxB (by decide))
              clear htc htd
              refine wpList_stT (cs := c2) (.tmp 20) (.tmp 126) rfl rfl rfl rfl hxA (by rw [HL2.out]; rfl) (by rw [sizeTk, HL2.out]) HO2.out (fun wQ hxC huC => ?_)
              have hyC := (huC.block _ (lt_of_heap hxB) (fun e => HNT.out e.symm)).trans hxB
              refine wpList_stT (cs := D) (.tmp 21) (.tmp 127) rfl rfl rfl rfl hyC (by rw [HD1.out]; rfl) (by rw [sizeDd, HD1.out]) HD2.out (fun wD hxD huD => ?_)
              have hA : Upd0 wC wD := (((HUB.out.trans huA).trans huB).cut huC (fun q hq => by have := HTC.out; have := HUB.out.size; omega)).cut huD (fun q hq => by have := HTD.out; have := (HUB.out.trans huA).size; omega)
              have hA2 : Upd0 wb wD := ((((Upd.refl _ wb).trans huA).trans huB).cut huC (fun q hq => by have := HTC.out; omega)).cut huD (fun q hq => by have := HTD.out; have := huA.size; omega)
              have HED := Lib.hid (ownsRow_any HEM.out hA2 (fun _ _ e => e))
              have HTD2 := Lib.hid hxD
              have HTC2 := Lib.hid ((huD.block _ (lt_of_heap hxC) HNT.out).trans hxC)
              have HSD := Lib.hid (HSC.out.upd0 hA)
              clear hxA huA hzA hxB huB hzB hxC huC hyC hxD huD hA hA2 HUB HUA HTC HTD HEM HSC
              have hxD := HTD2.out
              rw [HDE.out] at hxD
              obtain ⟨p0, -, -, -⟩ := deedV_at rfl hxD
              clear hxD
              go_upto_region 30 with fail
              iterate 1 go_step
              refine wpList_ldA rfl rfl rfl HTC2.out Tryz.underlying74 rfl (by rw [sizeTk]; simp [HL2.out]) ?_
              refine wpList_stT (cs := c2) (.tmp 10) (.tmp 137) rfl rfl rfl rfl HSD.out.box (by rw [HL2.out, List.size_toArray, SpV.clen]) (by rw [sizeTk, HL2.out]) HO2.out (fun wE hxE huE => ?_)
              rw [HC2.out] at hxE
              have HBE := Lib.hid hxE
              have HRE := Lib.hid (ownsRow_any HSD.out.row huE (own_neT HSD.out.row HSD.out.box (by decide)))
              have HUE := Lib.hid (HSD.out.upd.cut huE (fun q hq => by have := HSD.out.low; omega))
              have hee := ownsRow_any HED.out huE (own_neT HED.out HSD.out.box (by decide))
              have hxd := (huE.block td (lt_of_heap HTD2.out) (fun e => blk_ne HSD.out.box HTD2.out (by decide) e.symm)).trans HTD2.out
              rw [HDE.out] at hxd
              obtain ⟨q0, -, -, -⟩ := deedV_at rfl hxd
              obtain ⟨eb, rfl, hec⟩ := own_one hee
              have he1 := hec 1 _ rfl
              have HEC := Lib.hid (show wE.cell? ⟨eb, 2, none⟩ = some (.int .i64 el.rec'.src) ∧ wE.cell? ⟨eb, 3, none⟩ = some (.int .i64 el.rec'.key) ∧ wE.cell? ⟨eb, 4, none⟩ = some (.int .i64 el.rec'.val) from ⟨hec 2 _ rfl, hec 3 _ rfl, hec 4 _ rfl⟩)
              have HLW := Lib.hid (show w4.heap.size ≤ tb from HSD.out.low)
              have HLE := Lib.hid HUE.out.size
              have HGL := Lib.hid (s.got_len k)
              clear hxE huE hee hxd hec p0 HC2 HDE HTC2 HTD2 HED HSD HD1 HD2 HL2 HO2 HNT
              rcases HCA.out with ⟨hk1, hm⟩ | ⟨hk3, hkk⟩
              · rw [show ((⟨s.idx, el⟩ : EmV)).el.kind = 1 from hk1] at he1
                have HM := Lib.hid (show s.got k2 = s.got k ++ [el.rec'] from hm)
                obtain ⟨r2, r3, r4⟩ := HEC.out
                obtain ⟨gn, hgn⟩ : ∃ gn, gn = (s.got k).length := ⟨_, rfl⟩
                have HOW := Lib.hid (show wE.ownsRow w4.heap.size 36 3 (.slice qa gn qc) gn (flat3 (s.got k)) by rw [hgn]; exact HRE.out)
                have HGN := Lib.hid hgn
                have hgb : gn ≤ 40 := by rw [hgn]; exact Nat.le_trans HGL.out HFT.out.len
                rw [← hgn]
                clear hgn HCA hk1 hm
                go_wp2_with (at_builtin; obtain ⟨i0, hi, hz0, hs, hb⟩ := info_parts Tryz.info29p; refine wpList_app1 wE rfl (.tmp 145) (.tmp 152) 39 rfl w4.heap.size 36 i0 (.agg #[.int .i64 0, .int .i64 0, .int .i64 0]) 3 24 Tryz.underlying39 hi hz0 hs hb rfl (by decide) (.slice qa gn qc) gn (flat3 (s.got k)) rfl HOW.out [.int .i64 el.rec'.src, .int .i64 el.rec'.key, .int .i64 el.rec'.val] 36 rfl rfl (by simp [Value.oneCell']) (by unfold maxLen; omega) (by omega) HLE.out ?_; clear hi hz0 hs hb; intro g9 cap9 wF hown huF _ _)
                have hown2 : OwnR wF w4.heap.size (.slice (some ⟨g9, 0, none⟩) (s.got k2).length cap9) (s.got k2) := by
                  show World.ownsRow _ _ _ _ _ _ _
                  rw [HM.out, List.length_append, ← HGN.out, flat3_snoc]
                  exact hown
                have HRF := Lib.hid hown2
                have HBF := Lib.hid ((huF.block _ (lt_of_heap HBE.out) (fun e => own_neT HOW.out HBE.out (by decide) _ e rfl)).trans HBE.out)
                have HUF := Lib.hid (HUE.out.cut huF (fun q hq => (World.ownsRow.lt HOW.out q hq).1))
                clear hown hown2 huF
                go_wp2
                go_roundw
                case rel => exact ⟨k2, n2, f2, j + 1, some ⟨g9, 0, none⟩, cap9, by omega, by go_num, by rw [HM.out, List.length_append, ← HGN.out]; rfl, hn2, fun e => hnp2 e, Lib.hid ⟨HBF.out, HRF.out, HUF.out, HLW.out, hk2, HFN.out⟩⟩
                case measure => simp [intOf]; omega
              · rw [show ((⟨s.idx, el⟩ : EmV)).el.kind = 3 from hk3] at he1
                subst hkk
                clear hk3 HCA
                go_wp2
                go_roundw
                case rel => exact ⟨k2, n2, f2, j + 1, qa, qc, by omega, by go_num, rfl, hn2, fun e => hnp2 e, Lib.hid ⟨HBE.out, HRE.out, HUE.out, HLW.out, hk2, HFN.out⟩⟩
                case measure => simp [intOf]; omega
            · obtain rfl := hf1 rfl
              clear hf1 hf2
              simp only []
              go_wp2
              go_meet
              case rel => exact ⟨k, n2, true, qa, qc, rfl, HSC⟩
        · obtain rfl : j = nn + 2 := by omega
          go_wp2
          go_meet
          case rel => exact ⟨k, n, f, qa, qc, rfl, HS⟩
    case rest =>
      obtain ⟨k, n, f, qa, qc, rfl, HS⟩ := hcut
      obtain rfl := HSX.out
      obtain rfl := HSI.out
      obtain rfl := HSS.out
      have hxc := (HS.out.upd.block _ (lt_of_heap HX4.out) (fun e => e)).trans HX4.out
      rw [← HNN.out] at hxc
      obtain ⟨c0, c1⟩ := cells2_of hxc
      have hgc := (HS.out.upd.block _ (lt_of_heap HG4.out) (fun e => e)).trans HG4.out
      have HGC := Lib.hid hgc
      have HIC := Lib.hid (HIN4.out.kept HS.out.upd)
      have hga := HSA.out.1
      have hgc2 := HSA.out.2.1
      have HHS := Lib.hid (fun (r : RecV) (hr : r ∈ s.x.recs) (W : World) (hW : Upd0 wc W) => SpV.has HFT.out hr W (HIC.out.kept hW))
      rw [hga, hgc2] at HHS
      have HUC := Lib.hid (HU4.out.trans HS.out.upd)
      clear hxc hgc hga hgc2 c0 hl
      go_wp2_with (fail)
      clear c1
      go_loopw [23, 158] (fun t i wr => ∃ (m : Nat) (ra : Option Addr) (rc : Nat), m ≤ nn ∧ i = .int .i64 m ∧ t = .slice ra (s.got m).length rc ∧ Hid (OwnR wr wc.heap.size (.slice ra (s.got m).length rc) (s.got m)) ∧ Hid (Upd0 wc wr)) (fun _ i _ => nn - (intOf i).toNat)
      case atStart => exact ⟨0, none, 0, Nat.zero_le _, rfl, rfl, Lib.hid (World.ownsRow_nil _ _ _ _), Lib.hid (Upd.refl _ _)⟩
      case round =>
        obtain ⟨m, ra, rc, hm, rfl, rfl, HR, HQ⟩ := hrel
        by_cases hlt : m < nn
        · have hlti : (m : Int) < nn := by omega
          obtain ⟨r, hr⟩ : ∃ r, s.x.recs[m]? = some r := ⟨_, List.getElem?_eq_getElem (by rw [← HNN.out]; exact hlt)⟩
          obtain ⟨b2, f2, hxa, d0, d1, d2⟩ := (HIC.out.kept HQ.out).recs.at hr
          have hbl2 := lt_of_cell d0
          obtain ⟨wa, hwa⟩ : ∃ wa, wa = wr.alloc (.cells #[.int .i64 r.src, .int .i64 r.key, .int .i64 r.val] 36) := ⟨_, rfl⟩
          have hua : Upd0 wr wa := by rw [hwa]; exact (Upd.refl _ wr).alloc _
          have HXA := Lib.hid (show wa.heap[wr.heap.size]? = some (.cells #[.int .i64 r.src, .int .i64 r.key, .int .i64 r.val] 36 (0, 0)) by rw [hwa]; exact alloc_at rfl)
          obtain ⟨bx, hbx⟩ : ∃ bx, bx = wr.heap.size := ⟨_, rfl⟩
          rw [← hbx] at HXA
          have HQA := Lib.hid (HQ.out.trans hua)
          have HRA := Lib.hid (ownsRow_any HR.out hua (fun _ _ e => e))
          have HHR := Lib.hid (HHS.out r (List.mem_of_getElem? hr) wa HQA.out)
          have HGS := Lib.hid (SpV.got_succ hr)
          clear hr hua
          go_upto_region 38 with fail
          rw [← hwa, ← hbx]
          obtain ⟨mb, hmb⟩ : ∃ mb, mb = mineB r s.idx s.w := ⟨_, rfl⟩
          rw [← hmb] at HHR HGS
          have hg3 := (HQA.out.block _ (lt_of_heap HGC.out) (fun e => e)).trans HGC.out
          have cg := cells1_of hg3
          obtain ⟨x0, x1, x2⟩ := cells3_of HXA.out
          clear hwa hbx hmb hg3 d0 d1 d2 hbl2
          go_wp2_with (go_at_call 29; fail)
          clear cg x0 x1 x2
          (with_reducible refine HHR.out.mono ?_)
          rintro e wb ⟨rfl, hub⟩
          have HQB := Lib.hid (HQA.out.trans hub)
          have HRB := Lib.hid (ownsRow_any HRA.out hub (fun _ _ e => e))
          obtain ⟨x0, x1, x2⟩ := cells3_of ((hub.block _ (lt_of_heap HXA.out) (fun e => e)).trans HXA.out)
          clear hub
          simp only []
          cases mb
          · have HG2 := Lib.hid (show s.got (m + 1) = s.got m by rw [HGS.out]; simp)
            clear x0 x1 x2
            go_wp2
            go_roundw
            case rel => exact ⟨m + 1, ra, rc, by omega, by go_num, by rw [HG2.out], by rw [HG2.out]; exact HRB, HQB⟩
            case measure => simp [intOf]; omega
          · have HG2 := Lib.hid (show s.got (m + 1) = s.got m ++ [r] by rw [HGS.out]; simp)
            obtain ⟨gn, hgn⟩ : ∃ gn, gn = (s.got m).length := ⟨_, rfl⟩
            have HOW := Lib.hid (show wb.ownsRow wc.heap.size 36 3 (.slice ra gn rc) gn (flat3 (s.got m)) by rw [hgn]; exact HRB.out)
            have HGN := Lib.hid hgn
            have hgb : gn ≤ 40 := by rw [hgn]; exact Nat.le_trans (s.got_len m) HFT.out.len
            rw [← hgn]
            clear hgn
            go_wp2_with (at_builtin; obtain ⟨i0, hi, hz0, hs, hb⟩ := info_parts Tryz.info29p; refine wpList_app1 wb rfl (.tmp 174) (.tmp 176) 39 rfl wc.heap.size 36 i0 (.agg #[.int .i64 0, .int .i64 0, .int .i64 0]) 3 24 Tryz.underlying39 hi hz0 hs hb rfl (by decide) (.slice ra gn rc) gn (flat3 (s.got m)) rfl HOW.out [.int .i64 r.src, .int .i64 r.key, .int .i64 r.val] 36 rfl rfl (by simp [Value.oneCell']) (by unfold maxLen; omega) (by omega) HQB.out.size ?_; clear hi hz0 hs hb; intro g9 cap9 wF hown huF _ _)
            have hown2 : OwnR wF wc.heap.size (.slice (some ⟨g9, 0, none⟩) (s.got (m + 1)).length cap9) (s.got (m + 1)) := by
              show World.ownsRow _ _ _ _ _ _ _
              rw [HG2.out, List.length_append, ← HGN.out, flat3_snoc]
              exact hown
            have HRF := Lib.hid hown2
            have HQF := Lib.hid (HQB.out.cut huF (fun q hq => (World.ownsRow.lt HOW.out q hq).1))
            clear hown hown2 huF x0 x1 x2
            go_wp2
            go_roundw
            case rel => exact ⟨_, _, _, _, _, ⟨m + 1, by omega, by go_num, some ⟨g9, 0, none⟩, cap9, by rw [HG2.out, List.length_append, ← HGN.out]; rfl, HRF, HQF⟩, rfl, rfl, rfl, rfl, rfl⟩
            case measure => simp [intOf]; omega
        · obtain rfl : m = nn := by omega
          have HSR := Lib.hid (HS.out.upd0 HQ.out)
          have cf : wr.cell? ⟨tb, 23, none⟩ = some (.bool f) := (TkV.at (offAt_len _ _ _ _) HSR.out.box).2.2.2.2.2.2.2.2.2
          obtain ⟨u, hgu⟩ := s.got_all (m := m) (by rw [← HNN.out]; exact Nat.le_refl _) k
          have HGU := Lib.hid hgu
          have HGF := Lib.hid (fun (e : f = true) => SpV.got_fin HFT.out (m := m) (by rw [← HNN.out]; exact Nat.le_refl _) (HS.out.fin e))
          have hl1 : (s.got m).length ≤ 40 := Nat.le_trans (s.got_len m) HFT.out.len
          have hl2 : (s.got k).length ≤ 40 := Nat.le_trans (s.got_len k) HFT.out.len
          have HBG := Lib.hid (fun (W : World) (hW : Upd0 wr W) => begins19_any (lc := rc) (hc := qc) W (RecsIn.kept (OwnR.in' HR.out rfl) hW) (RecsIn.kept (OwnR.in' HSR.out.row rfl) hW) (by omega) (by omega) (fun key => vals_prefix HGU.out key))
          have HUR := Lib.hid (HUC.out.trans HQ.out)
          have hle : (s.got k).length ≤ (s.got m).length := by rw [hgu, List.length_append]; omega
          obtain ⟨la, hla⟩ : ∃ la, la = (s.got k).length := ⟨_, rfl⟩
          obtain ⟨lb, hlb⟩ : ∃ lb, lb = (s.got m).length := ⟨_, rfl⟩
          have HLL := Lib.hid (fun (e : f = true) => show la = lb by rw [hla, hlb, HGF.out e])
          rw [← hla, ← hlb] at HBG hle ⊢
          have hlei : ¬ ((lb : Int) < la) := by omega
          clear hgu hla hlb hl1 hl2 HGU HGF hle
          cases f
          · go_wp2_with (go_at_call 30; fail)
            (with_reducible refine (HBG.out wr (Upd.refl _ _)).mono ?_)
            rintro e wb ⟨rfl, hub⟩
            have HUE := Lib.hid (HUR.out.trans hub)
            clear hub cf
            simp only []
            go_wp2
            go_ret
            exact ⟨rfl, HUE.out⟩
          · obtain rfl := HLL.out rfl
            go_wp2_with (go_at_call 30; fail)
            (with_reducible refine (HBG.out wr (Upd.refl _ _)).mono ?_)
            rintro e wb ⟨rfl, hub⟩
            have HUE := Lib.hid (HUR.out.trans hub)
            clear hub cf
            simp only []
            go_wp2
            go_ret
            exact ⟨rfl, HUE.out⟩
  · have her : er = 2 := by
      rcases HCA.out with h | h
      · exact absurd h.1 he
      · exact h
    subst her
    clear he HCA HCL HCO HX6
    go_wp2
    go_ret
    exact ⟨rfl, HU4.out.trans HA6.out⟩
end Go.Proofs.YtbonfdkgkcbkmaaGreat
