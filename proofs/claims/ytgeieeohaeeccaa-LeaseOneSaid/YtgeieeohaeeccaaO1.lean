/- LeaseOne walked. -/
import Derived.Test.YtgeieeohaeeccaaN1
namespace Go.Proofs.Ytgeieeohaeeccaa
open Go.RowKit Go.Deep

set_option maxRecDepth 100000 in
set_option maxHeartbeats 4000000 in
theorem leaseOne_run (sa : Option Addr) (sc : Nat) (L : List DeedR) (w : World) (hin : DeedsIn w sa sc L) :
    Calls Try.prog 5 #[.slice sa L.length sc] w fun e w' => e = .returned (.bool true) ∧ Upd (fun _ => False) w w' := by
  have HIN := Lib.hid hin
  have hmm : ∀ w, (Instr.makeMap 41 none).run Try.prog w = .ok (.map (some w.heap.size)) (w.alloc (.map #[] 0)) := fun _ => rfl
  clear hin
  go_enter Try.func5, Try.ntmps5
  go_wp2_with (go_at_call 7; fail)
  refine (wakes_any _).mono ?_
  rintro e w1 ⟨rfl, hu1⟩
  have HU1 : RowKit.Hid (Upd (fun _ => False) w w1) := Lib.hid (Upd.of_below hu1)
  clear hu1
  simp only []
  go_wp2
  obtain ⟨b3, hb3⟩ : ∃ b3, b3 = w1.heap.size := ⟨_, rfl⟩
  have hst : OneAt w b3 (b3 + 1) 0 0 0 0 0 [] (.slice none 0 0) ((w1.alloc (.cells #[.int .u64 0, .int .i64 0, .int .i64 0] 24)).alloc (.map #[] 0)) := by
    have hl := lost_start (w1.alloc (.cells #[.int .u64 0, .int .i64 0, .int .i64 0] 24))
    rw [World.size_alloc] at hl
    exact ⟨LI.start, (alloc_lt (by simp [hb3])).trans (alloc_at hb3), World.ownsRow_nil _ _ _ _, ⟨0, _, Nat.le_refl _, by rw [hb3]; exact hl⟩, (HU1.out.alloc _).alloc _⟩
  have HST := Lib.hid hst
  have HB3 : RowKit.Hid (w.heap.size ≤ b3) := Lib.hid (by rw [hb3]; exact HU1.out.size)
  have HLL : RowKit.Hid (L.length ≤ maxLen) := Lib.hid (by
    rcases HIN.out with ⟨_, rfl, _⟩ | ⟨a, _, h1, h2, _⟩
    · unfold maxLen; simp
    · omega)
  have hlm := HLL.out
  unfold maxLen at hlm
  rw [← hb3]
  generalize ((w1.alloc (.cells #[.int .u64 0, .int .i64 0, .int .i64 0] 24)).alloc (.map #[] 0)) = w2 at *
  clear hst hb3 HU1 hmm HLL
  go_loopg [4, 5, 23] L.length (fun gk now had i wr => ∃ (k : Nat) (nw E H U : Int) (ns : List Int), k ≤ L.length ∧ k ≤ 80 ∧ gk = L.length - k ∧ now = .int .i64 nw ∧ i = .int .i64 k ∧ OneAt w b3 (b3 + 1) k nw E H U ns had wr)
  case atStart => exact ⟨0, 0, 0, 0, 0, [], Nat.zero_le _, by omega, rfl, rfl, rfl, HST.out⟩
  case round =>
    clear HST
    obtain ⟨k, nw, E, H, U, ns, hk, hk80, rfl, rfl, rfl, hat⟩ := hrel
    obtain ⟨wo, rfl⟩ : ∃ wo, wo = wr := ⟨_, rfl⟩
    have HAT := Lib.hid hat
    clear hat
    by_cases hkL : k < L.length
    · have hkLi : (k : Int) < L.length := by omega
      obtain ⟨d, hd⟩ : ∃ d, L[k]? = some d := ⟨L[k], by simp [hkL]⟩
      obtain ⟨a, rfl, hcells⟩ : ∃ a, sa = some a ∧ ∀ j u, (cellsD d)[j]? = some u → wo.cell? ((a.add (k * 5)).add j) = some u := by
        rcases HIN.out with ⟨_, rfl, _⟩ | ⟨a, h1, _, _, h4⟩
        · simp at hkL
        · exact ⟨a, h1, fun j u hj => cell_kept HAT.out.upd (h4 k d hd j u hj)⟩
      have HCE := Lib.hid hcells
      clear hcells hd
      go_upto_region 9 with fail
      iterate 7 go_step
      refine wpList_load_any rfl 43 (.tmp 26) rfl (a.add (k * 5)) rfl (cellsD d) _ HCE.out Try.underlying43 rfl Try.size43d ?_
      iterate 6 go_step
      obtain ⟨f1, f2, f3, f4⟩ := fresh_any wo 43 #[.int .i64 0, .int .i64 0, .int .i64 0, .int .i64 0, .int .i64 0] (cellsD d) rfl
      refine wpList_store_mid rfl 43 (.tmp 8) (.tmp 27) rfl wo.heap.size 0 (cellsD d).toArray rfl rfl f1 Try.size43d (by simp [cellsD, Value.oneCell']) ?_
      refine (?_ : wpList _ _ _ _ _ ((wo.alloc (.cells #[.int .i64 0, .int .i64 0, .int .i64 0, .int .i64 0, .int .i64 0] 43)).setCells wo.heap.size 0 (cellsD d)))
      obtain ⟨w3, hw3⟩ : ∃ w3, w3 = (wo.alloc (.cells #[.int .i64 0, .int .i64 0, .int .i64 0, .int .i64 0, .int .i64 0] 43)).setCells wo.heap.size 0 (cellsD d) := ⟨_, rfl⟩
      obtain ⟨b8, hb8⟩ : ∃ b8, b8 = wo.heap.size := ⟨_, rfl⟩
      rw [← hw3, ← hb8] at f2 f4
      rw [← hw3] at f3
      rw [← hw3, ← hb8]
      have HD8 := Lib.hid f2; have HU3 := Lib.hid f3; have HB8 := Lib.hid hb8
      clear f1 f2 f3 f4 hw3 hb8 HCE
      by_cases h80 : k = 80
      · have hq : ((k : Int) == 80) = true := by simp; omega
        have HFI : RowKit.Hid (Upd (fun _ => False) w w3) := Lib.hid (HAT.out.upd.trans HU3.out)
        go_wp2
        go_ret
        exact ⟨rfl, HFI.out⟩
      · have hq : ((k : Int) == 80) = false := by simp; omega
        obtain ⟨d0, d1, d2, d3, d4⟩ := cells5_of (w := w3) (b := b8) HD8.out
        go_upto_region 14 with fail
        have hli := HAT.out.li
        have hnwb := hli.clock
        have hcnt := hli.cnt
        generalize hxa : (if d.ah < 0 then 0 else d.ah) = xa at *
        generalize hxs : (if d.sp < 0 then 0 else d.sp) = xs at *
        generalize hxw : (if d.who < 0 then 0 else d.who) = xw at *
        have hxa0 : 0 ≤ xa := by rw [← hxa]; split <;> omega
        have hxs0 : 0 ≤ xs := by rw [← hxs]; split <;> omega
        have hxw0 : 0 ≤ xw := by rw [← hxw]; split <;> omega
        generalize hnum : xw % 3 + 1 = num at *
        generalize hspan : xs % 10 + 1 = span at *
        have hnumb : 1 ≤ num ∧ num ≤ 3 := by omega
        have hspanb : 1 ≤ span ∧ span ≤ 10 := by omega
        obtain ⟨nw2, hnw2⟩ : ∃ nw2, nw2 = wrap64 (nw + xa % 20) := ⟨_, rfl⟩
        have hnw2b : nw ≤ nw2 ∧ nw2 ≤ nw + 19 := by rw [hnw2, IntWalk.wrap64_in _ (by omega)]; omega
        rw [← hnw2]
        obtain ⟨w4, hw4⟩ : ∃ w4, w4 = w3.alloc (.cells #[.int .i64 num, .int .u64 0] 35) := ⟨_, rfl⟩
        obtain ⟨b10, hb10⟩ : ∃ b10, b10 = w3.heap.size := ⟨_, rfl⟩
        have h10 : w4.heap[b10]? = some (.cells #[.int .i64 num, .int .u64 0] 35 (0, 0)) := by rw [hw4]; exact alloc_at hb10
        have hu4 : Upd (fun _ => False) wo w4 := by rw [hw4]; exact HU3.out.alloc _
        have hd8 : w4.heap[b8]? = some (.cells (cellsD d).toArray 43 (0, 0)) := by rw [hw4]; exact (alloc_lt (lt_of_heap HD8.out)).trans HD8.out
        rw [← hw4, ← hb10]
        have HL0 := Lib.hid hli; have HD8' := Lib.hid hd8; have HU4 := Lib.hid hu4; have H10 := Lib.hid h10
        have HB10 : RowKit.Hid (wo.heap.size ≤ b10 ∧ b8 < b10) := Lib.hid ⟨by rw [hb10]; exact HU3.out.size, by rw [hb10]; exact lt_of_heap HD8.out⟩
        obtain ⟨ua, uc, rfl⟩ : ∃ ua uc, u5 = .slice ua ns.length uc := by
          rcases HAT.out.had.2 with ⟨e1, e2⟩ | ⟨g, cap, cur, e1, _⟩
          · exact ⟨none, 0, by rw [e1, e2]⟩
          · exact ⟨_, _, e1⟩
        clear hli hnwb hxa hxs hxw hxa0 hxs0 hxw0 hnum hspan hnw2 hw4 hb10 h10 hu4 hd8 HD8 HU3 d0 d1 d2 d3 d4
        obtain ⟨d0, d1, d2, d3, d4⟩ := cells5_of (w := w4) (b := b8) HD8'.out
        obtain ⟨nn, hnn⟩ : ∃ nn, nn = ns.length := ⟨_, rfl⟩
        rw [← hnn]
        have HAT2 : RowKit.Hid (OneAt w b3 (b3 + 1) k nw E H U ns (.slice ua nn uc) wo) := Lib.hid (by rw [hnn]; exact HAT.out)
        have HMB : RowKit.Hid (b3 + 1 < wo.heap.size) := Lib.hid (by obtain ⟨u, D, _, h2⟩ := HAT.out.lost; exact h2.own.lt)
        have HNN := Lib.hid hnn
        have hnn80 : nn ≤ 80 := by omega
        clear hnn hcnt
        have HLE : RowKit.Hid (w4.heap[b3]? = some (.cells #[.int .u64 E, .int .i64 H, .int .i64 U] 24 (0, 0))) := Lib.hid ((HU4.out.block _ (lt_of_heap HAT.out.lease) (fun e => e)).trans HAT.out.lease)
        obtain ⟨l0, l1, l2⟩ := cells3_of (w := w4) (b := b3) HLE.out
        have HDx := Lib.hid HD8'.out; have HWx := Lib.hid H10.out
        clear d1 d2 d3 d4
        go_cut [55] from 24 to 217 (fun c wr => w4 = wr ∧ c = .bool (decide (0 < nn) && (d.k.tmod 3 != 0)))
        case first =>
          by_cases hn0 : nn = 0
          · subst hn0
            go_wp2
            go_meet
            case rel => exact ⟨rfl, rfl⟩
          · have hnp : 0 < nn := by omega
            go_wp2
            go_meet
            case rel => exact ⟨rfl, by simp [hnp]⟩
        case rest =>
          obtain ⟨rfl, rfl⟩ := hcut
          obtain ⟨c, hc⟩ : ∃ c, c = (decide (0 < nn) && (d.k.tmod 3 != 0)) := ⟨_, rfl⟩
          rw [← hc]
          have HC := Lib.hid hc
          clear hc
          go_upto_if 55 with fail
          go_cut [] from 24 to 217 (fun wr => WhoAt wo b3 b8 b10 d E H U num ns wr)
          case first =>
            cases c with
            | false =>
              go_wp2
              go_meet
              case rel =>
                have hc := HC.out
                refine ⟨num, 0, HWx.out, HU4.out, HDx.out, HLE.out, .inl ⟨rfl, rfl, ?_⟩⟩
                have hnn := HNN.out
                by_cases hz : d.k.tmod 3 = 0
                · exact .inr hz
                · left
                  have : nn = 0 := by
                    rcases Nat.eq_zero_or_pos nn with h0 | h0
                    · exact h0
                    · simp [h0, hz] at hc
                  exact List.length_eq_zero_iff.1 (by omega)
            | true =>
              as_aux_lemma =>
                have hc := HC.out
                have hnp : 0 < nn := by
                  rcases Nat.eq_zero_or_pos nn with h0 | h0
                  · simp [h0] at hc
                  · exact h0
                have hzz : d.k.tmod 3 ≠ 0 := by
                  intro h0; simp [h0] at hc
                have HZZ := Lib.hid hzz
                clear hc hzz
                obtain ⟨d0, d1, d2, d3, d4⟩ := cells5_of (w := w4) (b := b8) HDx.out
                obtain ⟨xh, hxh⟩ : ∃ xh, xh = (if d.hd < 0 then 0 else d.hd) := ⟨_, rfl⟩
                have hxh0 : 0 ≤ xh := by rw [hxh]; split <;> omega
                have HXH := Lib.hid hxh
                have hnz : (nn : Int) ≠ 0 := by omega
                obtain ⟨i, hi, hin⟩ : ∃ i : Nat, xh % (nn : Int) = (i : Int) ∧ i < nn := ⟨(xh % (nn : Int)).toNat, by have := Int.emod_nonneg xh (b := (nn : Int)) (by omega); omega, by have := Int.emod_nonneg xh (b := (nn : Int)) (by omega); have := Int.emod_lt_of_pos xh (b := (nn : Int)) (by omega); omega⟩
                have hil : (i : Int) < nn := by omega
                have hhad := HAT.out.had
                rw [← HNN.out] at hhad
                obtain ⟨g, rfl, hg1, hg2, hc0, hc1⟩ := own_cell2 hhad hin
                obtain ⟨x, hx⟩ : ∃ x, ns[i]? = some x := ⟨ns[i]'(by rw [← HNN.out]; exact hin), by rw [List.getElem?_eq_getElem]⟩
                obtain ⟨e0, e1⟩ := whoC_get ns 0 i x hx
                rw [e0] at hc0
                rw [e1, show ((0 + i + 1 : Nat) : Int) = (i : Int) + 1 by omega] at hc1
                have HX := Lib.hid hx
                have HRG : RowKit.Hid (∀ j u, ([.int .i64 x, .int .u64 ((i : Int) + 1)] : List Value)[j]? = some u → w4.cell? ((⟨g, i * 2, none⟩ : Addr).add j) = some u) := Lib.hid (fun j u hj => by
                  rw [Addr.add_mid]
                  match j, hj with
                  | 0, hj => simp at hj; subst hj; exact cell_kept HU4.out hc0
                  | 1, hj => simp at hj; subst hj; exact cell_kept HU4.out hc1
                  | j + 2, hj => simp at hj)
                clear hhad hc0 hc1 e0 e1 hx hxh
                go_upto_region 15 with fail
                iterate 13 go_step
                rw [← HXH.out]
                clear HXH
                iterate 12 go_step
                refine wpList_load_any rfl 35 (.tmp 63) rfl ⟨g, i * 2, none⟩ rfl [.int .i64 x, .int .u64 ((i : Int) + 1)] _ HRG.out Try.underlying35 rfl Try.size35d ?_
                obtain ⟨f1, f2, f3⟩ := over_any (W := w4) [.int .i64 x, .int .u64 ((i : Int) + 1)] HWx.out rfl
                refine wpList_store_mid rfl 35 (.tmp 10) (.tmp 64) rfl b10 0 #[.int .i64 x, .int .u64 ((i : Int) + 1)] rfl rfl f1 Try.size35d (by simp [Value.oneCell']) ?_
                refine (?_ : wpList _ _ _ _ _ (w4.setCells b10 0 [.int .i64 x, .int .u64 ((i : Int) + 1)]))
                obtain ⟨w6, hw6⟩ : ∃ w6, w6 = w4.setCells b10 0 [.int .i64 x, .int .u64 ((i : Int) + 1)] := ⟨_, rfl⟩
                rw [← hw6] at f2 f3 ⊢
                have HU6 := Lib.hid (HU4.out.step f3 (fun j hj e => by have := HB10.out.1; omega))
                have HD6 : RowKit.Hid (w6.heap[b8]? = some (.cells (cellsD d).toArray 43 (0, 0))) := Lib.hid ((f3.block _ (lt_of_heap HDx.out) (fun e => by have := HB10.out.2; omega)).trans HDx.out)
                have HW6 := Lib.hid f2
                have HL6 : RowKit.Hid (w6.heap[b3]? = some (.cells #[.int .u64 E, .int .i64 H, .int .i64 U] 24 (0, 0))) := Lib.hid ((f3.block _ (lt_of_heap HLE.out) (fun e => by have := HB10.out.1; have := lt_of_heap HAT.out.lease; omega)).trans HLE.out)
                clear f1 f2 f3 hw6 HU4 HD8' H10 HLE HRG l0 l1 l2 d0 d1 d2 d3 d4
                go_wp2
                go_meet
                case rel => exact ⟨x, (i : Int) + 1, HW6.out, HU6.out, HD6.out, HL6.out, .inr ⟨i, HX.out, rfl, HZZ.out⟩⟩
          case rest =>
            have HWA := Lib.hid hcut
            clear hcut HU4 HD8' H10 HLE l0 l1 l2 HC HDx HWx d0
            obtain ⟨x, ep, g1, g2, g3, g4, hor⟩ := HWA.out
            have HOR := Lib.hid hor
            obtain ⟨l0, l1, l2⟩ := cells3_of (w := wc) (b := b3) g4
            obtain ⟨w5, hw5⟩ : ∃ w5, w5 = wc.alloc (.cells #[.int .u64 E, .int .i64 H, .int .i64 U] 24) := ⟨_, rfl⟩
            obtain ⟨b11, hb11⟩ : ∃ b11, b11 = wc.heap.size := ⟨_, rfl⟩
            have HU5 : RowKit.Hid (Upd (fun _ => False) wo w5) := Lib.hid (by rw [hw5]; exact g2.alloc _)
            have HD5 : RowKit.Hid (w5.heap[b8]? = some (.cells (cellsD d).toArray 43 (0, 0))) := Lib.hid (by rw [hw5]; exact (alloc_lt (lt_of_heap g3)).trans g3)
            have HL5 : RowKit.Hid (w5.heap[b3]? = some (.cells #[.int .u64 E, .int .i64 H, .int .i64 U] 24 (0, 0))) := Lib.hid (by rw [hw5]; exact (alloc_lt (lt_of_heap g4)).trans g4)
            have HW5 : RowKit.Hid (w5.heap[b10]? = some (.cells #[.int .i64 x, .int .u64 ep] 35 (0, 0))) := Lib.hid (by rw [hw5]; exact (alloc_lt (lt_of_heap g1)).trans g1)
            have HN5 : RowKit.Hid (w5.heap[b11]? = some (.cells #[.int .u64 E, .int .i64 H, .int .i64 U] 24 (0, 0))) := Lib.hid (by rw [hw5]; exact alloc_at hb11)
            have HB11 : RowKit.Hid (b10 < b11) := Lib.hid (by rw [hb11]; exact lt_of_heap g1)
            clear g1 g2 g3 g4 hor HWA
            go_upto_region 17 with fail
            rw [← hw5, ← hb11]
            clear hw5 hb11 l0 l1 l2
            obtain ⟨d0, d1, d2, d3, d4⟩ := cells5_of (w := w5) (b := b8) HD5.out
            clear d1 d2 d3 d4
            go_upto_block 2 with fail
            clear d0
            have hqb := kind3 d.k
            generalize (wrap64 (d.k.tmod 3 + 3)).tmod 3 = q at *
            have HQB := Lib.hid hqb
            clear hqb
            go_cut [5, 12] from 24 to 217 (fun had e wr => DoneAt w b3 (b3 + 1) b11 (k + 1) nw2 E H U ns had e wr)
            case first =>
              obtain ⟨l0, l1, l2⟩ := cells3_of (w := w5) (b := b3) HL5.out
              obtain ⟨x0, x1⟩ := cells2_of (w := w5) (b := b10) HW5.out
              have hE0 : 0 ≤ E := by have := HL0.out.len; omega
              have hq3 : q = 0 ∨ q = 1 ∨ q = 2 := by have := HQB.out; omega
              rcases hq3 with rfl | rfl | rfl
              ·
                as_aux_lemma =>
                  obtain ⟨rfl, rfl⟩ : ep = 0 ∧ x = num := by
                    rcases HOR.out with ⟨h1, h2, _⟩ | ⟨_, _, _, h3⟩
                    · exact ⟨h1, h2⟩
                    · exact absurd (HQB.out.2.2.1 rfl) h3
                  obtain ⟨hA1, hA2⟩ := HL0.out.acquire (by omega) hnumb hnw2b hspanb
                  have HA2 := Lib.hid hA2
                  clear hA2
                  go_wp2_with (go_at_call 8; fail)
                  by_cases hU : nw2 < U
                  · have hca := acquire_any E H U x nw2 span w5 hE0
                    rw [hA1 hU] at hca
                    have HCA := Lib.hid hca
                    clear hca hA1 l0 l1 l2 x0 x1
                    refine HCA.out.mono ?_
                    rintro e w7 ⟨rfl, hu7⟩
                    have HU7 : RowKit.Hid (Upd (fun _ => False) w5 w7) := Lib.hid (Upd.of_below hu7)
                    have HN7 := Lib.hid ((HU7.out.block _ (lt_of_heap HN5.out) (fun e => e)).trans HN5.out)
                    clear hu7 HCA
                    simp only [lres]
                    iterate 10 go_step
                    obtain ⟨f1, f2, f3⟩ := over_any (W := w7) [.int .u64 0, .int .i64 0, .int .i64 0] HN7.out rfl
                    refine wpList_store_mid rfl 24 (.tmp 11) (.tmp 80) rfl b11 0 #[.int .u64 0, .int .i64 0, .int .i64 0] rfl rfl f1 Try.size24d (by simp [Value.oneCell']) ?_
                    refine (?_ : wpList _ _ _ _ _ (w7.setCells b11 0 [.int .u64 0, .int .i64 0, .int .i64 0]))
                    obtain ⟨w8, hw8⟩ : ∃ w8, w8 = w7.setCells b11 0 [.int .u64 0, .int .i64 0, .int .i64 0] := ⟨_, rfl⟩
                    rw [← hw8] at f2 f3 ⊢
                    have HU8 : RowKit.Hid (Upd (fun _ => False) wo w8) := Lib.hid ((HU5.out.trans HU7.out).step f3 (fun j hj e => by have := HB10.out.1; have := HB11.out; omega))
                    clear f1 f2 f3 hw8 HU7 HN7
                    go_wp2
                    go_meet
                    case rel => exact .inl ⟨311, by omega, rfl, (HAT2.out.kept HU8.out).to (HL0.out.same hnw2b) (by omega)⟩
                  · have hca := acquire_any E H U x nw2 span w5 hE0
                    obtain ⟨hA3, hA4⟩ := HA2.out (by omega)
                    rw [hA3] at hca
                    have HCA := Lib.hid hca; have HL9 := Lib.hid hA4
                    clear hca hA1 hA3 hA4 HA2 l0 l1 l2 x0 x1
                    refine HCA.out.mono ?_
                    rintro e w7 ⟨rfl, hu7⟩
                    have HU7 : RowKit.Hid (Upd (fun _ => False) w5 w7) := Lib.hid (Upd.of_below hu7)
                    have HN7 := Lib.hid ((HU7.out.block _ (lt_of_heap HN5.out) (fun e => e)).trans HN5.out)
                    clear hu7 HCA
                    simp only [lres]
                    iterate 10 go_step
                    obtain ⟨f1, f2, f3⟩ := over_any (W := w7) [.int .u64 (E + 1), .int .i64 x, .int .i64 (nw2 + span)] HN7.out rfl
                    refine wpList_store_mid rfl 24 (.tmp 11) (.tmp 80) rfl b11 0 #[.int .u64 (E + 1), .int .i64 x, .int .i64 (nw2 + span)] rfl rfl f1 Try.size24d (by simp [Value.oneCell']) ?_
                    refine (?_ : wpList _ _ _ _ _ (w7.setCells b11 0 [.int .u64 (E + 1), .int .i64 x, .int .i64 (nw2 + span)]))
                    obtain ⟨w8, hw8⟩ : ∃ w8, w8 = w7.setCells b11 0 [.int .u64 (E + 1), .int .i64 x, .int .i64 (nw2 + span)] := ⟨_, rfl⟩
                    rw [← hw8] at f2 f3 ⊢
                    have HU8 : RowKit.Hid (Upd (fun _ => False) wo w8) := Lib.hid ((HU5.out.trans HU7.out).step f3 (fun j hj e => by have := HB10.out.1; have := HB11.out; omega))
                    have HN8 := Lib.hid f2
                    have HW8 := Lib.hid ((f3.block _ (lt_of_heap ((HU7.out.block _ (lt_of_heap HW5.out) (fun e => e)).trans HW5.out)) (fun e => by have := HB11.out; omega)).trans ((HU7.out.block _ (lt_of_heap HW5.out) (fun e => e)).trans HW5.out))
                    have HAT8 := Lib.hid (HAT2.out.kept HU8.out)
                    clear f1 f2 f3 hw8 HU7 HN7 HU5 HD5 HL5 HW5 HN5
                    go_upto_region 22 with fail
                    have HE9 : RowKit.Hid (E = nn) := Lib.hid (by have := HL0.out.len; rw [← HNN.out] at this; exact this)
                    have hlc := HL0.out.cnt
                    obtain ⟨u0, D0, hu0, hD0⟩ := HAT8.out.lost
                    have HD0 := Lib.hid hD0
                    clear hD0
                    go_loopg [86] nn (fun gk i wr => ∃ j : Nat, j ≤ nn ∧ gk = nn - j ∧ i = .int .i64 j ∧ (∃ u D, u ≤ 81 * k + j ∧ LostAt wr (b3 + 1) u j (ns.length - 1) D) ∧ Upd (fun x => x = b3 + 1) w8 wr)
                    case atStart => exact ⟨0, Nat.zero_le _, rfl, rfl, ⟨u0, D0, hu0, HD0.out.at⟩, Upd.refl _ _⟩
                    case round =>
                      obtain ⟨j, hj, rfl, rfl, ⟨u, D, hub, hLA⟩, huj⟩ := hrel
                      obtain ⟨wp, rfl⟩ : ∃ wp, wp = wr := ⟨_, rfl⟩
                      have HLA := Lib.hid hLA; have HUJ := Lib.hid huj
                      clear hLA huj HD0
                      by_cases hjn : j < nn
                      · have hjni : (j : Int) < nn := by omega
                        have hhad := HAT8.out.had
                        rw [← HNN.out] at hhad
                        obtain ⟨g, rfl, hg1, hg2, hc0, hc1⟩ := own_cell2 hhad hjn
                        obtain ⟨y, hy⟩ : ∃ y, ns[j]? = some y := ⟨ns[j]'(by rw [← HNN.out]; exact hjn), by rw [List.getElem?_eq_getElem]⟩
                        obtain ⟨e0, e1⟩ := whoC_get ns 0 j y hy
                        rw [e0] at hc0
                        rw [e1, show ((0 + j + 1 : Nat) : Int) = (j : Int) + 1 by omega] at hc1
                        have HX := Lib.hid hy
                        have HRG : RowKit.Hid (∀ t v, ([.int .i64 y, .int .u64 ((j : Int) + 1)] : List Value)[t]? = some v → wp.cell? ((⟨g, j * 2, none⟩ : Addr).add t) = some v) := Lib.hid (fun t v hj => by
                          rw [Addr.add_mid]
                          match t, hj with
                          | 0, hj => simp at hj; subst hj; exact cell_keptG HUJ.out (by show ¬ g = b3 + 1; omega) hc0
                          | 1, hj => simp at hj; subst hj; exact cell_keptG HUJ.out (by show ¬ g = b3 + 1; omega) hc1
                          | t + 2, hj => simp at hj)
                        have hhf := HL0.out.holds (by omega) HX.out nw2
                        have hhf2 : holdsF E H U y ((j : Int) + 1) nw2 = false := by rw [show (j : Int) + 1 = (j + 1 : Nat) by omega, hhf]; simp; omega
                        have HHF := Lib.hid hhf2
                        clear hhad hc0 hc1 e0 e1 hy hhf hhf2
                        go_upto_region 23 with fail
                        iterate 4 go_step
                        refine wpList_load_any rfl 35 (.tmp 88) rfl ⟨g, j * 2, none⟩ rfl [.int .i64 y, .int .u64 ((j : Int) + 1)] _ HRG.out Try.underlying35 rfl Try.size35d ?_
                        iterate 3 go_step
                        obtain ⟨f1, f2, f3, f4⟩ := fresh_any wp 35 #[.int .i64 0, .int .u64 0] [.int .i64 y, .int .u64 ((j : Int) + 1)] rfl
                        refine wpList_store_mid rfl 35 (.tmp 14) (.tmp 89) rfl wp.heap.size 0 #[.int .i64 y, .int .u64 ((j : Int) + 1)] rfl rfl f1 Try.size35d (by simp [Value.oneCell']) ?_
                        refine (?_ : wpList _ _ _ _ _ ((wp.alloc (.cells #[.int .i64 0, .int .u64 0] 35)).setCells wp.heap.size 0 [.int .i64 y, .int .u64 ((j : Int) + 1)]))
                        obtain ⟨w9, hw9⟩ : ∃ w9, w9 = (wp.alloc (.cells #[.int .i64 0, .int .u64 0] 35)).setCells wp.heap.size 0 [.int .i64 y, .int .u64 ((j : Int) + 1)] := ⟨_, rfl⟩
                        obtain ⟨b14, hb14⟩ : ∃ b14, b14 = wp.heap.size := ⟨_, rfl⟩
                        rw [← hw9, ← hb14] at f2
                        rw [← hw9] at f3
                        rw [← hw9, ← hb14]
                        have HU9 := Lib.hid f3; have H14 := Lib.hid f2
                        have HLE9 : RowKit.Hid (w9.heap[b3]? = some (.cells #[.int .u64 E, .int .i64 H, .int .i64 U] 24 (0, 0))) := Lib.hid (((HUJ.out.trans (HU9.out.mono (fun _ _ e => e.elim))).block _ (lt_of_heap HAT8.out.lease) (by omega)).trans HAT8.out.lease)
                        have hb11 : b11 ≠ b3 + 1 := by have := HB10.out; have := HB11.out; have := HMB.out; omega
                        have HN9 := Lib.hid (((HUJ.out.trans (HU9.out.mono (fun _ _ e => e.elim))).block _ (lt_of_heap HN8.out) hb11).trans HN8.out)
                        clear f1 f2 f3 f4 hw9 hb14 HRG
                        obtain ⟨l0, l1, l2⟩ := cells3_of (w := w9) (b := b3) HLE9.out
                        obtain ⟨m0, m1⟩ := cells2_of (w := w9) (b := b14) H14.out
                        obtain ⟨n0, n1, n2⟩ := cells3_of (w := w9) (b := b11) HN9.out
                        have hge : ¬ ((j : Int) + 1 ≥ E + 1) := by have := HE9.out; omega
                        go_wp2_with (go_at_call 16; fail)
                        have hca := holds_any E H U y ((j : Int) + 1) nw2 w9 hE0
                        rw [HHF.out] at hca
                        have HCA := Lib.hid hca
                        clear hca
                        refine HCA.out.mono ?_
                        rintro e wa ⟨rfl, hua⟩
                        have HUA : RowKit.Hid (Upd (fun _ => False) wp wa) := Lib.hid (HU9.out.trans (Upd.of_below hua))
                        have H14a := Lib.hid (((Upd.of_below (F := fun _ => False) hua).block _ (lt_of_heap H14.out) (fun e => e)).trans H14.out)
                        clear hua HCA l0 l1 l2 m0 m1 n0 n1 n2 HU9 H14 HLE9 HN9
                        obtain ⟨m0, m1⟩ := cells2_of (w := wa) (b := b14) H14a.out
                        simp only []
                        go_upto_region 26 with fail
                        iterate 10 go_step
                        have hown := (HLA.out.kept HUA.out (fun e => e)).own
                        refine wpList_mapUpdate_own _ rfl (.tmp 104) (.tmp 106) (.const (.bool true)) 41 rfl 22 4 (Maps.int_keyed Try.underlying22) Try.underlying41m (plainElem Try.prog 4) (b3 + 1) u D rfl hown (by unfold maxLen; omega) (.int .u64 ((j : Int) + 1)) (.bool true) (.int .u64 ((j : Int) + 1)) rfl rfl (Maps.keyOf_int_mk Try.underlying22 (u64_wf (by omega))) (.lit (.bool true)) [] (plainElem_bool Try.underlying4 true) ?_
                        intro wb hownb hgrowb
                        have HSB : RowKit.Hid (LostAt wb (b3 + 1) (u + 1) (j + 1) (ns.length - 1) (D.put (.int .u64 (j + 1 : Nat)) (.lit (.bool true)))) := Lib.hid ((HLA.out.kept HUA.out (fun e => e)).step (by rw [show ((j + 1 : Nat) : Int) = (j : Int) + 1 by omega]; exact hownb))
                        have HUB : RowKit.Hid (Upd (fun x => x = b3 + 1) w8 wb) := Lib.hid ((HUJ.out.trans (HUA.out.mono (fun _ _ e => e.elim))).trans (Upd.of_grown hgrowb (fun k hk => (Option.some.inj hk).symm)))
                        clear hown hownb hgrowb m0 m1
                        go_wp2
                        go_roundg (nn - (j + 1))
                        case measure => omega
                        case rel => exact ⟨j + 1, by omega, rfl, congrArg _ (by omega), ⟨u + 1, _, by omega, HSB.out⟩, HUB.out⟩
                      · obtain rfl : j = nn := by omega
                        have hb103 : b10 ≠ b3 + 1 := by have := HB10.out.1; have := HMB.out; omega
                        have hb113 : b11 ≠ b3 + 1 := by have := HB10.out; have := HB11.out; have := HMB.out; omega
                        have HW9 := Lib.hid ((HUJ.out.block _ (lt_of_heap HW8.out) hb103).trans HW8.out)
                        have HN9 := Lib.hid ((HUJ.out.block _ (lt_of_heap HN8.out) hb113).trans HN8.out)
                        have HLT := Lib.hid (HLA.out.to (by have := HNN.out; omega))
                        clear HN8 HW8 HLA hb103 hb113
                        obtain ⟨n0, n1, n2⟩ := cells3_of (w := wp) (b := b11) HN9.out
                        obtain ⟨p0, p1⟩ := cells2_of (w := wp) (b := b10) HW9.out
                        have pf : wp.frozen? ⟨b10, 1, none⟩ = false := frozen_of_heap HW9.out
                        go_upto_region 29 with fail
                        obtain ⟨wq, hwq⟩ : ∃ wq, wq = wp.setCell ⟨b10, 1, none⟩ (.int .u64 (E + 1)) := ⟨_, rfl⟩
                        rw [← hwq]
                        have hb10 : wq.heap[b10]? = some (.cells #[.int .i64 x, .int .u64 (E + 1)] 35 (0, 0)) := by rw [hwq]; exact blk_set HW9.out
                        have hpq : Upd (fun k => k = b10) wp wq := by rw [hwq]; exact Upd.setCell (F := fun k => k = b10) (p := ⟨b10, 1, none⟩) (Upd.refl _ wp) (.inl rfl) _
                        have h8q : Upd (fun k => k = b3 + 1 ∨ k = b10) w8 wq := (HUJ.out.mono (fun _ _ e => .inl e)).trans (hpq.mono (fun _ _ e => .inr e))
                        have hbb : b10 ≠ b3 ∧ b10 ≠ b3 + 1 ∧ b11 ≠ b10 := by have := HB10.out.1; have := HMB.out; have := HB11.out; omega
                        have hadq : wq.ownsRow (b3 + 1 + 1) 35 2 (.slice ua j uc) j (whoC 0 ns) := by
                          have hh := HAT8.out.had
                          rw [← HNN.out] at hh
                          have hh0 := HAT2.out.had
                          rw [← HNN.out] at hh0
                          refine ownsRow_any hh h8q (fun kk hkk e => ?_)
                          have h5 := World.ownsRow.lt hh0 kk hkk
                          have := HB10.out.1
                          omega
                        have HADQ := Lib.hid hadq
                        have HLQ := Lib.hid (HLT.out.kept hpq (fun e => hbb.2.1 e.symm))
                        have HNQ := Lib.hid ((hpq.block _ (lt_of_heap HN9.out) hbb.2.2).trans HN9.out)
                        have HLEQ := Lib.hid ((h8q.block _ (lt_of_heap HAT8.out.lease) (by intro e; have := hbb.1; omega)).trans HAT8.out.lease)
                        have HWQ : RowKit.Hid (Upd (fun _ => False) w wq) := Lib.hid (HAT8.out.upd.step h8q (fun kk hk e => by have := HB3.out; have := HB10.out.1; have := HMB.out; omega))
                        have HMW : RowKit.Hid (b3 + 1 < wq.heap.size) := Lib.hid (by have := HMB.out; have := HU8.out.size; have := h8q.size; omega)
                        have HBQ := Lib.hid hb10
                        clear hwq hb10 hpq h8q hbb hadq n0 n1 n2 p0 p1 pf HW9 HN9 HLT HUJ
                        iterate 4 go_step
                        refine wpList_load_any rfl 35 (.tmp 10) rfl ⟨b10, 0, none⟩ rfl [.int .i64 x, .int .u64 (E + 1)] _ (rangeAt_block' HBQ.out) Try.underlying35 rfl Try.size35d ?_
                        iterate 3 go_step
                        obtain ⟨i0, hi0, hz0, hz1, hz2⟩ := info_parts Try.info35p
                        refine wpList_append_own _ rfl (.tmp 111) (.tmp 113) 40 rfl (b3 + 1 + 1) 35 i0 (.agg #[.int .i64 0, .int .u64 0]) 2 16 Try.underlying40 hi0 hz0 hz1 hz2 rfl (by omega) _ j _ rfl (HADQ.out.alloc _) ⟨wq.heap.size, 0, none⟩ 1 1 [.int .i64 x, .int .u64 (E + 1)] rfl rfl (fun t v ht => by
                          rw [Addr.add_mid, Nat.zero_add, cell_of_heap (alloc_at (w := wq) rfl)]
                          simpa using ht) (by simp [Value.oneCell']) (by unfold maxLen; omega) (by omega) (by have := HMW.out; simp; omega) ?_
                        intro v' w4 hown hgrow _
                        have hq4 : Upd (fun k => (Value.slice ua j uc).ownBlock = some k) wq w4 := ((Upd.refl _ wq).alloc _).trans (Upd.of_grown hgrow (fun kk hk => hk))
                        have hlt : ∀ kk, (Value.slice ua j uc).ownBlock = some kk → b3 + 1 + 1 ≤ kk ∧ kk < wo.heap.size := fun kk hk => by
                          have hh0 := HAT2.out.had
                          rw [← HNN.out] at hh0
                          exact World.ownsRow.lt hh0 kk hk
                        have HNW : RowKit.Hid (NewAt w b3 (b3 + 1) b11 (k + 1) nw2 (E + 1) x (nw2 + span) (ns ++ [x]) v' w4) := Lib.hid (by
                          have hb := HB10.out; have hb2 := HB11.out
                          refine ⟨HL9.out, by simp, ⟨_, _, _, (hq4.block _ (lt_of_heap HLEQ.out) (fun e => by have := hlt _ e; omega)).trans HLEQ.out⟩, (hq4.block _ (lt_of_heap HNQ.out) (fun e => by have := hlt _ e; omega)).trans HNQ.out, ?_, ⟨u, D, by omega, ?_⟩, HWQ.out.step hq4 (fun kk hk e => by have := hlt _ e; have := HB3.out; omega)⟩
                          · rw [whoC_snoc, Nat.zero_add, ← HNN.out, show ((j + 1 : Nat) : Int) = E + 1 by have := HE9.out; omega]
                            have hl : (ns ++ [x]).length = j + 1 := by simp [← HNN.out]
                            rw [hl]
                            exact hown
                          · have hl : (ns ++ [x]).length - 1 = j := by simp [← HNN.out]
                            rw [hl]
                            exact HLQ.out.kept hq4 (fun e => by have := hlt _ e; omega))
                        clear hown hgrow hi0 hz0 hz1 hz2 hq4 hlt
                        go_wp2
                        go_meet
                        case rel => exact .inr ⟨rfl, _, _, _, _, HNW.out⟩
              ·
                as_aux_lemma =>
                  have hkk : d.k.tmod 3 ≠ 0 := fun h0 => absurd (HQB.out.2.2.2 h0) (by omega)
                  rcases HL0.out.renews (by omega) hnumb hkk HOR.out hnw2b hspanb with ⟨c, hc0, hc⟩ | ⟨V, hc, hl2, hne, hep, hh⟩
                  · have hca := renew_any E H U x ep nw2 span w5 hE0
                    rw [hc] at hca
                    have HCA := Lib.hid hca
                    have hcz : (c == 0) = false := by simpa using hc0
                    clear hca hc
                    go_wp2_with (go_at_call 12; fail)
                    refine HCA.out.mono ?_
                    rintro e w7 ⟨rfl, hu7⟩
                    have HU7 : RowKit.Hid (Upd (fun _ => False) w5 w7) := Lib.hid (Upd.of_below hu7)
                    have HN7 := Lib.hid ((HU7.out.block _ (lt_of_heap HN5.out) (fun e => e)).trans HN5.out)
                    clear hu7 HCA l0 l1 l2 x0 x1 hkk
                    simp only [lres]
                    iterate 10 go_step
                    obtain ⟨f1, f2, f3⟩ := over_any (W := w7) [.int .u64 0, .int .i64 0, .int .i64 0] HN7.out rfl
                    refine wpList_store_mid rfl 24 (.tmp 11) (.tmp 126) rfl b11 0 #[.int .u64 0, .int .i64 0, .int .i64 0] rfl rfl f1 Try.size24d (by simp [Value.oneCell']) ?_
                    refine (?_ : wpList _ _ _ _ _ (w7.setCells b11 0 [.int .u64 0, .int .i64 0, .int .i64 0]))
                    obtain ⟨w8, hw8⟩ : ∃ w8, w8 = w7.setCells b11 0 [.int .u64 0, .int .i64 0, .int .i64 0] := ⟨_, rfl⟩
                    rw [← hw8] at f2 f3 ⊢
                    have HU8 : RowKit.Hid (Upd (fun _ => False) wo w8) := Lib.hid ((HU5.out.trans HU7.out).step f3 (fun j hj e => by have := HB10.out.1; have := HB11.out; omega))
                    clear f1 f2 f3 hw8 HU7 HN7
                    go_wp2
                    go_meet
                    case rel => exact .inl ⟨c, hc0, rfl, (HAT2.out.kept HU8.out).to (HL0.out.same hnw2b) (by omega)⟩
                  · have hca := renew_any E H U x ep nw2 span w5 hE0
                    rw [hc] at hca
                    have HCA := Lib.hid hca; have HL9 := Lib.hid hl2; have HNE := Lib.hid hne; have HEP := Lib.hid hep; have HHO := Lib.hid hh
                    clear hca hc hl2 hne hep hh
                    go_wp2_with (go_at_call 12; fail)
                    refine HCA.out.mono ?_
                    rintro e w7 ⟨rfl, hu7⟩
                    have HU7 : RowKit.Hid (Upd (fun _ => False) w5 w7) := Lib.hid (Upd.of_below hu7)
                    have HN7 := Lib.hid ((HU7.out.block _ (lt_of_heap HN5.out) (fun e => e)).trans HN5.out)
                    clear hu7 HCA l0 l1 l2 x0 x1 hkk
                    simp only [lres]
                    iterate 10 go_step
                    obtain ⟨f1, f2, f3⟩ := over_any (W := w7) [.int .u64 E, .int .i64 H, .int .i64 V] HN7.out rfl
                    refine wpList_store_mid rfl 24 (.tmp 11) (.tmp 126) rfl b11 0 #[.int .u64 E, .int .i64 H, .int .i64 V] rfl rfl f1 Try.size24d (by simp [Value.oneCell']) ?_
                    refine (?_ : wpList _ _ _ _ _ (w7.setCells b11 0 [.int .u64 E, .int .i64 H, .int .i64 V]))
                    obtain ⟨w8, hw8⟩ : ∃ w8, w8 = w7.setCells b11 0 [.int .u64 E, .int .i64 H, .int .i64 V] := ⟨_, rfl⟩
                    rw [← hw8] at f2 f3 ⊢
                    have HU58 : RowKit.Hid (Upd (fun j => j = b11) w5 w8) := Lib.hid ((HU7.out.mono (fun _ _ e => e.elim)).trans f3)
                    have HU8 : RowKit.Hid (Upd (fun _ => False) wo w8) := Lib.hid (HU5.out.step HU58.out (fun j hj e => by have := HB10.out.1; have := HB11.out; omega))
                    have HN8 := Lib.hid f2
                    clear f1 f2 f3 hw8 HU7 HN7
                    have HAT8 := Lib.hid (HAT2.out.kept HU8.out)
                    have HLE8 := Lib.hid HAT8.out.lease
                    have HW8 := Lib.hid ((HU58.out.block _ (lt_of_heap HW5.out) (fun e => by have := HB11.out; omega)).trans HW5.out)
                    obtain ⟨u0, D0, hu0, hD0⟩ := HAT8.out.lost
                    have hep0 : 0 ≤ ep ∧ ep ≤ 1000 := by have := HEP.out; have := HNN.out; omega
                    have hlk := look_lost hD0.own hep0
                    rw [show lostOf D0 ep = false by rw [hD0.says]; simp; have := HEP.out; have := HNN.out; omega] at hlk
                    have HLK := Lib.hid hlk
                    clear hlk hD0
                    obtain ⟨l0, l1, l2⟩ := cells3_of (w := w8) (b := b3) HLE8.out
                    obtain ⟨x0, x1⟩ := cells2_of (w := w8) (b := b10) HW8.out
                    go_upto_region 32 with fail
                    iterate 17 (first | refine wpList_execG (by kernel_rfl) (run_exec_lookup rfl rfl rfl HLK.out) ?_ | go_step)
                    go_wp2_with (go_at_call 16; fail)
                    have hca := holds_any E H U x ep nw2 w8 hE0
                    rw [HHO.out] at hca
                    have HCA := Lib.hid hca
                    clear hca
                    refine HCA.out.mono ?_
                    rintro e wa ⟨rfl, hua⟩
                    have HUA : RowKit.Hid (Upd (fun _ => False) w8 wa) := Lib.hid (Upd.of_below hua)
                    clear hua HCA l0 l1 l2 x0 x1
                    simp only []
                    go_wp2
                    go_meet
                    case rel =>
                      have ha := HAT8.out.kept HUA.out
                      obtain ⟨u, D, h1, h2⟩ := ha.lost
                      exact .inr ⟨rfl, E, H, V, ns, HL9.out, HNE.out, ⟨_, _, _, ha.lease⟩, (HUA.out.block _ (lt_of_heap HN8.out) (fun e => e)).trans HN8.out, ha.had, ⟨u, D, by omega, h2⟩, ha.upd⟩
              ·
                as_aux_lemma =>
                  have hkk : d.k.tmod 3 ≠ 0 := fun h0 => absurd (HQB.out.2.2.2 h0) (by omega)
                  rcases HL0.out.yields (by omega) hnumb hkk HOR.out hnw2b with ⟨c, hc0, hc⟩ | ⟨hc, hl2, hne, hh⟩
                  · have hca := yield_any E H U x ep nw2 w5 hE0
                    rw [hc] at hca
                    have HCA := Lib.hid hca
                    have hcz : (c == 0) = false := by simpa using hc0
                    clear hca hc
                    go_wp2_with (go_at_call 14; fail)
                    refine HCA.out.mono ?_
                    rintro e w7 ⟨rfl, hu7⟩
                    have HU7 : RowKit.Hid (Upd (fun _ => False) w5 w7) := Lib.hid (Upd.of_below hu7)
                    have HN7 := Lib.hid ((HU7.out.block _ (lt_of_heap HN5.out) (fun e => e)).trans HN5.out)
                    clear hu7 HCA l0 l1 l2 x0 x1 hkk
                    simp only [lres]
                    iterate 10 go_step
                    obtain ⟨f1, f2, f3⟩ := over_any (W := w7) [.int .u64 0, .int .i64 0, .int .i64 0] HN7.out rfl
                    refine wpList_store_mid rfl 24 (.tmp 11) (.tmp 160) rfl b11 0 #[.int .u64 0, .int .i64 0, .int .i64 0] rfl rfl f1 Try.size24d (by simp [Value.oneCell']) ?_
                    refine (?_ : wpList _ _ _ _ _ (w7.setCells b11 0 [.int .u64 0, .int .i64 0, .int .i64 0]))
                    obtain ⟨w8, hw8⟩ : ∃ w8, w8 = w7.setCells b11 0 [.int .u64 0, .int .i64 0, .int .i64 0] := ⟨_, rfl⟩
                    rw [← hw8] at f2 f3 ⊢
                    have HU8 : RowKit.Hid (Upd (fun _ => False) wo w8) := Lib.hid ((HU5.out.trans HU7.out).step f3 (fun j hj e => by have := HB10.out.1; have := HB11.out; omega))
                    clear f1 f2 f3 hw8 HU7 HN7
                    go_wp2
                    go_meet
                    case rel => exact .inl ⟨c, hc0, rfl, (HAT2.out.kept HU8.out).to (HL0.out.same hnw2b) (by omega)⟩
                  · have hca := yield_any E H U x ep nw2 w5 hE0
                    rw [hc] at hca
                    have HCA := Lib.hid hca; have HL9 := Lib.hid hl2; have HNE := Lib.hid hne; have HHO := Lib.hid hh
                    clear hca hc hl2 hne hh
                    go_wp2_with (go_at_call 14; fail)
                    refine HCA.out.mono ?_
                    rintro e w7 ⟨rfl, hu7⟩
                    have HU7 : RowKit.Hid (Upd (fun _ => False) w5 w7) := Lib.hid (Upd.of_below hu7)
                    have HN7 := Lib.hid ((HU7.out.block _ (lt_of_heap HN5.out) (fun e => e)).trans HN5.out)
                    clear hu7 HCA l0 l1 l2 x0 x1 hkk
                    simp only [lres]
                    iterate 10 go_step
                    obtain ⟨f1, f2, f3⟩ := over_any (W := w7) [.int .u64 E, .int .i64 H, .int .i64 nw2] HN7.out rfl
                    refine wpList_store_mid rfl 24 (.tmp 11) (.tmp 160) rfl b11 0 #[.int .u64 E, .int .i64 H, .int .i64 nw2] rfl rfl f1 Try.size24d (by simp [Value.oneCell']) ?_
                    refine (?_ : wpList _ _ _ _ _ (w7.setCells b11 0 [.int .u64 E, .int .i64 H, .int .i64 nw2]))
                    obtain ⟨w8, hw8⟩ : ∃ w8, w8 = w7.setCells b11 0 [.int .u64 E, .int .i64 H, .int .i64 nw2] := ⟨_, rfl⟩
                    rw [← hw8] at f2 f3 ⊢
                    have HU8 : RowKit.Hid (Upd (fun _ => False) wo w8) := Lib.hid ((HU5.out.trans HU7.out).step f3 (fun j hj e => by have := HB10.out.1; have := HB11.out; omega))
                    have HN8 := Lib.hid f2
                    clear f1 f2 f3 hw8 HU7 HN7
                    have HAT8 := Lib.hid (HAT2.out.kept HU8.out)
                    obtain ⟨n0, n1, n2⟩ := cells3_of (w := w8) (b := b11) HN8.out
                    go_wp2_with (go_at_call 17; fail)
                    have hca := left_any E H nw2 nw2 w8 hE0
                    rw [HHO.out] at hca
                    have HCA := Lib.hid hca
                    clear hca
                    refine HCA.out.mono ?_
                    rintro e wa ⟨rfl, hua⟩
                    have HUA : RowKit.Hid (Upd (fun _ => False) w8 wa) := Lib.hid (Upd.of_below hua)
                    clear hua HCA n0 n1 n2
                    simp only []
                    go_wp2
                    go_meet
                    case rel =>
                      have ha := HAT8.out.kept HUA.out
                      obtain ⟨u, D, h1, h2⟩ := ha.lost
                      exact .inr ⟨rfl, E, H, nw2, ns, HL9.out, HNE.out, ⟨_, _, _, ha.lease⟩, (HUA.out.block _ (lt_of_heap HN8.out) (fun e => e)).trans HN8.out, ha.had, ⟨u, D, by omega, h2⟩, ha.upd⟩
            case rest =>
              clear HU5 HD5 HL5 HW5 HN5 HQB HOR HAT2 HAT HL0
              as_aux_lemma =>
                rcases hcut with ⟨c, hc0, rfl, hat⟩ | ⟨rfl, E2, H2, U2, ns2, hnew⟩
                · have HAT9 := Lib.hid hat
                  have hcz : (c != 0) = true := by simpa using hc0
                  clear hat
                  go_wp2
                  go_roundg (L.length - (k + 1))
                  case measure => omega
                  case rel => exact ⟨k + 1, nw2, E, H, U, ns, by omega, by omega, rfl, rfl, congrArg _ (by omega), HAT9.out⟩
                · have HNW := Lib.hid hnew
                  obtain ⟨y0, y1, y2, hy⟩ := hnew.lease
                  have hb0 : b11 ≠ b3 := by have := HB10.out.1; have := HB11.out; have := HMB.out; omega
                  go_upto_region 39 with fail
                  iterate 1 go_step
                  refine wpList_load_any rfl 24 (.tmp 11) rfl ⟨b11, 0, none⟩ rfl [.int .u64 E2, .int .i64 H2, .int .i64 U2] _ (rangeAt_block' HNW.out.new) Try.underlying24 rfl Try.size24d ?_
                  obtain ⟨f1, f2, f3⟩ := over_any (W := wc) [.int .u64 E2, .int .i64 H2, .int .i64 U2] hy rfl
                  refine wpList_store_mid rfl 24 (.tmp 3) (.tmp 172) rfl b3 0 #[.int .u64 E2, .int .i64 H2, .int .i64 U2] rfl rfl f1 Try.size24d (by simp [Value.oneCell']) ?_
                  refine (?_ : wpList _ _ _ _ _ (wc.setCells b3 0 [.int .u64 E2, .int .i64 H2, .int .i64 U2]))
                  obtain ⟨w6, hw6⟩ : ∃ w6, w6 = wc.setCells b3 0 [.int .u64 E2, .int .i64 H2, .int .i64 U2] := ⟨_, rfl⟩
                  rw [← hw6] at f2 f3 ⊢
                  have HAT6 : RowKit.Hid (OneAt w b3 (b3 + 1) (k + 1) nw2 E2 H2 U2 ns2 u5 w6) := Lib.hid (by
                    obtain ⟨u, D, h1, h2⟩ := HNW.out.lost
                    refine ⟨HNW.out.li, f2, ownsRow_any HNW.out.had f3 (fun kk hkk e => ?_), ⟨u, D, h1, h2.kept f3 (by omega)⟩, HNW.out.upd.step f3 (fun kk hk e => by have := HB3.out; omega)⟩
                    have := World.ownsRow.lt HNW.out.had kk hkk
                    omega)
                  have HNE := Lib.hid HNW.out.ne
                  clear hnew hy f1 f2 f3 hw6 HNW hb0
                  obtain ⟨va, vc, rfl⟩ : ∃ va vc, u5 = .slice va ns2.length vc := by
                    rcases HAT6.out.had.2 with ⟨e1, e2⟩ | ⟨g, cap, cur, e1, _⟩
                    · exact ⟨none, 0, by rw [e1, e2]⟩
                    · exact ⟨_, _, e1⟩
                  obtain ⟨mm, hmm⟩ : ∃ mm, mm = ns2.length := ⟨_, rfl⟩
                  rw [← hmm]
                  have HMM := Lib.hid hmm
                  have hmm0 : 0 < mm := by
                    have := List.length_pos_iff.2 HNE.out
                    omega
                  have hmm81 : mm ≤ 81 := by have := HAT6.out.li.cnt; omega
                  have HAT7 : RowKit.Hid (OneAt w b3 (b3 + 1) (k + 1) nw2 E2 H2 U2 ns2 (.slice va mm vc) w6) := Lib.hid (by rw [hmm]; exact HAT6.out)
                  have hE2 : 0 ≤ E2 := by have := HAT7.out.li.len; omega
                  clear hmm HAT6
                  go_upto_region 42 with fail
                  go_loopg [15, 175] mm (fun gk h i wr => ∃ (j : Nat) (hv : Int), j ≤ mm ∧ gk = mm - j ∧ i = .int .i64 j ∧ h = .int .i64 hv ∧ (hv = if j = mm ∧ nw2 < U2 then 1 else 0) ∧ Upd (fun _ => False) w6 wr)
                  case atStart => exact ⟨0, 0, Nat.zero_le _, rfl, rfl, rfl, by rw [if_neg (by omega)], Upd.refl _ _⟩
                  case round =>
                    obtain ⟨j, hv, hj, rfl, rfl, rfl, hhv, huj⟩ := hrel
                    obtain ⟨wp, rfl⟩ : ∃ wp, wp = wr := ⟨_, rfl⟩
                    have HUJ := Lib.hid huj
                    clear huj
                    by_cases hjn : j < mm
                    · rw [if_neg (by omega)] at hhv
                      subst hhv
                      have hjni : (j : Int) < mm := by omega
                      have hhad := ownsRow_any HAT7.out.had HUJ.out (fun _ _ e => e)
                      rw [← HMM.out] at hhad
                      obtain ⟨g, rfl, hg1, hg2, hc0, hc1⟩ := own_cell2 hhad hjn
                      obtain ⟨y, hy⟩ : ∃ y, ns2[j]? = some y := ⟨ns2[j]'(by rw [← HMM.out]; exact hjn), by rw [List.getElem?_eq_getElem]⟩
                      obtain ⟨e0, e1⟩ := whoC_get ns2 0 j y hy
                      rw [e0] at hc0
                      rw [e1, show ((0 + j + 1 : Nat) : Int) = (j : Int) + 1 by omega] at hc1
                      have HX := Lib.hid hy
                      have HRG : RowKit.Hid (∀ t v, ([.int .i64 y, .int .u64 ((j : Int) + 1)] : List Value)[t]? = some v → wp.cell? ((⟨g, j * 2, none⟩ : Addr).add t) = some v) := Lib.hid (fun t v hj => by
                        rw [Addr.add_mid]
                        match t, hj with
                        | 0, hj => simp at hj; subst hj; exact hc0
                        | 1, hj => simp at hj; subst hj; exact hc1
                        | t + 2, hj => simp at hj)
                      have hhf := HAT7.out.li.holds (by omega) HX.out nw2
                      have hhf2 : holdsF E2 H2 U2 y ((j : Int) + 1) nw2 = (decide (j + 1 = mm) && decide (nw2 < U2)) := by rw [show (j : Int) + 1 = (j + 1 : Nat) by omega, hhf, HMM.out]
                      have HHF := Lib.hid hhf2
                      have hst := HAT7.out.li.stale (by omega) j
                      have hst2 : staleF E2 H2 U2 ((j : Int) + 1) = decide (j + 1 < mm) := by rw [show (j : Int) + 1 = (j + 1 : Nat) by omega, hst, HMM.out]
                      have HST := Lib.hid hst2
                      clear hhad hc0 hc1 e0 e1 hy hhf hhf2 hst hst2
                      go_upto_region 43 with fail
                      iterate 4 go_step
                      refine wpList_load_any rfl 35 (.tmp 177) rfl ⟨g, j * 2, none⟩ rfl [.int .i64 y, .int .u64 ((j : Int) + 1)] _ HRG.out Try.underlying35 rfl Try.size35d ?_
                      iterate 3 go_step
                      obtain ⟨f1, f2, f3, f4⟩ := fresh_any wp 35 #[.int .i64 0, .int .u64 0] [.int .i64 y, .int .u64 ((j : Int) + 1)] rfl
                      refine wpList_store_mid rfl 35 (.tmp 17) (.tmp 178) rfl wp.heap.size 0 #[.int .i64 y, .int .u64 ((j : Int) + 1)] rfl rfl f1 Try.size35d (by simp [Value.oneCell']) ?_
                      refine (?_ : wpList _ _ _ _ _ ((wp.alloc (.cells #[.int .i64 0, .int .u64 0] 35)).setCells wp.heap.size 0 [.int .i64 y, .int .u64 ((j : Int) + 1)]))
                      obtain ⟨w9, hw9⟩ : ∃ w9, w9 = (wp.alloc (.cells #[.int .i64 0, .int .u64 0] 35)).setCells wp.heap.size 0 [.int .i64 y, .int .u64 ((j : Int) + 1)] := ⟨_, rfl⟩
                      obtain ⟨b17, hb17⟩ : ∃ b17, b17 = wp.heap.size := ⟨_, rfl⟩
                      rw [← hw9, ← hb17] at f2
                      rw [← hw9] at f3
                      rw [← hw9, ← hb17]
                      have HU9 := Lib.hid (HUJ.out.trans f3); have H17 := Lib.hid f2
                      have HLE9 : RowKit.Hid (w9.heap[b3]? = some (.cells #[.int .u64 E2, .int .i64 H2, .int .i64 U2] 24 (0, 0))) := Lib.hid ((HU9.out.block _ (lt_of_heap HAT7.out.lease) (fun e => e)).trans HAT7.out.lease)
                      clear f1 f2 f3 f4 hw9 hb17 HRG HUJ
                      obtain ⟨u, D, hub, hD⟩ := HAT7.out.lost
                      have HLK : RowKit.Hid (∀ W, Upd (fun _ => False) w9 W → (Instr.lookup 41 (.map (some (b3 + 1))) (.int .u64 ((j : Int) + 1)) false).run Try.prog W = .ok (.bool (decide (j + 1 < mm))) W) := Lib.hid (fun W hu => by
                        have hd2 := hD.kept (HU9.out.trans hu) (fun e => e)
                        rw [look_lost hd2.own (by omega), hd2.says]
                        have := HMM.out
                        congr 3
                        apply propext; omega)
                      clear hD hub
                      obtain ⟨l0, l1, l2⟩ := cells3_of (w := w9) (b := b3) HLE9.out
                      obtain ⟨m0, m1⟩ := cells2_of (w := w9) (b := b17) H17.out
                      go_wp2_with (go_at_call 16; fail)
                      have hca := holds_any E2 H2 U2 y ((j : Int) + 1) nw2 w9 hE2
                      rw [HHF.out] at hca
                      have HCA := Lib.hid hca
                      clear hca
                      refine HCA.out.mono ?_
                      rintro e wa ⟨rfl, hua⟩
                      have HUA : RowKit.Hid (Upd (fun _ => False) w9 wa) := Lib.hid (Upd.of_below hua)
                      have H17a := Lib.hid ((HUA.out.block _ (lt_of_heap H17.out) (fun e => e)).trans H17.out)
                      clear hua HCA l0 l1 l2 m0 m1
                      simp only []
                      obtain ⟨hb, hhb⟩ : ∃ hb, hb = (decide (j + 1 = mm) && decide (nw2 < U2)) := ⟨_, rfl⟩
                      rw [← hhb]
                      have HHB := Lib.hid hhb
                      clear hhb
                      go_upto_if 185 with fail
                      go_cut [15] from 176 to 201 (fun h wr => h = .int .i64 (if j + 1 = mm ∧ nw2 < U2 then 1 else 0) ∧ Upd (fun _ => False) wa wr)
                      case first =>
                        cases hb with
                        | false =>
                          go_wp2
                          go_meet
                          case rel =>
                            have := HHB.out
                            refine ⟨?_, Upd.refl _ _⟩
                            rw [if_neg]
                            simpa using this
                        | true =>
                          obtain ⟨h1, h2⟩ : j + 1 = mm ∧ nw2 < U2 := by simpa using HHB.out
                          have hlk := HLK.out wa HUA.out
                          rw [show decide (j + 1 < mm) = false by simp; omega] at hlk
                          have HLK2 := Lib.hid hlk
                          clear hlk
                          obtain ⟨m0, m1⟩ := cells2_of (w := wa) (b := b17) H17a.out
                          have HHV : RowKit.Hid ((if j + 1 = mm ∧ nw2 < U2 then (1 : Int) else 0) = 1) := Lib.hid (if_pos ⟨h1, h2⟩)
                          clear h1 h2
                          go_upto_region 46 with fail
                          iterate 12 (first | refine wpList_execG (by kernel_rfl) (run_exec_lookup rfl rfl rfl HLK2.out) ?_ | go_step)
                          go_wp2
                          go_meet
                          case rel => exact ⟨by rw [HHV.out], Upd.refl _ _⟩
                      case rest =>
                        obtain ⟨rfl, hux⟩ := hcut
                        have HUX : RowKit.Hid (Upd (fun _ => False) w9 wc) := Lib.hid (HUA.out.trans hux)
                        clear hux
                        obtain ⟨hv, hhv⟩ : ∃ hv, hv = (if j + 1 = mm ∧ nw2 < U2 then (1 : Int) else 0) := ⟨_, rfl⟩
                        rw [← hhv]
                        have HHV := Lib.hid hhv
                        clear hhv
                        have hA : Upd (fun _ => False) w9 wc.drew := HUX.out.drew
                        obtain ⟨bb, hbb⟩ : ∃ bb, bb = decide (j + 1 < mm) := ⟨_, rfl⟩
                        rw [← hbb] at HLK
                        have HBB : RowKit.Hid (staleF E2 H2 U2 ((j : Int) + 1) = bb) := Lib.hid (by rw [HST.out, hbb])
                        clear hbb
                        go_upto_region 48 with fail
                        refine wp_region_G 8 (fun W => Upd (fun _ => False) w9 W) [false, false, false, false, false, false, false, false, false] rfl (by kernel_rfl) ?_
                        refine wpG_takeT (i := 0) (v := .map (some (b3 + 1))) rfl (fun L hc h => hc.waits (n := 8) (i := 3) (by kernel_rfl) (hc.waits (n := 3) (i := 0) (by kernel_rfl) h)) (by kernel_rfl) (fun _ _ _ h => h) hA (.inl ⟨rfl, fun w5 q1 => ?_⟩) ?_
                        · go_simp
                        simp only [Act.put, List.setIfInBounds_toArray, List.set]
                        refine wpG_takeT (i := 1) (v := .pointer (some ⟨b17, 1, none⟩)) rfl (fun L hc h => hc.waits (n := 8) (i := 3) (by kernel_rfl) (hc.waits (n := 3) (i := 2) (by kernel_rfl) (hc.waits (n := 2) (i := 1) (by kernel_rfl) h))) (by kernel_rfl) (fun _ _ _ h => h) hA (.inl ⟨rfl, fun w5 q1 => ?_⟩) ?_
                        · go_simp
                        simp only [Act.put, List.setIfInBounds_toArray, List.set]
                        refine wpG_takeT (i := 2) (v := .int .u64 ((j : Int) + 1)) rfl (fun L hc h => hc.waits (n := 8) (i := 3) (by kernel_rfl) (hc.waits (n := 3) (i := 2) (by kernel_rfl) h)) (by kernel_rfl) (fun _ _ _ h => h) hA (.inl ⟨rfl, fun w5 q1 => ?_⟩) ?_
                        · obtain ⟨m0, m1⟩ := cells2_of (w := w5) (b := b17) ((q1.block _ (lt_of_heap H17.out) (fun e => e)).trans H17.out)
                          go_simp
                        simp only [Act.put, List.setIfInBounds_toArray, List.set]
                        refine wpG_takeT (i := 3) (v := .bool bb) rfl (fun L hc h => hc.waits (n := 8) (i := 3) (by kernel_rfl) h) (by kernel_rfl) (fun _ _ _ h => h) hA (.inl ⟨rfl, fun w5 q1 => ?_⟩) ?_
                        · exact run_exec_lookup rfl rfl rfl (HLK.out _ q1)
                        simp only [Act.put, List.setIfInBounds_toArray, List.set]
                        refine wpG_takeT (i := 4) (v := .agg #[.int .u64 E2, .int .i64 H2, .int .i64 U2]) rfl (fun L hc h => hc.waits (n := 8) (i := 7) (by kernel_rfl) (hc.waits (n := 7) (i := 4) (by kernel_rfl) h)) (by kernel_rfl) (fun _ _ _ h => h) hA (.inl ⟨rfl, fun w5 q1 => ?_⟩) ?_
                        · exact run_load_mid' rfl rfl [.int .u64 E2, .int .i64 H2, .int .i64 U2] (rangeAt_block (cs := [.int .u64 E2, .int .i64 H2, .int .i64 U2]) ((q1.block _ (lt_of_heap HLE9.out) (fun e => e)).trans HLE9.out)) Try.underlying24 rfl Try.size24d
                        simp only [Act.put, List.setIfInBounds_toArray, List.set]
                        refine wpG_takeT (i := 5) (v := .pointer (some ⟨b17, 1, none⟩)) rfl (fun L hc h => hc.waits (n := 8) (i := 7) (by kernel_rfl) (hc.waits (n := 7) (i := 6) (by kernel_rfl) (hc.waits (n := 6) (i := 5) (by kernel_rfl) h))) (by kernel_rfl) (fun _ _ _ h => h) hA (.inl ⟨rfl, fun w5 q1 => ?_⟩) ?_
                        · go_simp
                        simp only [Act.put, List.setIfInBounds_toArray, List.set]
                        refine wpG_takeT (i := 6) (v := .int .u64 ((j : Int) + 1)) rfl (fun L hc h => hc.waits (n := 8) (i := 7) (by kernel_rfl) (hc.waits (n := 7) (i := 6) (by kernel_rfl) h)) (by kernel_rfl) (fun _ _ _ h => h) hA (.inl ⟨rfl, fun w5 q1 => ?_⟩) ?_
                        · obtain ⟨m0, m1⟩ := cells2_of (w := w5) (b := b17) ((q1.block _ (lt_of_heap H17.out) (fun e => e)).trans H17.out)
                          go_simp
                        simp only [Act.put, List.setIfInBounds_toArray, List.set]
                        refine wpG_do (i := 7) rfl (by kernel_rfl) rfl (fun K hK => ?_)
                        have HKK := Lib.hid hK
                        clear hK
                        go_step
                        have hca := stale_any E2 H2 U2 ((j : Int) + 1) wc.drew hE2
                        rw [HBB.out] at hca
                        refine hca.mono ?_
                        rintro e wS ⟨rfl, huS⟩
                        have hA2 : Upd (fun _ => False) w9 wS := hA.trans (Upd.of_below huS)
                        clear huS hca hA
                        simp only []
                        refine HKK.out _ _ hA2 ?_
                        have HU2 := Lib.hid (HU9.out.trans hA2)
                        clear HKK hA2
                        simp only [List.setIfInBounds_toArray, List.set]
                        refine wpG_tail_lit (k := 8) rfl rfl (by kernel_rfl) ?_
                        simp only [List.drop]
                        have hbq : (bb != bb) = false := by simp
                        go_wp2
                        go_roundg (mm - (j + 1))
                        case measure => omega
                        case rel => exact ⟨j + 1, hv, by omega, rfl, congrArg _ (by omega), rfl, HHV.out, HU2.out⟩
                    · obtain rfl : j = mm := by omega
                      have HAT8 := Lib.hid (HAT7.out.kept HUJ.out)
                      have hlc := HAT8.out.li
                      have hlf := hlc.left (by omega)
                      have hck := hlc.check (by omega)
                      have HLF := Lib.hid hlf; have HCK := Lib.hid hck
                      clear hlc hlf hck
                      by_cases hlt : nw2 < U2
                      · rw [if_pos ⟨rfl, hlt⟩] at hhv
                        subst hhv
                        have hlf := HLF.out
                        rw [if_pos hlt] at hlf
                        have HLF2 := Lib.hid hlf
                        have hpos : U2 - nw2 > 0 := by omega
                        clear hlf
                        obtain ⟨l0, l1, l2⟩ := cells3_of (w := wp) (b := b3) HAT8.out.lease
                        go_wp2_with (go_at_call 17; fail)
                        have hca := left_any E2 H2 U2 nw2 wp hE2
                        rw [HLF2.out] at hca
                        have HCA := Lib.hid hca
                        clear hca
                        refine HCA.out.mono ?_
                        rintro e wa ⟨rfl, hua⟩
                        have HUA : RowKit.Hid (Upd (fun _ => False) wp wa) := Lib.hid (Upd.of_below hua)
                        clear hua HCA l0 l1 l2
                        obtain ⟨l0, l1, l2⟩ := cells3_of (w := wa) (b := b3) ((HUA.out.block _ (lt_of_heap HAT8.out.lease) (fun e => e)).trans HAT8.out.lease)
                        simp only []
                        go_wp2_with (go_at_call 10; fail)
                        have hca := check_any E2 H2 U2 wa hE2
                        rw [HCK.out] at hca
                        have HCA := Lib.hid hca
                        clear hca
                        refine HCA.out.mono ?_
                        rintro e wb ⟨rfl, hub⟩
                        have HUB : RowKit.Hid (Upd (fun _ => False) wp wb) := Lib.hid (HUA.out.trans (Upd.of_below hub))
                        clear hub HCA l0 l1 l2
                        simp only []
                        go_wp2
                        go_roundg (L.length - (k + 1))
                        case measure => omega
                        case rel => exact ⟨k + 1, nw2, E2, H2, U2, ns2, by omega, by omega, rfl, rfl, congrArg _ (by omega), HAT8.out.kept HUB.out⟩
                      · rw [if_neg (fun e => hlt e.2)] at hhv
                        subst hhv
                        have hlf := HLF.out
                        rw [if_neg hlt] at hlf
                        have HLF2 := Lib.hid hlf
                        clear hlf
                        obtain ⟨l0, l1, l2⟩ := cells3_of (w := wp) (b := b3) HAT8.out.lease
                        go_wp2_with (go_at_call 17; fail)
                        have hca := left_any E2 H2 U2 nw2 wp hE2
                        rw [HLF2.out] at hca
                        have HCA := Lib.hid hca
                        clear hca
                        refine HCA.out.mono ?_
                        rintro e wa ⟨rfl, hua⟩
                        have HUA : RowKit.Hid (Upd (fun _ => False) wp wa) := Lib.hid (Upd.of_below hua)
                        clear hua HCA l0 l1 l2
                        obtain ⟨l0, l1, l2⟩ := cells3_of (w := wa) (b := b3) ((HUA.out.block _ (lt_of_heap HAT8.out.lease) (fun e => e)).trans HAT8.out.lease)
                        simp only []
                        go_wp2_with (go_at_call 10; fail)
                        have hca := check_any E2 H2 U2 wa hE2
                        rw [HCK.out] at hca
                        have HCA := Lib.hid hca
                        clear hca
                        refine HCA.out.mono ?_
                        rintro e wb ⟨rfl, hub⟩
                        have HUB : RowKit.Hid (Upd (fun _ => False) wp wb) := Lib.hid (HUA.out.trans (Upd.of_below hub))
                        clear hub HCA l0 l1 l2
                        simp only []
                        go_wp2
                        go_roundg (L.length - (k + 1))
                        case measure => omega
                        case rel => exact ⟨k + 1, nw2, E2, H2, U2, ns2, by omega, by omega, rfl, rfl, congrArg _ (by omega), HAT8.out.kept HUB.out⟩
    · obtain rfl : k = L.length := by omega
      have HFI := Lib.hid HAT.out.upd
      go_wp2
      go_ret
      exact ⟨rfl, HFI.out⟩


end Go.Proofs.Ytgeieeohaeeccaa
