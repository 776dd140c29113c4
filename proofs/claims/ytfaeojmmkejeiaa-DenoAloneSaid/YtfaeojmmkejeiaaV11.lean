/- The law DenoAlone, walked. -/
import Derived.Test.YtfaeojmmkejeiaaV10
set_option linter.unusedVariables false
set_option linter.unusedSimpArgs false

namespace Go.Proofs.Ytfaeojmmkejeiaa
set_option maxRecDepth 100000
open Go.RowKit Go.Shelf

attribute [local go_sem] Oper.semAt_some
theorem over_more {os : List OpM} {xs : List InM} (h : overB os xs = false) : (∀ o ∈ os, o.ins.length ≤ 50) ∧ (∀ x ∈ xs, x.recs.length ≤ 200) := by
  unfold overB at h
  simp only [Bool.or_eq_false_iff] at h
  refine ⟨fun o ho => ?_, fun x hx => ?_⟩
  · have := h.1.2
    rw [List.any_eq_false] at this
    have := this o ho
    simp [wideIns] at this
    omega
  · have := h.2
    rw [List.any_eq_false] at this
    have := this x hx
    simp [wideRecs] at this
    omega
set_option maxHeartbeats 8000000 in
theorem alone_walk {oa xa la : Option Addr} {os : List OpM} {xs : List InM} {wl : List Int} {oc xc lc : Nat} {n : Int} {key : RecV} (w : World) (h : OpsIn w oa os) (hx : InsIn w xa xs) (ho : os.length ≤ 140737488351232) (hxl : xs.length ≤ 140737488351232) (hoc : os.length ≤ oc) (hom : oc ≤ maxLen) (hl : IntsIn w la wl) (hll : wl.length ≤ 140737488351232) (hoa : ∀ o ∈ os, o.a ≤ 9223372036854775807) :
    Calls Try.prog 3 #[wkV oa os oc xa xs xc, .agg #[.int .i64 n, .int .i64 key.src, .int .i64 key.key, .int .i64 key.val], .slice la wl.length lc] w fun e w' => e = .returned (.bool true) ∧ Upd0 w w' := by
  obtain ⟨w1, hw1⟩ : ∃ w1, w1 = (w.alloc (.cells #[.slice oa os.length oc, .slice xa xs.length xc] 27)).alloc (.cells #[.int .i64 n, .int .i64 key.src, .int .i64 key.key, .int .i64 key.val] 31) := ⟨_, rfl⟩
  have hu1 : Upd0 w w1 := by rw [hw1]; exact ((Upd.refl _ w).alloc _).alloc _
  have HX := Lib.hid (show w1.heap[w.heap.size]? = some (.cells #[.slice oa os.length oc, .slice xa xs.length xc] 27 (0, 0)) by rw [hw1]; exact (alloc_lt (by simp)).trans (alloc_at rfl))
  have HK := Lib.hid (show w1.heap[w.heap.size + 1]? = some (.cells #[.int .i64 n, .int .i64 key.src, .int .i64 key.key, .int .i64 key.val] 31 (0, 0)) by rw [hw1]; exact alloc_at (by simp))
  have HW := Lib.hid (wakes_any w1)
  have HG1 := Lib.hid hu1
  have H := Lib.hid (h.kept hu1); have HI := Lib.hid (hx.kept hu1); have HA := Lib.hid (hl.kept hu1); have HOA := Lib.hid hoa
  clear h hx hl hoa hu1
  go_enter Try.func3, Try.ntmps3
  go_wp2_with (go_at_call 5; fail)
  rw [← hw1]
  clear hw1
  refine HW.out.mono ?_
  rintro _ w2 ⟨rfl, hu2⟩
  have HX2 := Lib.hid ((hu2.block _ (lt_of_heap HX.out) (fun e => e)).trans HX.out)
  have HK2 := Lib.hid ((hu2.block _ (lt_of_heap HK.out) (fun e => e)).trans HK.out)
  have HOV := Lib.hid (over_any (oc := oc) (xc := xc) w2 (H.out.kept hu2) (HI.out.kept hu2) ho hxl)
  have HU2 := Lib.hid hu2
  have HF2 := Lib.hid (HG1.out.trans hu2)
  clear hu2 HW HX HK
  obtain ⟨c0, c1⟩ := cells2_of HX2.out
  obtain ⟨ov, hov⟩ : ∃ ov, ov = overB os xs := ⟨_, rfl⟩
  rw [← hov] at HOV
  have HOVE := Lib.hid hov
  clear hov
  simp only []
  go_wp2_with (go_at_call 6; fail)
  refine HOV.out.mono ?_
  rintro _ w3 ⟨rfl, hu3⟩
  have HX3 := Lib.hid ((hu3.block _ (lt_of_heap HX2.out) (fun e => e)).trans HX2.out)
  have HK3 := Lib.hid ((hu3.block _ (lt_of_heap HK2.out) (fun e => e)).trans HK2.out)
  have HU3 := Lib.hid (HU2.out.trans hu3)
  have HF3 := Lib.hid (HF2.out.trans hu3)
  clear hu3 HOV HX2 HK2 c0 c1
  simp only []
  cases ov with
  | true =>
    go_wp2
    go_ret
    exact ⟨rfl, HF3.out⟩
  | false =>
    obtain ⟨hob, hxb⟩ := over_bounds HOVE.out.symm
    obtain ⟨hib, hrb⟩ := over_more HOVE.out.symm
    have HIB := Lib.hid hib; have HRB := Lib.hid hrb
    clear hib hrb
    have HWK := Lib.hid (show WkIn w3 oa os oc xa xs from ⟨H.out.kept HU3.out, hob, hoc, hom, HI.out.kept HU3.out, hxb⟩)
    have HA3 := Lib.hid (HA.out.kept HU3.out)
    have HWH := Lib.hid (whole_any (xc := xc) w3 HWK.out)
    obtain ⟨cw, hcw⟩ : ∃ cw, cw = chkW os xs := ⟨_, rfl⟩
    rw [← hcw] at HWH
    have HCW := Lib.hid hcw
    clear hcw
    obtain ⟨c0, c1⟩ := cells2_of HX3.out
    go_wp2_with (go_at_call 7; fail)
    refine HWH.out.mono ?_
    rintro _ w4 ⟨v4, rfl, hv4, hu4⟩
    have HF4 := Lib.hid (HF3.out.trans hu4)
    have HX4 := Lib.hid ((hu4.block _ (lt_of_heap HX3.out) (fun e => e)).trans HX3.out)
    have HK4 := Lib.hid ((hu4.block _ (lt_of_heap HK3.out) (fun e => e)).trans HK3.out)
    have HWK4 := Lib.hid (HWK.out.kept hu4); have HA4 := Lib.hid (HA3.out.kept hu4)
    have hat : ∃ (aa : Option Addr) (ats : List (List Int)) (ac : Nat), v4 = .slice aa ats.length ac ∧ AtIn w4 aa ats ∧ ats.length ≤ 50 ∧ (cw = 0 → ats = wholeAt xs) := by
      rcases hv4 with ⟨hz, rfl⟩ | ⟨_, g, _, rfl, hb⟩
      · exact ⟨none, [], 0, rfl, Row.nil _ _ _, by simp, fun e => absurd e hz⟩
      · exact ⟨some ⟨g, 0, none⟩, wholeAt xs, xs.length, by simp [wholeAt], hb.in', by simp [wholeAt]; omega, fun _ => rfl⟩
    obtain ⟨aa, ats, ac, rfl, hat, hal, hae⟩ := hat
    have HAT := Lib.hid hat; have HAE := Lib.hid hae
    have HV := Lib.hid (values_any (xc := xc) (ac := ac) n key w4 HWK4.out hat hal HOA.out)
    obtain ⟨l, hl⟩ : ∃ l, l = valuesR os xs ats n key := ⟨_, rfl⟩
    rw [← hl] at HV
    have HL := Lib.hid hl
    obtain ⟨l, e⟩ := l
    clear hl hae hat c0 c1 hv4 hu4 HWH HX3 HK3
    obtain ⟨c0, c1⟩ := cells2_of HX4.out
    obtain ⟨k0, k1, k2, k3⟩ := cells4_of HK4.out
    simp only []
    go_wp2_with (go_at_call 8; fail)
    refine HV.out.mono ?_
    rintro _ w5 ⟨a5, c5, rfl, ho5, hu5⟩
    have HF5 := Lib.hid (HF4.out.trans hu5)
    have HX5 := Lib.hid ((hu5.block _ (lt_of_heap HX4.out) (fun e => e)).trans HX4.out)
    have HK5 := Lib.hid ((hu5.block _ (lt_of_heap HK4.out) (fun e => e)).trans HK4.out)
    have HO5 := Lib.hid ho5; have HWK5 := Lib.hid (HWK4.out.kept hu5); have HA5 := Lib.hid (HA4.out.kept hu5)
    have HC := Lib.hid (cell_any (xc := xc) (ac := ac) n key w5 HWK5.out (HAT.out.kept hu5) hal HOA.out)
    obtain ⟨cl, hcl⟩ : ∃ cl, cl = cellR os xs ats n key := ⟨_, rfl⟩
    rw [← hcl] at HC
    have HCL := Lib.hid hcl
    have hef : e = cl.2 := by rw [hcl, ← alone_err, ← HL.out]
    obtain ⟨cc, cf⟩ := cl
    simp only at hef
    subst hef
    clear hcl c0 c1 k0 k1 k2 k3 ho5 hu5 HV HX4 HK4
    obtain ⟨c0, c1⟩ := cells2_of HX5.out
    obtain ⟨k0, k1, k2, k3⟩ := cells4_of HK5.out
    simp only []
    go_wp2_with (go_at_call 9; fail)
    refine HC.out.mono ?_
    rintro _ w6 ⟨rfl, hu6⟩
    have HF6 := Lib.hid (HF5.out.trans hu6)
    have HX6 := Lib.hid ((hu6.block _ (lt_of_heap HX5.out) (fun e => e)).trans HX5.out)
    have HK6 := Lib.hid ((hu6.block _ (lt_of_heap HK5.out) (fun e => e)).trans HK5.out)
    have HO6 := Lib.hid (ownsRow_any HO5.out hu6 (fun _ _ e => e)); have HWK6 := Lib.hid (HWK5.out.kept hu6); have HA6 := Lib.hid (HA5.out.kept hu6)
    clear c0 c1 k0 k1 k2 k3 hu6 HC HX5 HK5 HO5
    simp only []
    by_cases hcw : cw = 0
    · subst hcw
      obtain rfl := HAE.out rfl
      by_cases he : e = 0
      · subst he
        go_upto_region 10 with fail
        obtain ⟨wA, hwA⟩ : ∃ wA, wA = w6.alloc (.cells #[.int .i64 cc.count, .int .i64 cc.sum] 44) := ⟨_, rfl⟩
        obtain ⟨b11, hb11⟩ : ∃ b11, b11 = w6.heap.size := ⟨_, rfl⟩
        rw [← hwA, ← hb11]
        have huA : Upd0 w6 wA := by rw [hwA]; exact (Upd.refl _ w6).alloc _
        have HFA := Lib.hid (HF6.out.trans huA)
        have HXA := Lib.hid ((huA.block _ (lt_of_heap HX6.out) (fun e => e)).trans HX6.out)
        have HKA := Lib.hid ((huA.block _ (lt_of_heap HK6.out) (fun e => e)).trans HK6.out)
        have HCA := Lib.hid (show wA.heap[b11]? = some (.cells #[.int .i64 cc.count, .int .i64 cc.sum] 44 (0, 0)) by rw [hwA]; exact alloc_at hb11)
        have HOA6 := Lib.hid (ownsRow_any HO6.out huA (fun _ _ e => e)); have HWKA := Lib.hid (HWK6.out.kept huA); have HAA := Lib.hid (HA6.out.kept huA)
        have HCP := Lib.hid (copied_any (oc := oc) (xc := xc) wA HWKA.out.ops HWKA.out.ins hob HIB.out hxb HRB.out)
        clear hwA hb11 huA HX6 HK6 HO6 HWK6 HA6 HAE
        obtain ⟨c0, c1⟩ := cells2_of HXA.out
        go_wp2_with (go_at_call 10; fail)
        refine HCP.out.mono ?_
        rintro _ wB ⟨ga, gc, os', xa', xc', xs', rfl, hown, hlo, hlx, huB⟩
        have hol : os'.length = os.length := by have := congrArg List.length hlo; simpa using this
        have hxl' : xs'.length = xs.length := by have := congrArg List.length hlx; simpa using this
        have HOL := Lib.hid (And.intro hol hxl'); have HLO := Lib.hid hlo; have HLX := Lib.hid hlx
        obtain ⟨w7, hw7⟩ : ∃ w7, w7 = wB.alloc (.cells #[.slice ga os'.length gc, .slice xa' xs'.length xc'] 27) := ⟨_, rfl⟩
        obtain ⟨bx, hbx⟩ : ∃ bx, bx = wB.heap.size := ⟨_, rfl⟩
        have hu7 : Upd0 wB w7 := by rw [hw7]; exact (Upd.refl _ wB).alloc _
        have HB7 := Lib.hid (show w7.heap[bx]? = some (.cells #[.slice ga os'.length gc, .slice xa' xs'.length xc'] 27 (0, 0)) by rw [hw7]; exact alloc_at hbx)
        have HW7 := Lib.hid (hown.kept hu7)
        have HU7 := Lib.hid (huB.trans hu7)
        have hob' : os'.length ≤ 50 := by omega
        have hxb' : xs'.length ≤ 20 := by omega
        clear hol hxl' hlo hlx hown huB hu7 c0 c1 HCP
        simp only []
        go_upto_region 12 with fail
        rw [← hw7, ← hbx]
        clear hw7 hbx
        have HWD := Lib.hid (show WdAt wA wA.heap.size bx os'.length xs'.length 0 ga xa' gc xc' os' os' xs' w7 from ⟨HW7.out, HB7.out, rfl, rfl, fun j o hj => by omega, HU7.out, Nat.le_refl _⟩)
        obtain ⟨on, hon⟩ : ∃ on, on = os'.length := ⟨_, rfl⟩
        obtain ⟨xn, hxn⟩ : ∃ xn, xn = xs'.length := ⟨_, rfl⟩
        rw [← hon, ← hxn] at HWD
        rw [← hon] at hob' ⊢
        rw [← hxn] at hxb'
        have HON := Lib.hid (And.intro hon hxn)
        clear hon hxn HB7 HW7 HU7
        go_loopw [75] (fun i wr => ∃ (k : Nat) (os2 : List OpM), k ≤ on ∧ i = .int .i64 k ∧ Hid (WdAt wA wA.heap.size bx on xn k ga xa' gc xc' os' os2 xs' wr)) (fun i _ => on - (intOf i).toNat)
        case atStart => exact ⟨0, os', Nat.zero_le _, rfl, HWD⟩
        case round =>
          obtain ⟨k, os2, hk, rfl, HD⟩ := hrel
          by_cases hlt : k < on
          · have hko : k < os2.length := by rw [HD.out.len]; exact hlt
            obtain ⟨o, hoe⟩ : ∃ o, os2[k]? = some o := ⟨_, List.getElem?_eq_getElem hko⟩
            obtain ⟨g, hga, hcc, hff⟩ := own_cell5 HD.out.own.ops hoe
            subst hga
            obtain ⟨x0, x1⟩ := cells2_of HD.out.box
            obtain ⟨HD2a, hoe2⟩ := HD.out.set (v := 1) hoe
            have HD2 := Lib.hid HD2a; have HOE2 := Lib.hid hoe2
            have hltI : (k : Int) < on := by omega
            clear HD2a hoe2 hko
            obtain ⟨W1, hW1⟩ : ∃ W1, W1 = wr.setCell ⟨g, k * 5 + 1, none⟩ (.int .i64 1) := ⟨_, rfl⟩
            rw [← hW1] at HD2
            by_cases hwl : k < wl.length
            · have hwl' : (k : Int) < wl.length := by omega
              go_upto_region 16 with fail
              rw [← hW1]
              clear hW1 x0 x1 hcc hff
              obtain ⟨z, hz⟩ : ∃ z, wl[k]? = some z := ⟨_, List.getElem?_eq_getElem hwl⟩
              obtain ⟨lb, lf, hla, hlc⟩ := (HAA.out.kept HD2.out.upd).cell hz
              have HLC := Lib.hid hlc
              subst hla
              clear hz hlc
              obtain ⟨r, hr⟩ : ∃ r, (max z 0).tmod 2 = r := ⟨_, rfl⟩
              have hr2 : 0 ≤ r ∧ r ≤ 1 := by rw [← hr, Int.tmod_eq_emod_of_nonneg (by omega)]; omega
              have hA : W1.drew = W1.drew := rfl
              refine wp_region_G 13 (fun W => W = W1.drew) [false, false, false, false, false, false, false, false, false, false, false, false, false, false] rfl (by kernel_rfl) ?_
              refine wpG_takeT (i := 0) (v := .pointer (some ⟨bx, 0, none⟩)) rfl (fun L hc h => (hc.waits (n := 13) (i := 0) (by kernel_rfl) h)) (by kernel_rfl) (fun _ _ _ h => h) hA (.inl ⟨rfl, fun w5 q1 => ?_⟩) ?_
              · go_simp
              simp only [Act.put, List.setIfInBounds_toArray, List.set]
              refine wpG_takeT (i := 1) (v := .pointer (some ⟨bx, 0, none⟩)) rfl (fun L hc h => (hc.waits (n := 13) (i := 1) (by kernel_rfl) h)) (by kernel_rfl) (fun _ _ _ h => h) hA (.inl ⟨rfl, fun w5 q1 => ?_⟩) ?_
              · go_simp
              simp only [Act.put, List.setIfInBounds_toArray, List.set]
              refine wpG_takeT (i := 2) (v := .slice (some ⟨g, 0, none⟩) on gc) rfl (fun L hc h => (hc.waits (n := 13) (i := 2) (by kernel_rfl) h)) (by kernel_rfl) (fun _ _ _ h => h) hA (.inl ⟨rfl, fun w5 q1 => ?_⟩) ?_
              · subst q1
                obtain ⟨c0, c1⟩ := cells2_of (w := W1.drew) HD2.out.box
                go_simp
              simp only [Act.put, List.setIfInBounds_toArray, List.set]
              refine wpG_takeT (i := 3) (v := .int .i64 k) rfl (fun L hc h => (hc.waits (n := 13) (i := 3) (by kernel_rfl) h)) (by kernel_rfl) (fun _ _ _ h => h) hA (.inl ⟨rfl, fun w5 q1 => ?_⟩) ?_
              · go_simp
              simp only [Act.put, List.setIfInBounds_toArray, List.set]
              refine wpG_takeT (i := 4) (v := .slice (some ⟨lb, lf, none⟩) wl.length lc) rfl (fun L hc h => (hc.waits (n := 13) (i := 4) (by kernel_rfl) h)) (by kernel_rfl) (fun _ _ _ h => h) hA (.inl ⟨rfl, fun w5 q1 => ?_⟩) ?_
              · go_simp
              simp only [Act.put, List.setIfInBounds_toArray, List.set]
              refine wpG_takeT (i := 5) (v := .int .i64 k) rfl (fun L hc h => (hc.waits (n := 13) (i := 5) (by kernel_rfl) h)) (by kernel_rfl) (fun _ _ _ h => h) hA (.inl ⟨rfl, fun w5 q1 => ?_⟩) ?_
              · go_simp
              simp only [Act.put, List.setIfInBounds_toArray, List.set]
              refine wpG_takeT (i := 6) (v := .pointer (some ⟨lb, lf + k, none⟩)) rfl (fun L hc h => (hc.waits (n := 13) (i := 6) (by kernel_rfl) h)) (by kernel_rfl) (fun _ _ _ h => h) hA (.inl ⟨rfl, fun w5 q1 => ?_⟩) ?_
              · go_simp
              simp only [Act.put, List.setIfInBounds_toArray, List.set]
              refine wpG_takeT (i := 7) (v := .int .i64 z) rfl (fun L hc h => (hc.waits (n := 13) (i := 7) (by kernel_rfl) h)) (by kernel_rfl) (fun _ _ _ h => h) hA (.inl ⟨rfl, fun w5 q1 => ?_⟩) ?_
              · subst q1
                have c5 : W1.drew.cell? ⟨lb, lf + k, none⟩ = some (.int .i64 z) := HLC.out
                go_simp
              simp only [Act.put, List.setIfInBounds_toArray, List.set]
              refine wpG_takeT (i := 8) (v := .int .i64 (max z 0)) rfl (fun L hc h => (hc.waits (n := 13) (i := 8) (by kernel_rfl) h)) (by kernel_rfl) (fun _ _ _ h => h) hA (.inl ⟨rfl, fun w5 q1 => ?_⟩) ?_
              · go_simp
              simp only [Act.put, List.setIfInBounds_toArray, List.set]
              refine wpG_takeT (i := 9) (v := .int .i64 r) rfl (fun L hc h => (hc.waits (n := 13) (i := 9) (by kernel_rfl) h)) (by kernel_rfl) (fun _ _ _ h => h) hA (.inl ⟨rfl, fun w5 q1 => ?_⟩) ?_
              · go_simp
              simp only [Act.put, List.setIfInBounds_toArray, List.set]
              refine wpG_takeT (i := 10) (v := .int .i64 (r + 1)) rfl (fun L hc h => (hc.waits (n := 13) (i := 10) (by kernel_rfl) h)) (by kernel_rfl) (fun _ _ _ h => h) hA (.inl ⟨rfl, fun w5 q1 => ?_⟩) ?_
              · have hww : IntKind.i64.wrap (r + 1) = r + 1 := by rw [IntKind.wrap_i64]; omega
                go_simp
              simp only [Act.put, List.setIfInBounds_toArray, List.set]
              refine wpG_takeT (i := 11) (v := .pointer (some ⟨g, k * 5, none⟩)) rfl (fun L hc h => (hc.waits (n := 13) (i := 12) (by kernel_rfl) (hc.waits (n := 12) (i := 11) (by kernel_rfl) h))) (by kernel_rfl) (fun _ _ _ h => h) hA (.inl ⟨rfl, fun w5 q1 => ?_⟩) ?_
              · go_simp
              simp only [Act.put, List.setIfInBounds_toArray, List.set]
              refine wpG_takeT (i := 12) (v := .pointer (some ⟨g, k * 5 + 1, none⟩)) rfl (fun L hc h => (hc.waits (n := 13) (i := 12) (by kernel_rfl) h)) (by kernel_rfl) (fun _ _ _ h => h) hA (.inl ⟨rfl, fun w5 q1 => ?_⟩) ?_
              · go_simp
              simp only [Act.put, List.setIfInBounds_toArray, List.set]
              refine wpG_tail_lit (k := 13) rfl rfl (by kernel_rfl) ?_
              simp only [List.drop]
              obtain ⟨g2, hg2, hcc, hff⟩ := own_cell5 HD2.out.own.ops HOE2.out
              injection hg2 with hg2
              injection hg2 with hg2
              subst hg2
              have hcd : W1.drew.cell? ⟨g, k * 5 + 1, none⟩ = _ := hcc
              have hfd : W1.drew.frozen? ⟨g, k * 5 + 1, none⟩ = false := hff
              obtain ⟨HD3, hoe3⟩ := HD2.out.set (v := r + 1) HOE2.out
              have HD4 := Lib.hid ((HD3.next hoe3 (by simp only; omega)).kept (Upd.refl _ _).drew)
              clear HD3 hoe3 hcc hff
              go_wp2
              exact ⟨⟨k + 1, _, by omega, by go_num, HD4⟩, by simp [intOf]; omega⟩
            · have hwl' : ¬ (k : Int) < wl.length := by omega
              go_wp2
              rw [← hW1]
              go_roundw
              case rel => exact ⟨k + 1, _, by omega, by go_num, Lib.hid (HD2.out.next HOE2.out (by simp))⟩
              case measure => simp [intOf]; omega
          · have hkn : on = k := by omega
            subst hkn
            have HFT := Lib.hid (show FtAt wA wA.heap.size bx on xn 0 ga xa' gc xc' key os2 xs' xs' wr from ⟨HD.out.own, HD.out.box, by simp, HON.out.2.symm, HD.out.upd, Nat.le_refl _⟩)
            have HLK := Lib.hid HD.out.like
            have HWI := Lib.hid (show ∀ o ∈ os2, 1 ≤ o.width ∧ o.width ≤ 2 from fun o ho => by
              obtain ⟨j, hj⟩ := List.getElem?_of_mem ho
              exact HD.out.wid j o (by have := (List.getElem?_eq_some_iff.1 hj).1; rw [HD.out.len] at this; exact this) hj)
            have HLN := Lib.hid HD.out.len
            obtain ⟨x0, x1⟩ := cells2_of HD.out.box
            clear HWD
            go_upto_region 19 with fail
            clear x0 x1 HD
            obtain ⟨v1, hv1⟩ : ∃ v1, v1 = wr := ⟨_, rfl⟩
            subst hv1
            go_loopw [105] (fun i wr => ∃ (k : Nat) (xs2 : List InM), k ≤ xn ∧ i = .int .i64 k ∧ Hid (FtAt wA wA.heap.size bx on xn k ga xa' gc xc' key os2 xs' xs2 wr)) (fun i _ => xn - (intOf i).toNat)
            case atStart => exact ⟨0, xs', Nat.zero_le _, rfl, HFT⟩
            case round =>
              obtain ⟨k, xs2, hk, rfl, HD⟩ := hrel
              by_cases hlt : k < xn
              · obtain ⟨x, hxe⟩ : ∃ x, xs'[k]? = some x := ⟨_, List.getElem?_eq_getElem (by rw [← HON.out.2]; exact hlt)⟩
                obtain ⟨x2, hx2e⟩ : ∃ x2, xs2[k]? = some x2 := ⟨_, List.getElem?_eq_getElem (by rw [HD.out.len]; exact hlt)⟩
                obtain ⟨x2s, x2a, x2c, x2r⟩ := x2
                obtain ⟨hxs, hxr⟩ := HD.out.at hxe hx2e
                obtain ⟨g, hga, hc0, hc1, hff⟩ := own_cell2 HD.out.own.row hx2e
                subst hga
                simp only at hxs hxr hc0 hc1
                have hxi := lt_of_cell hc0
                have hltI : (k : Int) < xn := by omega
                obtain ⟨w8, hw8⟩ : ∃ w8, w8 = wr.alloc (.cells #[.int .i64 x2s, .slice x2a x2r.length x2c] 52) := ⟨_, rfl⟩
                have hu8 : Upd0 wr w8 := by rw [hw8]; exact (Upd.refl _ wr).alloc _
                have HR8 := Lib.hid (OwnR.in' (ownsRow_any (HD.out.own.recs _ (List.mem_of_getElem? hx2e)) hu8 (fun _ _ e => e)) rfl)
                have HX8 := Lib.hid (show w8.heap[wr.heap.size]? = some (.cells #[.int .i64 x2s, .slice x2a x2r.length x2c] 52 (0, 0)) by rw [hw8]; exact alloc_at rfl)
                have HK8 := Lib.hid (((HD.out.upd.trans hu8).block _ (lt_of_heap HKA.out) (fun e => e)).trans HKA.out)
                have HXE := Lib.hid (And.intro hxe hx2e); have HXR := Lib.hid hxr; have HU8 := Lib.hid hu8
                have HRL := Lib.hid (show x2r.length ≤ 200 by
                  have h1 : (xs'.map InM.core)[k]? = some x.core := by rw [List.getElem?_map, hxe]; rfl
                  rw [HLX.out, List.getElem?_map, Option.map_eq_some_iff] at h1
                  obtain ⟨x0, h2, h3⟩ := h1
                  simp only [InM.core, Prod.mk.injEq] at h3
                  rw [hxr, ← h3.2]
                  exact HRB.out x0 (List.mem_of_getElem? h2))
                clear hxe hx2e hxs hxr hu8
                obtain ⟨d0, d1⟩ := cells2_of HX8.out
                go_upto_region 23 with fail
                rw [← hw8]
                clear hw8 d0 d1 hc0 hc1 hff
                go_loopw [17, 113] (fun t i wq => ∃ (j : Nat) (e : List RecV) (pa : Option Addr) (pc : Nat), j ≤ x2r.length ∧ i = .int .i64 j ∧ t = .slice pa e.length pc ∧ e.length ≤ j ∧ Hid (OwnR wq w8.heap.size (.slice pa e.length pc) e) ∧ Hid (Upd0 w8 wq) ∧ Hid (e ++ filtK key (x2r.drop j) = filtK key x2r)) (fun _ i _ => x2r.length - (intOf i).toNat)
                case atStart => exact ⟨0, [], none, 0, Nat.zero_le _, rfl, rfl, by simp, Lib.hid (World.ownsRow_nil _ _ _ _), Lib.hid (Upd.refl _ _), Lib.hid rfl⟩
                case round =>
                  obtain ⟨j, e, pa, pc, hj, rfl, rfl, hej, HE, HQ, HV⟩ := hrel
                  by_cases hlt2 : j < x2r.length
                  · obtain ⟨r, hrr⟩ : ∃ r, x2r[j]? = some r := ⟨_, List.getElem?_eq_getElem hlt2⟩
                    obtain ⟨b2, f2, hra, d0, d1, d2⟩ := (HR8.out.kept HQ.out).at hrr
                    have HV2 : Hid (e ++ filtK key (r :: x2r.drop (j + 1)) = filtK key x2r) := by
                      have := HV.out
                      rw [drop_cons' hrr] at this
                      exact Lib.hid this
                    have hbl2 := lt_of_cell d0
                    obtain ⟨k0, k1, k2, k3⟩ := cells4_of ((HQ.out.block _ (lt_of_heap HK8.out) (fun e => e)).trans HK8.out)
                    have hkl := lt_of_cell k0
                    obtain ⟨w9, hw9⟩ : ∃ w9, w9 = wr.alloc (.cells #[.int .i64 r.src, .int .i64 r.key, .int .i64 r.val] 29) := ⟨_, rfl⟩
                    have hu9 : Upd0 wr w9 := by rw [hw9]; exact (Upd.refl _ wr).alloc _
                    have hsz9 : w9.heap.size = wr.heap.size + 1 := by rw [hw9]; simp
                    have HE9 := Lib.hid (ownsRow_any HE.out hu9 (fun _ _ e => e)); have HQ9 := Lib.hid (HQ.out.trans hu9)
                    have hjl := HRL.out
                    subst hra
                    have HRR := Lib.hid hrr
                    clear hrr hu9
                    cases hs1 : r.src == key.src
                    · have hsk : sameK r key = false := by simp [sameK, hs1]
                      have HSK := Lib.hid hsk
                      clear hsk
                      go_wp2
                      rw [← hw9]
                      go_roundw
                      case rel => exact ⟨j + 1, e, pa, pc, by omega, by go_num, rfl, by omega, HE9, HQ9, Lib.hid (by rw [← HV2.out, filtK, filtK, List.filter_cons, HSK.out]; rfl)⟩
                      case measure => simp [intOf]; omega
                    · cases hs2 : r.key == key.key
                      · have hsk : sameK r key = false := by simp [sameK, hs2]
                        have HSK := Lib.hid hsk
                        clear hsk
                        go_wp2
                        rw [← hw9]
                        go_roundw
                        case rel => exact ⟨j + 1, e, pa, pc, by omega, by go_num, rfl, by omega, HE9, HQ9, Lib.hid (by rw [← HV2.out, filtK, filtK, List.filter_cons, HSK.out]; rfl)⟩
                        case measure => simp [intOf]; omega
                      · have hsk : sameK r key = true := by simp [sameK, hs1, hs2]
                        have HSK := Lib.hid hsk
                        clear hsk
                        obtain ⟨en, hen⟩ : ∃ en, en = e.length := ⟨_, rfl⟩
                        have HOW := Lib.hid (show w9.ownsRow w8.heap.size 29 3 (.slice pa en pc) en (flat3 e) by rw [hen]; exact HE9.out)
                        rw [← hen] at hej ⊢
                        have HEN := Lib.hid hen
                        clear hen
                        go_wp2_with (at_builtin; obtain ⟨i0, hi, hz0, hs, hb⟩ := info_parts Try.info29p; rw [← hw9]; refine wpList_app1 w9 rfl (.tmp 131) (.tmp 133) 50 rfl w8.heap.size 29 i0 (.agg #[.int .i64 0, .int .i64 0, .int .i64 0]) 3 24 Try.underlying50 hi hz0 hs hb rfl (by decide) (.slice pa en pc) en (flat3 e) rfl HOW.out [.int .i64 r.src, .int .i64 r.key, .int .i64 r.val] 29 (by rw [hsz9]; rfl) rfl (by simp [Value.oneCell']) (by unfold maxLen; omega) (by omega) HQ9.out.size ?_; clear hi hz0 hs hb; intro g9 cap9 wa hown hua _ _)
                        have hown2 : OwnR wa w8.heap.size (.slice (some ⟨g9, 0, none⟩) (e ++ [r]).length cap9) (e ++ [r]) := by
                          show World.ownsRow _ _ _ _ _ _ _
                          rw [List.length_append, ← HEN.out, flat3_snoc]
                          exact hown
                        have HEA := Lib.hid hown2
                        have HQA := Lib.hid (HQ9.out.cut hua (fun q hq => (World.ownsRow.lt HOW.out q hq).1))
                        clear hown hown2 hua
                        go_wp2
                        go_roundw
                        case rel => exact ⟨j + 1, e ++ [r], some ⟨g9, 0, none⟩, cap9, by omega, by go_num, by rw [List.length_append, ← HEN.out]; rfl, by rw [List.length_append, ← HEN.out]; simp; omega, HEA, HQA, Lib.hid (by rw [← HV2.out, filtK, filtK, List.filter_cons, HSK.out]; simp)⟩
                        case measure => simp [intOf]; omega
                  · have hkn : x2r.length = j := by omega
                    subst hkn
                    rw [List.drop_of_length_le (Nat.le_refl _)] at HV
                    have hve : e = filtK key x.recs := by rw [← HXR.out, ← HV.out]; simp [filtK]
                    have HFD := Lib.hid (HD.out.kept (HU8.out.trans HQ.out))
                    obtain ⟨x0, x1⟩ := cells2_of HFD.out.box
                    obtain ⟨g3, hg3, hc0, hc1, hff⟩ := own_cell2 HFD.out.own.row HXE.out.2
                    injection hg3 with hg3
                    injection hg3 with hg3
                    subst hg3
                    subst hve
                    have HPT := Lib.hid (HFD.out.put HXE.out.1 HXE.out.2 (ownsRow_low HE.out (by have := HD.out.upd.size; have := HU8.out.size; omega)))
                    go_wp2
                    go_roundw
                    case rel => exact ⟨k + 1, _, by omega, by go_num, HPT⟩
                    case measure => simp [intOf]; omega
              · have hkn : xn = k := by omega
                subst hkn
                have hxl2 : xs2.map InM.core = xs.map (coreK key) := by
                  have h1 := HD.out.like
                  rw [HON.out.2, List.take_length, List.drop_of_length_le (Nat.le_refl _), List.map_nil, List.append_nil] at h1
                  rw [h1]
                  have e : ∀ l : List InM, l.map (coreK key) = (l.map InM.core).map fun p => (p.1, filtK key p.2) := fun l => by rw [List.map_map]; rfl
                  rw [e, HLX.out, ← e]
                have hol2 : os2.map strip = os.map strip := by
                  rw [HLK.out]
                  have e : ∀ l : List OpM, l.map strip = (l.map OpM.core).map fun p => ⟨p.1, 0, none, 0, p.2.2.1, p.2.2.2.1, p.2.2.2.2⟩ := fun l => by rw [List.map_map]; rfl
                  rw [e, HLO.out, ← e]
                have hLAW := alone_law (n := n) hol2 HWI.out hxl2 HCW.out.symm (by rw [← HL.out])
                obtain ⟨hq1, hq2, hq3, hq4⟩ := hLAW
                rw [← HL.out] at hq2 hq4
                rw [← HCL.out] at hq3
                have hWK2 : WkIn wr ga os2 gc xa' xs2 := HD.out.own.wk (by rw [HLN.out]; exact hob') (by rw [HD.out.len]; exact hxb') (fun o ho => by
                  obtain ⟨j, hj⟩ := List.getElem?_of_mem ho
                  obtain ⟨o1, h2, h3⟩ := like_at hol2 hj
                  rw [(strip_eq h3).2.1]
                  exact HIB.out o1 (List.mem_of_getElem? h2)) (fun x2 hx2 => by
                  obtain ⟨j, hj⟩ := List.getElem?_of_mem hx2
                  have h3 : (xs2.map InM.core)[j]? = some x2.core := by rw [List.getElem?_map, hj]; rfl
                  rw [hxl2, List.getElem?_map, Option.map_eq_some_iff] at h3
                  obtain ⟨x, h4, h5⟩ := h3
                  simp only [InM.core, coreK, Prod.mk.injEq] at h5
                  rw [← h5.2]
                  exact Nat.le_trans (List.length_filter_le _ _) (HRB.out x (List.mem_of_getElem? h4)))
                have HOA2 := Lib.hid (show ∀ o ∈ os2, o.a ≤ 9223372036854775807 from fun o ho => by
                  obtain ⟨j, hj⟩ := List.getElem?_of_mem ho
                  obtain ⟨o1, h2, h3⟩ := like_at hol2 hj
                  rw [(strip_eq h3).2.2.1]
                  exact HOA.out o1 (List.mem_of_getElem? h2))
                have HWK2 := Lib.hid hWK2; have HQ2 := Lib.hid hq2; have HQ3 := Lib.hid hq3; have HQ4 := Lib.hid hq4
                have HWH2 := Lib.hid (whole_any (xc := xc') wr hWK2)
                have hlo := HLN.out; have hlx := HD.out.len
                rw [hq1, wkV, hlo, hlx] at HWH2
                have HLL := Lib.hid (And.intro hlo hlx)
                obtain ⟨x0, x1⟩ := cells2_of HD.out.box
                clear hxl2 hol2 hq1 hq2 hq3 hq4 hWK2 hlo hlx
                go_wp2_with (go_at_call 7; fail)
                refine HWH2.out.mono ?_
                rintro _ y1 ⟨v9, rfl, hv9, hy1⟩
                obtain ⟨g9, rfl, hg9⟩ := hv9.in'
                have HY1 := Lib.hid (HD.out.upd.trans hy1); have HW9 := Lib.hid (HWK2.out.kept hy1)
                have HBX9 := Lib.hid ((hy1.block _ (lt_of_heap HD.out.box) (fun e => e)).trans HD.out.box)
                have HN9 := Lib.hid hg9
                have hwl : (wholeAt xs2).length = xn := by rw [wholeAt, List.length_map]; exact HLL.out.2
                have HV9 := Lib.hid (values_any (xc := xc') (ac := xn) n key y1 HW9.out hg9 (by omega) HOA2.out)
                rw [HQ2.out, wkV, HLL.out.1, HLL.out.2, hwl] at HV9
                have HWL := Lib.hid hwl
                obtain ⟨k0, k1, k2, k3⟩ := cells4_of ((HY1.out.block _ (lt_of_heap HKA.out) (fun e => e)).trans HKA.out)
                obtain ⟨z0, z1⟩ := cells2_of HBX9.out
                clear x0 x1 hv9 hg9 hy1 hwl HWH2
                simp only []
                go_wp2_with (go_at_call 8; fail)
                refine HV9.out.mono ?_
                rintro _ y2 ⟨a9, c9, rfl, ho9, hy2⟩
                have HY2 := Lib.hid (HY1.out.trans hy2); have HW10 := Lib.hid (HW9.out.kept hy2)
                have HBX10 := Lib.hid ((hy2.block _ (lt_of_heap HBX9.out) (fun e => e)).trans HBX9.out)
                have HO9 := Lib.hid ho9
                have HC9 := Lib.hid (cell_any (xc := xc') (ac := xn) n key y2 HW10.out (HN9.out.kept hy2) (by rw [HWL.out]; omega) HOA2.out)
                rw [HQ3.out, wkV, HLL.out.1, HLL.out.2, HWL.out] at HC9
                clear k0 k1 k2 k3 z0 z1 ho9 hy2 HV9
                obtain ⟨k0, k1, k2, k3⟩ := cells4_of ((HY2.out.block _ (lt_of_heap HKA.out) (fun e => e)).trans HKA.out)
                obtain ⟨z0, z1⟩ := cells2_of HBX10.out
                simp only []
                go_wp2_with (go_at_call 9; fail)
                refine HC9.out.mono ?_
                rintro _ y3 ⟨rfl, hy3⟩
                have HY3 := Lib.hid (HY2.out.trans hy3)
                have HO10 := Lib.hid (ownsRow_any HO9.out hy3 (fun _ _ e => e))
                have HCA3 := Lib.hid ((HY3.out.block _ (lt_of_heap HCA.out) (fun e => e)).trans HCA.out)
                obtain ⟨y4, hy4⟩ : ∃ y4, y4 = y3.alloc (.cells #[.int .i64 cc.count, .int .i64 cc.sum] 44) := ⟨_, rfl⟩
                have hu4 : Upd0 y3 y4 := by rw [hy4]; exact (Upd.refl _ y3).alloc _
                have HB4 := Lib.hid (show y4.heap[y3.heap.size]? = some (.cells #[.int .i64 cc.count, .int .i64 cc.sum] 44 (0, 0)) by rw [hy4]; exact alloc_at rfl)
                have HBG := Lib.hid (begins_any (lc := c5) (hc := c9) y4 (OwnI.in' (ownsRow_any HOA6.out (HY3.out.trans hu4) (fun _ _ e => e))) (OwnI.in' (ownsRow_any HO10.out hu4 (fun _ _ e => e))) (by have := HQ4.out; omega) (by have := HQ4.out; omega))
                rw [begins_pre (List.prefix_refl l)] at HBG
                have HFY := Lib.hid ((HFA.out.trans HY3.out).trans hu4)
                clear k0 k1 k2 k3 z0 z1 hy3 HC9
                obtain ⟨m0, m1⟩ := cells2_of ((hu4.block _ (lt_of_heap HCA3.out) (fun e => e)).trans HCA3.out)
                obtain ⟨q0, q1⟩ := cells2_of HB4.out
                simp only []
                go_upto_region 33 with fail
                rw [← hy4]
                clear hy4 hu4
                go_wp2_with (go_at_call 11; fail)
                refine HBG.out.mono ?_
                rintro _ y5 ⟨rfl, hy5⟩
                have HFZ := Lib.hid (HFY.out.trans hy5)
                clear hy5 HBG
                simp only []
                go_wp2
                go_ret
                exact ⟨rfl, HFZ.out⟩
      · have he' : (e != 0) = true := by simpa using he
        clear he
        go_wp2
        go_ret
        exact ⟨rfl, HF6.out.alloc _⟩
    · have hcw' : (cw != 0) = true := by simpa using hcw
      clear hcw
      go_wp2
      go_ret
      exact ⟨rfl, HF6.out.alloc _⟩
end Go.Proofs.Ytfaeojmmkejeiaa
