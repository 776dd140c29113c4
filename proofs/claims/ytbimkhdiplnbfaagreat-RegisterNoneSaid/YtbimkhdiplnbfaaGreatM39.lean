/- Walks: RegisterNone. -/
import Derived.Test.YtbimkhdiplnbfaaGreatM20
import Derived.Test.YtbimkhdiplnbfaaGreatM27
import Derived.Test.YtbimkhdiplnbfaaGreatM37
set_option linter.unusedVariables false
set_option linter.unusedSimpArgs false

namespace Go.Proofs.YtbimkhdiplnbfaaGreat
set_option maxRecDepth 100000
open Go.RowKit Go.Shelf

theorem vals_nil (w : World) (C : Nat → Prop) (a : Option Addr) : ValsAt w C a [] := fun i p h => by simp at h

set_option maxHeartbeats 16000000 in
theorem none_run {B : BatchV} {a ra ka : Option Addr} {c rc kc : Nat} {R K : List Bool} {kd on sectors area : Int} (w00 : World) (hop : OpIn w00 B a c ra R rc ka K kc) (hs : -9223372036854775808 ≤ sectors ∧ sectors ≤ 9223372036854775807) (har : -9223372036854775808 ≤ area ∧ area ≤ 9223372036854775807) :
    Calls Tryz.prog 10 #[.agg #[.int .i64 kd, .int .i64 on, .int .u64 B.epoch, .bool B.large, .slice a B.sets.length c, .slice ra R.length rc, .slice ka K.length kc], .int .i64 sectors, .int .i64 area] w00 fun e w' => e = .returned (.bool true) ∧ Upd (fun _ => False) w00 w' := by
  have hu00 : Upd (fun _ => False) w00 (w00.alloc (.cells #[.int .i64 kd, .int .i64 on, .int .u64 B.epoch, .bool B.large, .slice a B.sets.length c, .slice ra R.length rc, .slice ka K.length kc] 58)) := (Upd.refl _ w00).alloc _
  have hx00 : (w00.alloc (.cells #[.int .i64 kd, .int .i64 on, .int .u64 B.epoch, .bool B.large, .slice a B.sets.length c, .slice ra R.length rc, .slice ka K.length kc] 58)).heap[w00.heap.size]? = some (.cells #[.int .i64 kd, .int .i64 on, .int .u64 B.epoch, .bool B.large, .slice a B.sets.length c, .slice ra R.length rc, .slice ka K.length kc] 58 (0, 0)) := alloc_at rfl
  have HU0 := Lib.hid hu00; have HX0 := Lib.hid hx00; have HOP := Lib.hid (hop.kept hu00); have HS := Lib.hid hs; have HAR := Lib.hid har
  clear hop hs har hu00 hx00
  go_enter Tryz.func10, Tryz.ntmps10
  go_upto_region 1 with fail
  generalize w00.alloc (.cells #[.int .i64 kd, .int .i64 on, .int .u64 B.epoch, .bool B.large, .slice a B.sets.length c, .slice ra R.length rc, .slice ka K.length kc] 58) = w at HU0 HX0 HOP ⊢
  obtain ⟨bx0, hbx0⟩ : ∃ b, b = w00.heap.size := ⟨_, rfl⟩
  rw [← hbx0] at HX0 ⊢
  clear hbx0
  go_wp2_with (go_at_call 18; fail)
  refine (wakes_any w).mono ?_
  rintro e w1 ⟨rfl, hu1⟩
  have HU1 := Lib.hid hu1
  clear hu1
  simp only []
  go_wp2_with (go_at_call 34; fail)
  refine (value_nil _ w1).mono ?_
  rintro e w2 ⟨rfl, rfl⟩
  simp only []
  go_wp2_with (go_at_call 47; fail)
  refine (rformat_nil area w1).mono ?_
  rintro e w2 ⟨rfl, hu2⟩
  have HU2 := Lib.hid (HU1.out.trans hu2)
  clear hu2
  simp only []
  go_wp2_with (go_at_call 35; fail)
  refine (ropen_nil w2).mono ?_
  rintro e w3 ⟨rfl, hu3⟩
  have HU3 := Lib.hid (HU2.out.trans hu3)
  clear hu3 HU1 HU2
  simp only []
  have hx3 := (HU3.out.block _ (lt_of_heap HX0.out) (fun e => e)).trans HX0.out
  have hop3 := HOP.out.kept HU3.out
  have co : ∀ j v, #[Value.int .i64 kd, .int .i64 on, .int .u64 B.epoch, .bool B.large, .slice a B.sets.length c, .slice ra R.length rc, .slice ka K.length kc][j]? = some v → w3.cell? ⟨bx0, j, none⟩ = some v := fun j v h => by rw [cell_of_heap hx3]; exact h
  have q0 := co 0 _ rfl; have q1 := co 1 _ rfl; have q2 := co 2 _ rfl; have q3 := co 3 _ rfl; have q4 := co 4 _ rfl; have q5 := co 5 _ rfl; have q6 := co 6 _ rfl
  have hbt := batch_right (kd := kd) (on := on) (e0 := 0) (ka := ka) (kn := K.length) (kc := kc) (rc := rc) (pa := none) (pn := 0) (pc := 0) (R := R) (l := []) w3 hop3.batch.sets hop3.batch.bytes hop3.batch.len (by have := hop3.batch.cap; unfold maxLen; omega) hop3.right.boolsR rfl (vals_nil w3 (fun _ => False) none) rfl KV.Fine.nil
  obtain ⟨B2, hB2⟩ : ∃ B2, B2 = batchR [] R B := ⟨_, rfl⟩
  rw [← hB2] at hbt
  unfold CopyAns batchV at hbt
  have HBT := Lib.hid hbt
  clear hx3 hop3 co hbt hB2
  go_wp2_with (go_at_call 19; fail)
  refine HBT.out.mono ?_
  rintro e w4 ⟨a2, c2, rfl, _, _, hu4⟩
  have HU4 := Lib.hid (HU3.out.trans hu4)
  clear hu4 HBT HU3 q0 q1 q2 q3 q4 q5 q6
  simp only []
  go_wp2_with (go_at_call 31; fail)
  refine (commit_nil _ _ _ _ _ w4).mono ?_
  rintro e w5 ⟨rfl, hu5⟩
  have HU5 := Lib.hid (HU4.out.trans hu5)
  clear hu5 HU4
  simp only []
  go_wp2_with (go_at_call 37; fail)
  refine (names_nil w5).mono ?_
  rintro e w6 ⟨rfl, rfl⟩
  simp only []
  go_wp2_with (go_at_call 36; fail)
  refine (repoch_nil w5).mono ?_
  rintro e w6 ⟨rfl, rfl⟩
  simp only []
  go_wp2_with (go_at_call 46; fail)
  refine (rarea_nil w5).mono ?_
  rintro e w6 ⟨rfl, rfl⟩
  simp only []
  go_wp2_with (go_at_call 48; fail)
  refine (rbroken_nil w5).mono ?_
  rintro e w6 ⟨rfl, rfl⟩
  simp only []
  go_wp2_with (go_at_call 49; fail)
  refine (rwal_nil w5).mono ?_
  rintro e w6 ⟨rfl, rfl⟩
  simp only []
  go_wp2_with (go_at_call 13; fail)
  obtain ⟨N, hN1, hN2⟩ : ∃ N : Nat, wrap64 (1 + wrap64 ((IntKind.u64.wrap sectors).tmod 300)) = (N : Int) ∧ 1 ≤ N ∧ N ≤ 300 := by
    have h0 : 0 ≤ IntKind.u64.wrap sectors := by rw [IntKind.wrap_u64]; omega
    rw [Int.tmod_eq_emod_of_nonneg h0]
    have h1 := Int.emod_nonneg (IntKind.u64.wrap sectors) (b := 300) (by decide)
    have h2 := Int.emod_lt_of_pos (IntKind.u64.wrap sectors) (b := 300) (by decide)
    refine ⟨1 + ((IntKind.u64.wrap sectors) % 300).toNat, ?_, by omega, by omega⟩
    generalize (IntKind.u64.wrap sectors) % 300 = m at h1 h2 ⊢
    rw [show wrap64 m = m from IntWalk.wrap64_in _ (by omega), IntWalk.wrap64_in _ (by omega)]
    omega
  rw [hN1]
  have HN1 := Lib.hid hN1; have HN2 := Lib.hid hN2
  clear hN1 hN2
  refine (new_good_disk N w5 (by have := HN2.out; omega)).mono ?_
  rintro e wa ⟨Fp1, rfl, hd1, hf1, hu1, hg1, hk1⟩
  have HDp := Lib.hid hd1; have HFp := Lib.hid (show ∀ k, Fp1 k → w.heap.size ≤ k from fun k hk => by have := hf1 k hk; have := HU5.out.size; omega); have HUA := Lib.hid (HU5.out.trans hu1)
  clear hd1 hf1 hu1 hg1 hk1 HU5
  simp only []
  obtain ⟨p, hp⟩ : ∃ p, p = w5.heap.size + 1 := ⟨_, rfl⟩
  rw [← hp] at HDp ⊢
  clear hp
  go_wp2_with (go_at_call 13; fail)
  rw [HN1.out]
  refine (new_good_disk N wa (by have := HN2.out; omega)).mono ?_
  rintro e wb ⟨Fq, rfl, hd2, hf2, hu2, hg2, hk2⟩
  have HDp2 := Lib.hid (HDp.out.kept hu2 (fun _ _ e => e)); have HDq := Lib.hid hd2; have HFq := Lib.hid (show ∀ k, Fq k → w.heap.size ≤ k from fun k hk => by have := hf2 k hk; have := HUA.out.size; omega); have HUB := Lib.hid (HUA.out.trans hu2); have HG := Lib.hid hg2; have HK := Lib.hid hk2
  have HPQ := Lib.hid (show ∀ k, Fp1 k → ¬ Fq k from fun k hk e => by have := HDp.out.lt k hk; have := hf2 k e; omega)
  clear hd2 hf2 hu2 hg2 hk2
  simp only []
  obtain ⟨q, hq⟩ : ∃ q, q = wa.heap.size + 1 := ⟨_, rfl⟩
  rw [← hq] at HDq ⊢
  clear hq HDp
  by_cases hbad : area < 4 ∨ 1000 < area ∨ (N : Int) < 2 + 2 * area
  · have hrb := rformat_bad wb HDp2.out HAR.out (by rw [HG.out.len]; exact hbad)
    have hfb := fun W (h : Dsk W q (Dk.new N) Fq) => format_bad W h HAR.out (by rw [HG.out.len]; exact hbad)
    have HRB := Lib.hid hrb; have HFB := Lib.hid hfb
    clear hrb hfb hbad
    go_wp2_with (go_at_call 47; fail)
    refine HRB.out.mono ?_
    rintro e wc ⟨rfl, huc⟩
    have HUC := Lib.hid huc
    clear huc
    simp only []
    go_wp2_with (go_at_call 41; fail)
    refine (HFB.out wc (HDq.out.kept HUC.out (fun _ _ e => e))).mono ?_
    rintro e wd ⟨rfl, hud⟩
    have HUD := Lib.hid (HUC.out.trans hud)
    clear hud
    simp only []
    go_wp2_with (go_at_call 45; fail)
    refine (alike_same wd (HDp2.out.kept HUD.out (fun _ _ e => e)) (HDq.out.kept HUD.out (fun _ _ e => e)) HK.out (by omega)).mono ?_
    rintro e we ⟨rfl, hue⟩
    have HUE := Lib.hid hue
    clear hue
    simp only []
    go_wp2
    go_ret
    exact ⟨rfl, HU0.out.trans (HUB.out.trans (HUD.out.trans HUE.out))⟩
  · obtain ⟨ar, har⟩ : ∃ ar : Nat, area = (ar : Int) := ⟨area.toNat, by omega⟩
    subst har
    have h4 : 4 ≤ ar ∧ ar ≤ 1000 := by omega
    have hfit : 2 + 2 * ar ≤ N := by omega
    have hrb := rformat_good wb HDp2.out HG.out HK.out (by omega) h4 hfit
    have hfb := fun W (h : Dsk W q (Dk.new N) Fq) => format_good W h HG.out HK.out (by omega) h4 hfit
    have HRB := Lib.hid hrb; have HFB := Lib.hid hfb
    clear hrb hfb hbad h4 hfit
    go_wp2_with (go_at_call 47; fail)
    refine HRB.out.mono ?_
    rintro e wc ⟨r, b, q1, G1, F1, rfl, _, _, hw1, hg1, hf1, hu1, _⟩
    have HDp3 := Lib.hid hw1.wal.2.1; have HKK := Lib.hid hw1.dok
    have hdq := HDq.out.kept hu1 (fun k hk e => HPQ.out k e hk)
    have HDq3 := Lib.hid hdq
    have huc := HUB.out.step hu1 (fun k hk e => by have := HFp.out k e; omega)
    have hfq : ∀ k, F1 k → ¬ Fq k := fun k hk e => by
      rcases hf1 k hk with e2 | e2
      · exact HPQ.out k e2 e
      · have := HDq.out.lt k e; omega
    have HUC := Lib.hid huc; have HF1 := Lib.hid hfq
    clear hw1 hg1 hf1 hu1 hdq huc hfq HRB
    simp only []
    go_wp2_with (go_at_call 41; fail)
    refine (HFB.out wc HDq3.out).mono ?_
    rintro e wd ⟨q2, G2, F2, rfl, hw2, hg2, hf2, hu2⟩
    have HDp4 := Lib.hid (HDp3.out.kept hu2 (fun k hk e => HF1.out k hk e)); have HDq4 := Lib.hid hw2.wal.2.1
    have HUD := Lib.hid (HUC.out.step hu2 (fun k hk e => by have := HFq.out k e; omega))
    clear hw2 hg2 hf2 hu2 HFB
    simp only []
    go_wp2_with (go_at_call 45; fail)
    refine (alike_same wd HDp4.out HDq4.out HKK.out (by omega)).mono ?_
    rintro e we ⟨rfl, hue⟩
    have HUE := Lib.hid hue
    clear hue
    simp only []
    go_wp2
    go_ret
    exact ⟨rfl, HU0.out.trans (HUD.out.trans HUE.out)⟩
end Go.Proofs.YtbimkhdiplnbfaaGreat
