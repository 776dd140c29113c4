/- Walks of the laws: DiskAges. -/
import Derived.Test.YtbimkhdiplnbfaaU25

namespace Go.Proofs.Ytbimkhdiplnbfaa
open Go.RowKit Go.Deep

theorem cloneBoolsO_run {a : Option Addr} {n c : Nat} {B : Nat → Bool} (w : World) (h : KeepIn w a n c B) :
    Calls Try.prog 49 #[.slice a (min n 80 : Nat) c] w fun e w' => (∃ ka' kc', e = .returned (.slice ka' (min n 80) kc') ∧ w'.ownsRow w.heap.size 4 1 (.slice ka' (min n 80) kc') (min n 80) ((keeps n B).map Value.bool)) ∧ Upd (fun _ => False) w w' := by
  rcases h with ⟨rfl, rfl, rfl⟩ | ⟨a, rfl, h1, h2, h3⟩
  · refine (cloneBools_nil w).mono ?_
    rintro e w' ⟨rfl, rfl⟩
    exact ⟨⟨none, 0, rfl, by simpa [keeps] using World.ownsRow_nil w w.heap.size 4 1⟩, Upd.refl _ _⟩
  · obtain ⟨len, hlen⟩ : ∃ len, len = min n 80 := ⟨_, rfl⟩
    have hl : len ≤ 80 := by omega
    have HC := Lib.hid (fun i (hi : i < len) => h3 i (by omega))
    have hkp : keeps n B = (List.range len).map B := by unfold keeps; rw [hlen]
    rw [hkp, ← hlen]
    clear h1 h2 h3 hlen hkp
    have q22 : (binOp .eql 49 (.slice (some a) len c) (.slice none 0 0)).run Try.prog w = .ok (.bool false) w := Lib.run_eql_slice_nil w _ _ _ _ _ _ _ Try.underlying49
    go_enter Try.func49, Try.ntmps49
    go_upto_region 3 with fail
    clear q22
    iterate 7 go_step
    obtain ⟨i0, hi0, hz0, hz1, hz2⟩ := info_parts Try.info4p
    have hown0 : (w.alloc (.cells #[] 4)).ownsRow w.heap.size 4 1 (.slice (some ⟨w.heap.size, 0, none⟩) 0 0) 0 [] :=
      ⟨by simp, .inr ⟨w.heap.size, 0, #[], rfl, Nat.le_refl _, alloc_at rfl, Nat.le_refl _, Nat.zero_le _, rfl, rfl⟩⟩
    refine wpList_append_own _ rfl (.tmp 5) (.tmp 6) 49 rfl w.heap.size 4 i0 (.bool false) 1 1 Try.underlying49 hi0 hz0 hz1 hz2 rfl (by omega) _ 0 [] rfl hown0 a len c (((List.range len).map B).map Value.bool) rfl (by simp) (by
      intro j u hj
      have hjl : j < len := by have := (List.getElem?_eq_some_iff.1 hj).1; simpa using this
      simp [hjl] at hj
      subst hj
      exact cell_kept ((Upd.refl _ w).alloc _) (HC.out j hjl)) (by simp [Value.oneCell']) (by unfold maxLen; omega) (by omega) (by simp) ?_
    intro v' w1 hown hgrow hnil
    have hv : ∃ g c, v' = .slice (some ⟨g, 0, none⟩) len c := by
      rcases hown.2 with ⟨e, _⟩ | ⟨g, c, cur, e, _⟩
      · have he := (hnil.1 e).1
        cases he
      · exact ⟨g, c, by simpa using e⟩
    obtain ⟨g, c, rfl⟩ := hv
    have HO := Lib.hid hown
    have HG := Lib.hid hgrow
    clear hown hgrow hnil hi0 hz0 hz1 hz2 hown0
    go_wp2
    go_ret
    refine ⟨⟨_, _, rfl, ?_⟩, ?_⟩
    · have ho := HO.out
      simp only [Nat.zero_add, List.nil_append] at ho
      exact ho
    · have h2 : Upd (fun j => w.heap.size ≤ j) w w1 := (((Upd.refl _ w).alloc _).step (Upd.of_grown (F := fun j => w.heap.size ≤ j) HG.out (fun k hk => Nat.le_of_eq (Option.some.inj hk))) (fun _ _ e => e))
      exact h2.mono (fun j hj e => by omega)

/-- What more is kept. -/
def moreB (Bk : Nat → Bool) (i : Nat) : Bool := Bk i || decide (i % 2 = 0)
def partB (Bk : Nat → Bool) (k i : Nat) : Bool := if i < k then moreB Bk i else Bk i

theorem more_keeps (kn : Nat) (Bk : Nat → Bool) (j : Nat) (h : (keeps kn Bk).getD j false = true) : (keeps kn (moreB Bk)).getD j false = true := by
  unfold keeps at *
  rw [List.getD_eq_getElem?_getD] at *
  by_cases hj : j < min kn 80
  · simp [hj] at h ⊢
    unfold moreB
    rw [h]; rfl
  · rw [List.getElem?_eq_none (by simp; omega)] at h
    cases h

theorem HTab.move {w w' : World} {hb N k B : Nat} {Hs : Nat → List (List Int)} {F F' G : Nat → Prop} {g off cap : Nat → Nat} (h : HTab w hb N k Hs F g off cap) (hu : Upd G w w') (hG : ∀ j, G j → B ≤ j) (hb' : hb < B) (hg : ∀ i, i < k → g i < B) (hF : ∀ j, F' j → F j ∨ B ≤ j) : HTab w' hb N k Hs F' g off cap :=
  ⟨(hu.block hb (lt_of_heap h.blk) (fun e => by have := hG _ e; omega)).trans h.blk, fun i hi => (h.his i hi).kept hu (fun e => by have := hG _ e; have := hg i hi; omega), h.lens, h.ne, h.inj,
    fun i hi e => (hF _ e).elim (h.apart i hi) (fun e => by have := hg i hi; omega), fun e => (hF _ e).elim h.hbF (fun e => by omega)⟩

/-- Two disks that are read. -/
def ReadSt2 (w : World) (p c : Nat) (F G : Nat → Prop) (C E : Dk) (m : Nat) (W : World) : Prop :=
  ∃ X Y, Dsk W p X F ∧ Dsk W c Y G ∧ X.Calm ∧ X.arr = C.arr ∧ X.row = C.row ∧ X.Ok (1000 + m) ∧ Y.Calm ∧ Y.arr = E.arr ∧ Y.row = E.row ∧ Y.Ok (1000 + m) ∧ Upd (fun j => F j ∨ G j) w W

set_option maxRecDepth 100000 in
set_option maxHeartbeats 4000000 in
theorem ages_run (n : Int) (sa : Option Addr) (sc : Nat) (L : List CallR) (ka : Option Addr) (kn kc : Nat) (Bk : Nat → Bool) (w : World) (hin : CallsIn w sa sc L) (hLc : ∀ x ∈ L, 0 ≤ x.c ∧ x.c ≤ 255) (hkp : KeepIn w ka kn kc Bk) :
    Calls Try.prog 11 #[.int .i64 n, .slice sa L.length sc, .slice ka kn kc] w fun e w' => e = .returned (.bool true) ∧ Upd (fun _ => False) w w' := by
  have hal : RowKit.Hid (kn ≤ kc ∧ kc ≤ maxLen ∧ (ka = none → kn = 0 ∧ kc = 0)) := Lib.hid (by
    rcases hkp with ⟨rfl, rfl, rfl⟩ | ⟨a, rfl, h1, h2, _⟩
    · exact ⟨Nat.le_refl _, by unfold maxLen; omega, fun _ => ⟨rfl, rfl⟩⟩
    · exact ⟨h1, h2, fun e => by cases e⟩)
  have HKP := Lib.hid hkp
  clear hkp
  have HIN := Lib.hid hin; have HLC := Lib.hid hLc
  clear hin hLc
  go_enter Try.func11, Try.ntmps11
  go_wp2_with (go_at_call 31; fail)
  refine (wakes_run _).mono ?_
  rintro e w1 ⟨rfl, hu1⟩
  have HU1 := Lib.hid hu1
  clear hu1
  simp only []
  go_wp2_with (go_at_call 54; fail)
  refine (calm_run w1 (HIN.out.kept HU1.out)).mono ?_
  rintro e w2 ⟨v, C, rfl, hcal, hC60, hCall, hu2⟩
  obtain ⟨va, vc, rfl, hrow⟩ : ∃ va vc, v = .slice va C.length vc ∧ (C ≠ [] → ∃ g, va = some ⟨g, 0, none⟩ ∧ RowC w2 g vc C) := by
    rcases hcal with ⟨h1, h2⟩ | ⟨g, cap, h1, h2, h3⟩
    · subst h2; exact ⟨none, 0, h1, fun e => absurd rfl e⟩
    · exact ⟨_, cap, h1, fun _ => ⟨g, rfl, h2⟩⟩
  have HU2 := Lib.hid (HU1.out.trans hu2)
  have HWR := Lib.hid (written_run n va vc C w2 hrow (fun x hx => ⟨(hCall x hx).1, HLC.out x (hCall x hx).2⟩) hC60)
  have hzw2 := HU2.out.size
  clear hcal hrow hCall hu2 HIN HU1 HLC
  simp only []
  go_wp2_with (go_at_call 53; fail)
  refine HWR.out.mono ?_
  rintro e w3 ⟨N, p, hb, D, rfl, F, g, off, cap, hD, hF, hT, hgs, hhb, hcalm, hok, hlen, hu⟩
  have HD := Lib.hid hD; have HF := Lib.hid hF; have HT := Lib.hid hT; have HC := Lib.hid hcalm; have HOK := Lib.hid hok; have HLEN := Lib.hid hlen; have HU := Lib.hid (HU2.out.trans hu)
  have hN := hok.len
  rw [hlen] at hN
  clear hD hF hT hgs hcalm hok hlen hu HWR HU2
  simp only []
  go_upto_region 6 with fail
  iterate 13 go_step
  refine wpList_exec rfl (run_cut80 rfl rfl rfl hal.out _) ?_
  clear hal
  go_wp2_with (go_at_call 49; fail)
  refine (cloneBoolsO_run w3 (HKP.out.kept HU.out)).mono ?_
  rintro e w5 ⟨⟨ma, mc, rfl, hown⟩, hu5⟩
  obtain ⟨mk, hmk⟩ : ∃ mk, mk = min kn 80 := ⟨_, rfl⟩
  have hmk80 : mk ≤ 80 := by omega
  have HMK := Lib.hid hmk
  have hown2 : w5.ownsRow w3.heap.size 4 1 (.slice ma mk mc) mk (((List.range mk).map (partB Bk 0)).map Value.bool) := by
    have e0 : partB Bk 0 = Bk := by funext i; simp [partB]
    have e1 : (List.range mk).map (partB Bk 0) = keeps kn Bk := by unfold keeps; rw [hmk, e0]
    rw [e1, hmk]; exact hown
  rw [← hmk]
  have HOWN := Lib.hid hown2
  have HD5 := Lib.hid (HD.out.kept hu5 (fun _ _ e => e)); have HT5 := Lib.hid (HT.out.turn (F' := F) (hu5.mono (fun _ _ e => e.elim)) (fun j e => .inl e)); have HU5 := Lib.hid (HU.out.trans hu5)
  have HZ35 : RowKit.Hid (w3.heap.size ≤ w5.heap.size) := Lib.hid hu5.size
  have HZ3 : RowKit.Hid (w.heap.size ≤ w3.heap.size ∧ (∀ j, F j → j < w3.heap.size) ∧ hb < w3.heap.size ∧ ∀ i, i < N → g i < w3.heap.size) := Lib.hid ⟨HU.out.size, HD.out.lt, lt_of_heap HT.out.blk, fun i hi => (HT.out.his i hi).lt⟩
  clear hown hown2 hu5 HD HT HU hmk
  simp only []
  go_wp2
  go_loopg [40] mk (fun gk i wr => ∃ j : Nat, j ≤ mk ∧ gk = mk - j ∧ i = .int .i64 j ∧ wr.ownsRow w3.heap.size 4 1 (.slice ma mk mc) mk (((List.range mk).map (partB Bk j)).map Value.bool) ∧ Upd (fun k => w3.heap.size ≤ k) w5 wr)
  case atStart => exact ⟨0, Nat.zero_le _, rfl, rfl, HOWN.out, Upd.refl _ _⟩
  case round =>
    clear HOWN
    obtain ⟨j, hj, rfl, rfl, hv, hu⟩ := hrel
    obtain ⟨wo, rfl⟩ : ∃ wo, wo = wr := ⟨_, rfl⟩
    by_cases hjn : j < mk
    · have hjn2 : (j : Int) < mk := by omega
      obtain ⟨gu, rfl, hgu, hgu3, hcu⟩ := own_cell1 hv hjn
      have c0 : wo.cell? ⟨gu, j, none⟩ = some (.bool (Bk j)) := by rw [hcu]; simp [hjn, partB]
      have f0 : wo.frozen? ⟨gu, j, none⟩ = false := World.ownsRow.frozenAt hv j
      have hst := hv.stored j (.bool (moreB Bk j))
      have hxs : ((((List.range mk).map (partB Bk j)).map Value.bool).set j (.bool (moreB Bk j))) = (((List.range mk).map (partB Bk (j + 1))).map Value.bool) := by
        apply List.ext_getElem
        · simp
        · intro i h1 h2
          simp only [List.getElem_set, List.getElem_map, List.getElem_range]
          by_cases e : j = i
          · subst e; simp [partB]
          · rw [if_neg e]
            congr 1
            unfold partB
            by_cases h3 : i < j
            · rw [if_pos h3, if_pos (by omega)]
            · rw [if_neg h3, if_neg (by omega)]
      rw [hxs] at hst
      have hu2 : Upd (fun k => w3.heap.size ≤ k) w5 (wo.setCell ⟨gu, j, none⟩ (.bool (moreB Bk j))) := hu.setCell (p := ⟨gu, j, none⟩) (.inl hgu3) _
      have HST := Lib.hid hst.1; have HU2 := Lib.hid hu2
      clear hv hcu hst hxs hu hu2
      obtain ⟨pb, hpb⟩ : ∃ pb, decide (j % 2 = 0) = pb := ⟨_, rfl⟩
      have hm : ((j : Int) % 2 == 0) = pb := by rw [← hpb, Bool.eq_iff_iff]; simp; omega
      have hmb : moreB Bk j = (Bk j || pb) := by unfold moreB; rw [hpb]
      rw [hmb] at HST HU2
      clear hpb hmb
      generalize hb1 : Bk j = b1 at *
      clear hb1
      cases b1
      all_goals
        go_wp2
        go_roundg (mk - (j + 1))
        case measure => omega
        case rel => exact ⟨j + 1, by omega, rfl, congrArg _ (by omega), by simpa using HST.out, by simpa using HU2.out⟩
    · obtain rfl : j = mk := by omega
      have HV := Lib.hid hv; have HUV := Lib.hid hu
      clear hv hu
      go_upto_region 13 with fail
      obtain ⟨hz3, hFlt, hhb3, hg3⟩ := HZ3.out
      have hDo := HD5.out.kept HUV.out (fun k hk e => by have := hFlt k hk; omega)
      have HTo := Lib.hid (HT5.out.move (F' := F) (B := w3.heap.size) HUV.out (fun _ e => e) hhb3 hg3 (fun _ e => .inl e))
      have HUo := Lib.hid (HU5.out.step HUV.out (fun k hk e => by omega))
      have hzo := HUV.out.size
      have HDo := Lib.hid hDo
      have hk3 : w3.heap.size ≤ wo.heap.size := Nat.le_trans HZ35.out hzo
      clear hDo HT5 HD5 HU5 HUV
      go_wp2_with (go_at_call 47; fail)
      refine (copy_run wo HDo.out (HOK.out.mono (by omega))).mono ?_
      rintro e wc ⟨rfl, g7, c7, hCp⟩
      obtain ⟨Fc, hDc, hFc, huc⟩ := hCp.dsk
      obtain ⟨c, hc⟩ : ∃ c, c = wo.heap.size := ⟨_, rfl⟩
      have HDC : RowKit.Hid (Dsk wc c D Fc) := Lib.hid (by rw [hc]; exact hDc)
      have HFC := Lib.hid hFc; have HUC := Lib.hid huc; have HCE := Lib.hid hc
      rw [← hc]
      clear hDc hFc huc hCp hc
      simp only []
      go_wp2_with (go_at_call 40; fail)
      have hcr := crash_any wc ka kc (keeps kn Bk) (keepIn_bools (HKP.out.kept (HUo.out.trans HUC.out))) (by rw [keeps_length]; omega) (HDo.out.kept HUC.out (fun _ _ e => e)) (HOK.out.mono (by omega))
      rw [keeps_length, ← HMK.out] at hcr
      refine hcr.mono ?_
      rintro e w7 ⟨rfl, F1, hD7, hF1, hu7⟩
      have hu57 : Upd F wo w7 := (HUC.out.mono (fun _ _ e => e.elim)).trans hu7
      have hv7 := ownsRow_any HV.out hu57 (fun k hk e => by have := hFlt k e; have := (HV.out.lt k hk).1; omega)
      have emore : (List.range j).map (partB Bk j) = keeps kn (moreB Bk) := by
        unfold keeps
        rw [← HMK.out]
        apply List.map_congr_left
        intro i hi
        have := List.mem_range.1 hi
        unfold partB
        rw [if_pos this]
      rw [emore] at hv7
      have hbo := own_bools hv7 (by rw [keeps_length, ← HMK.out])
      have hDc7 := HDC.out.kept hu7 (fun k hk e => by have := HFC.out k hk; have := hFlt k e; omega)
      have hT7 := (HTo.out.turn (F' := F) (HUC.out.mono (fun _ _ e => e.elim)) (fun _ e => .inl e)).turn (F' := F1) hu7 hF1
      have hcr2 := crash_any w7 ma mc (keeps kn (moreB Bk)) hbo (by rw [keeps_length]; omega) hDc7 (HOK.out.mono (by omega))
      rw [keeps_length, ← HMK.out] at hcr2
      have HCR2 := Lib.hid hcr2
      have hFcl : ∀ k, Fc k → wo.heap.size ≤ k ∧ k < wc.heap.size := fun k hk => ⟨HFC.out k hk, HDC.out.lt k hk⟩
      have hF1d : ∀ k, F1 k → ¬ Fc k := fun k hk e => by
        have h1 := hFcl k e
        rcases hF1 k hk with h2 | h2
        · have := hFlt k h2; omega
        · omega
      have HF1D := Lib.hid hF1d; have HFCL := Lib.hid hFcl; have HT7 := Lib.hid hT7; have HD7 := Lib.hid hD7
      have HF1W : RowKit.Hid (∀ k, F1 k → w.heap.size ≤ k) := Lib.hid (fun k hk => by
        rcases hF1 k hk with h2 | h2
        · have := HF.out k h2; omega
        · have := HUo.out.size; have := HUC.out.size; omega)
      have HU7 := Lib.hid ((HUo.out.trans HUC.out).step hu7 (fun k hk e => by have := HF.out k e; omega))
      have hz7 := hu7.size
      have hzc := HUC.out.size
      have hg3o : ∀ i, i < N → g i < wo.heap.size := fun i hi => Nat.lt_of_lt_of_le (hg3 i hi) hk3
      have HG3 := Lib.hid hg3o
      have hb3o : hb < wo.heap.size := Nat.lt_of_lt_of_le hhb3 hk3
      clear hu57 hv7 emore hbo hDc7 hT7 hcr2 hFcl hF1d hD7 hF1 hu7 hcr HV HTo HDo HDC hFlt hg3 hg3o
      simp only []
      go_wp2_with (go_at_call 40; fail)
      refine HCR2.out.mono ?_
      rintro e w8 ⟨rfl, F2, hD8, hF2, hu8⟩
      have hT8 := HT7.out.move (F' := fun k => F1 k ∨ F2 k) (B := wo.heap.size) hu8 (fun k e => (HFCL.out k e).1) hb3o HG3.out (fun k hk => by
        rcases hk with h1 | h1
        · exact .inl h1
        · rcases hF2 k h1 with h2 | h2
          · exact .inr (HFCL.out k h2).1
          · exact .inr (by omega))
      have hDp8 := HD7.out.kept hu8 (fun k hk e => HF1D.out k hk e)
      obtain ⟨E1, hE1⟩ : ∃ E1, E1 = D.crash (keeps kn Bk) := ⟨_, rfl⟩
      obtain ⟨E2, hE2⟩ : ∃ E2, E2 = D.crash (keeps kn (moreB Bk)) := ⟨_, rfl⟩
      rw [← hE1] at hDp8
      rw [← hE2] at hD8
      have hlen1 : E1.arr.length = N := by rw [hE1]; simp [Dk.crash, Dk.arrive, HLEN.out]
      have hlen2 : E2.arr.length = N := by rw [hE2]; simp [Dk.crash, Dk.arrive, HLEN.out]
      have hok1 : E1.Ok 1000 := by rw [hE1]; exact (HOK.out.crash _).mono (by omega)
      have hok2 : E2.Ok 1000 := by rw [hE2]; exact (HOK.out.crash _).mono (by omega)
      have hc1 : E1.Calm := by rw [hE1]; exact crash_calm' _ _
      have hc2 : E2.Calm := by rw [hE2]; exact crash_calm' _ _
      have hag : ∀ m, m < N → ∃ p q : Nat, p ≤ q ∧ (D.hist m)[p]? = some (E1.shows m) ∧ (D.hist m)[q]? = some (E2.shows m) := fun m hm => by
        rw [hE1, hE2]; exact crash_ages (more_keeps kn Bk) (by rw [HLEN.out]; exact hm)
      have HF12 : RowKit.Hid (∀ k, F1 k → ¬ F2 k) := Lib.hid (fun k hk e => by
        rcases hF2 k e with h2 | h2
        · exact HF1D.out k hk h2
        · have := HD7.out.lt k hk; omega)
      have HF2W : RowKit.Hid (∀ k, F2 k → w.heap.size ≤ k) := Lib.hid (fun k hk => by
        rcases hF2 k hk with h2 | h2
        · have := (HFCL.out k h2).1; have := HUo.out.size; omega
        · have := HU7.out.size; omega)
      have HU8 := Lib.hid (HU7.out.step hu8 (fun k hk e => by have := (HFCL.out k e).1; have := HUo.out.size; omega))
      have HT8 := Lib.hid hT8; have HDP := Lib.hid hDp8; have HDC := Lib.hid hD8; have HL1 := Lib.hid hlen1; have HL2 := Lib.hid hlen2; have HO1 := Lib.hid hok1; have HO2 := Lib.hid hok2; have HC1 := Lib.hid hc1; have HC2 := Lib.hid hc2; have HAG := Lib.hid hag
      clear hT8 hDp8 hD8 hF2 hu8 hE1 hE2 hlen1 hlen2 hok1 hok2 hc1 hc2 hag HT7 HD7 HU7 HCR2 HF1D HFCL HG3 HUo HUC HFC hz7 hzc
      simp only []
      go_wp2
      have hN2 := hN.2
      go_loopg [70] N (fun gk i wr => ∃ m : Nat, m ≤ N ∧ gk = N - m ∧ i = .int .i64 m ∧ ReadSt2 w8 p c F1 F2 E1 E2 m wr)
      case atStart => exact ⟨0, Nat.zero_le _, rfl, rfl, E1, E2, HDP.out, HDC.out, HC1.out, rfl, rfl, HO1.out, HC2.out, rfl, rfl, HO2.out, Upd.refl _ _⟩
      case round =>
        obtain ⟨m, hm, rfl, rfl, X, Y, hDX, hDY, hXc, hXa, hXr, hXo, hYc, hYa, hYr, hYo, huX⟩ := hrel
        obtain ⟨wy, rfl⟩ : ∃ wy, wy = wr := ⟨_, rfl⟩
        by_cases hmN : m < N
        · have hmNi : (m : Int) < N := by omega
          have hTy := HT8.out.kept huX
          have c0 := hTy.cell hmN hmN
          have hl64 := hTy.lens m hmN
          have hhs := hTy.his m hmN
          have hgF := hTy.apart m hmN
          have hp1 := hist_pos D m
          have hp2 : (D.hist m).length ≤ 1000 := by have := hist_len D m; have := HOK.out.rowlen; omega
          obtain ⟨pa, pb, hpq, hpa, hpb⟩ := HAG.out m hmN
          obtain ⟨r1, r2, r3, r4, r5⟩ := read_calm hXc (i := m) (by rw [hXa, HL1.out]; exact hmN)
          obtain ⟨s1, s2, s3, s4, s5⟩ := read_calm hYc (i := m) (by rw [hYa, HL2.out]; exact hmN)
          have hsx : X.reads m = E1.shows m := by rw [r2]; exact shows_same hXa hXr m
          have hsy : Y.reads m = E2.shows m := by rw [s2]; exact shows_same hYa hYr m
          have hra := read_any m wy hDX (hXo.mono (by omega))
          rw [hsx, r1] at hra
          have HRA := Lib.hid hra
          have HRB := Lib.hid (fun (W : World) (hD : Dsk W c Y F2) => read_any m W hD (hYo.mono (by omega)))
          rw [hsy, s1] at HRB
          have hx2 : (X.callD m false).Calm ∧ (X.callD m false).arr = E1.arr ∧ (X.callD m false).row = E1.row ∧ (X.callD m false).Ok (1000 + (m + 1)) := ⟨r3, r4.trans hXa, r5.trans hXr, (hXo.callD m false).mono (by omega)⟩
          have hy2 : (Y.callD m false).Calm ∧ (Y.callD m false).arr = E2.arr ∧ (Y.callD m false).row = E2.row ∧ (Y.callD m false).Ok (1000 + (m + 1)) := ⟨s3, s4.trans hYa, s5.trans hYr, (hYo.callD m false).mono (by omega)⟩
          have hal : (E1.shows m).length = 64 := (shows_blk HO1.out (by rw [HL1.out]; exact hmN)).1
          have hbl : (E2.shows m).length = 64 := (shows_blk HO2.out (by rw [HL2.out]; exact hmN)).1
          obtain ⟨a, ha⟩ : ∃ a, a = E1.shows m := ⟨_, rfl⟩
          obtain ⟨b, hb⟩ : ∃ b, b = E2.shows m := ⟨_, rfl⟩
          obtain ⟨hs, hhsE⟩ : ∃ hs, hs = D.hist m := ⟨_, rfl⟩
          obtain ⟨nn, hnn⟩ : ∃ nn, nn = hs.length := ⟨_, rfl⟩
          rw [← hhsE] at hp1 hp2 hpa hpb hl64 hhs c0
          rw [← hnn] at hp1 hp2 c0
          rw [← ha] at hpa hal HRA
          rw [← hb] at hpb hbl HRB
          have HX2 := Lib.hid hx2; have HY2 := Lib.hid hy2; have HUX := Lib.hid huX; have HDY := Lib.hid hDY; have HHS := Lib.hid hhs; have HGF := Lib.hid hgF; have HL64 := Lib.hid hl64; have HPA := Lib.hid hpa; have HPB := Lib.hid hpb; have HAL := Lib.hid hal; have HBL := Lib.hid hbl; have HNN := Lib.hid hnn
          obtain ⟨X2, hX2⟩ : ∃ X2, X2 = X.callD m false := ⟨_, rfl⟩
          obtain ⟨Y2, hY2⟩ : ∃ Y2, Y2 = Y.callD m false := ⟨_, rfl⟩
          rw [← hX2] at HX2 HRA
          rw [← hY2] at HY2 HRB
          have HP : RowKit.Hid (pa ≤ pb ∧ pa < nn ∧ pb < nn) := Lib.hid ⟨hpq, by rw [hnn]; exact (List.getElem?_eq_some_iff.1 hpa).1, by rw [hnn]; exact (List.getElem?_eq_some_iff.1 hpb).1⟩
          have HNL : RowKit.Hid (hs.length ≤ 1000) := Lib.hid (by omega)
          clear hTy hl64 hhs hgF hpa hpb hpq r1 r2 r3 r4 r5 s1 s2 s3 s4 s5 hsx hsy hra hx2 hy2 hal hbl ha hb hhsE hnn hDX hDY hXc hXa hXr hXo hYc hYa hYr hYo huX hX2 hY2
          go_upto_region 19 with fail
          clear c0
          go_wp2_with (go_at_call 42; fail)
          refine HRA.out.mono ?_
          rintro e wz ⟨rfl, hDz, huz⟩
          have HUZ := Lib.hid (HUX.out.trans (huz.mono (fun _ _ e => .inl e))); have HDX := Lib.hid hDz
          have HDY1 := Lib.hid (HDY.out.kept huz (fun k hk e => HF12.out k e hk))
          have HHS1 := Lib.hid (HHS.out.kept huz (fun e => HGF.out (.inl e)))
          have HLA : RowKit.Hid ((bcells a).length = 64) := Lib.hid (by rw [bcells_length]; exact HAL.out)
          have HLB : RowKit.Hid ((bcells b).length = 64) := Lib.hid (by rw [bcells_length]; exact HBL.out)
          have H1A := Lib.hid (all_oneCell_toArray (bcells_one a))
          have H1B := Lib.hid (all_oneCell_toArray (bcells_one b))
          clear hDz huz HRA HUX HDY HHS
          simp only []
          iterate 13 go_step
          obtain ⟨f1, f2, f3⟩ := fresh56e wz (bcells a) HLA.out
          refine wpList_store_mid rfl 56 (.tmp 15) (.tmp 79) rfl wz.heap.size 0 (bcells a).toArray rfl rfl f1 (by rw [Try.info56p]; simp [HLA.out]) H1A.out ?_
          refine (?_ : wpList _ _ _ _ _ ((wz.alloc (.cells (bcells zblk).toArray 56)).setCells wz.heap.size 0 (bcells a)))
          obtain ⟨wA, hwA⟩ : ∃ wA, wA = (wz.alloc (.cells (bcells zblk).toArray 56)).setCells wz.heap.size 0 (bcells a) := ⟨_, rfl⟩
          rw [← hwA] at f2 f3 ⊢
          obtain ⟨ba, hba⟩ : ∃ ba, ba = wz.heap.size := ⟨_, rfl⟩
          have hbaF : ¬ F2 ba := fun e => by have := HDY1.out.lt _ e; omega
          have HBF := Lib.hid hbaF
          rw [← hba] at f2 ⊢
          have HBA := Lib.hid f2
          have HUA := Lib.hid (HUZ.out.trans (f3.mono (fun _ _ e => e.elim)))
          have HDXA := Lib.hid (HDX.out.kept f3 (fun _ _ e => e))
          have HDYA := Lib.hid (HDY1.out.kept f3 (fun _ _ e => e))
          have HHSA := Lib.hid (HHS1.out.kept f3 (fun e => e))
          clear f1 f2 f3 hwA hba hbaF HUZ HDX HDY1 HHS1
          go_wp2_with (go_at_call 42; fail)
          refine (HRB.out wA HDYA.out).mono ?_
          rintro e wz2 ⟨rfl, hDz, huz⟩
          have HUZ := Lib.hid (HUA.out.trans (huz.mono (fun _ _ e => .inr e))); have HDY2 := Lib.hid hDz
          have HDX2 := Lib.hid (HDXA.out.kept huz (fun k hk e => HF12.out k hk e))
          have HHS2 := Lib.hid (HHSA.out.kept huz (fun e => HGF.out (.inr e)))
          have HBA2 := Lib.hid ((huz.block _ (lt_of_heap HBA.out) HBF.out).trans HBA.out)
          clear hDz huz HRB HUA HDXA HDYA HHSA HBA HBF
          simp only []
          iterate 13 go_step
          obtain ⟨f1, f2, f3⟩ := fresh56e wz2 (bcells b) HLB.out
          refine wpList_store_mid rfl 56 (.tmp 17) (.tmp 85) rfl wz2.heap.size 0 (bcells b).toArray rfl rfl f1 (by rw [Try.info56p]; simp [HLB.out]) H1B.out ?_
          refine (?_ : wpList _ _ _ _ _ ((wz2.alloc (.cells (bcells zblk).toArray 56)).setCells wz2.heap.size 0 (bcells b)))
          obtain ⟨wB, hwB⟩ : ∃ wB, wB = (wz2.alloc (.cells (bcells zblk).toArray 56)).setCells wz2.heap.size 0 (bcells b) := ⟨_, rfl⟩
          rw [← hwB] at f2 f3 ⊢
          obtain ⟨bb, hbb⟩ : ∃ bb, bb = wz2.heap.size := ⟨_, rfl⟩
          rw [← hbb] at f2 ⊢
          have HBB := Lib.hid f2
          have HUB := Lib.hid (HUZ.out.trans (f3.mono (fun _ _ e => e.elim)))
          have HDXB := Lib.hid (HDX2.out.kept f3 (fun _ _ e => e))
          have HDYB := Lib.hid (HDY2.out.kept f3 (fun _ _ e => e))
          have HHSB := Lib.hid (HHS2.out.kept f3 (fun e => e))
          have HBAB := Lib.hid ((f3.block _ (lt_of_heap HBA2.out) (fun e => e)).trans HBA2.out)
          clear f1 f2 f3 hwB hbb HUZ HDX2 HDY2 HHS2 HBA2
          obtain ⟨ia, hia⟩ : ∃ ia, ia = idxL a hs := ⟨_, rfl⟩
          obtain ⟨ib, hib⟩ : ∃ ib, ib = idxL b hs.reverse := ⟨_, rfl⟩
          have hrevb : hs.reverse[nn - 1 - pb]? = some b := by
            have := HP.out
            have hnl := HNN.out
            rw [List.getElem?_reverse (by omega), show hs.length - 1 - (nn - 1 - pb) = pb by omega]
            exact HPB.out
          have hia1 := idxL_le HPA.out
          have hib1 := idxL_le hrevb
          rw [← hia] at hia1
          rw [← hib] at hib1
          have hcmp : ¬ (ia > (nn : Int) - 1 - ib) := by have := HP.out; omega
          have hbd : 0 ≤ ia ∧ ia ≤ 1000 ∧ 0 ≤ ib ∧ ib ≤ 1000 := by have := HP.out; omega
          obtain ⟨hbd1, hbd2, hbd3, hbd4⟩ := hbd
          have HCB : RowKit.Hid (∃ k : Nat, hs[k]? = some b) := Lib.hid ⟨pb, HPB.out⟩
          have HCA : RowKit.Hid (∃ k : Nat, hs[k]? = some a) := Lib.hid ⟨pa, HPA.out⟩
          have HIA := Lib.hid hia; have HIB := Lib.hid hib
          have HRL : RowKit.Hid (hs.reverse.length = nn) := Lib.hid (by rw [List.length_reverse, HNN.out])
          clear hia hib hrevb hia1 hib1 HP HPA HPB
          have HCONA : RowKit.Hid (∀ W, HisAt W (g m) (off m) (cap m) hs → Calls Try.prog 58 #[.slice (some ⟨g m, off m, none⟩) nn (cap m), .agg (bcells a).toArray] W fun e w' => e = .returned (.bool true) ∧ Upd (fun _ => False) W w') := Lib.hid (fun W hW => by have := contains_run W hW HL64.out HAL.out HNL.out HCA.out; rw [← HNN.out] at this; exact this)
          have HCONB : RowKit.Hid (∀ W, HisAt W (g m) (off m) (cap m) hs → Calls Try.prog 58 #[.slice (some ⟨g m, off m, none⟩) nn (cap m), .agg (bcells b).toArray] W fun e w' => e = .returned (.bool true) ∧ Upd (fun _ => False) W w') := Lib.hid (fun W hW => by have := contains_run W hW HL64.out HBL.out HNL.out HCB.out; rw [← HNN.out] at this; exact this)
          have HINDA : RowKit.Hid (∀ W, HisAt W (g m) (off m) (cap m) hs → Calls Try.prog 59 #[.slice (some ⟨g m, off m, none⟩) nn (cap m), .agg (bcells a).toArray] W fun e w' => e = .returned (.int .i64 ia) ∧ Upd (fun _ => False) W w') := Lib.hid (fun W hW => by have := index_run W hW HL64.out HAL.out HNL.out; rw [← HNN.out, ← HIA.out] at this; exact this)
          have HREVS : RowKit.Hid (∀ W, HisAt W (g m) (off m) (cap m) hs → Calls Try.prog 60 #[.slice (some ⟨g m, off m, none⟩) nn (cap m)] W fun e w' => ∃ g' c, e = .returned (.slice (some ⟨g', 0, none⟩) nn c) ∧ HisAt w' g' 0 c hs.reverse ∧ Upd (fun _ => False) W w') := Lib.hid (fun W hW => by have := reversed_run W hW HL64.out ⟨by have := HNN.out; omega, HNL.out⟩; rw [← HNN.out] at this; exact this)
          have HINDB : RowKit.Hid (∀ W g' c, HisAt W g' 0 c hs.reverse → Calls Try.prog 59 #[.slice (some ⟨g', 0, none⟩) nn c, .agg (bcells b).toArray] W fun e w' => e = .returned (.int .i64 ib) ∧ Upd (fun _ => False) W w') := Lib.hid (fun W g' c hW => by have := index_run W hW (fun x hx => HL64.out x (List.mem_reverse.1 hx)) HBL.out (by rw [HRL.out]; omega); rw [HRL.out, ← HIB.out] at this; exact this)
          clear HIA HIB HRL HCA HCB
          go_upto_region 23 with fail
          have hA : wB.drew.heap[ba]? = some (.cells (bcells a).toArray 56 (0, 0)) ∧ wB.drew.heap[bb]? = some (.cells (bcells b).toArray 56 (0, 0)) ∧ HisAt wB.drew (g m) (off m) (cap m) hs := ⟨HBAB.out, HBB.out, HHSB.out.kept (G := fun _ => False) ((Upd.refl _ wB).drew) (fun e => e)⟩
          have HUO : RowKit.Hid (Upd (fun _ => False) wB wB.drew) := Lib.hid ((Upd.refl _ wB).drew)
          clear HBAB HBB HHSB
          refine wp_region_G 23 (fun W => W.heap[ba]? = some (.cells (bcells a).toArray 56 (0, 0)) ∧ W.heap[bb]? = some (.cells (bcells b).toArray 56 (0, 0)) ∧ HisAt W (g m) (off m) (cap m) hs) [false, false, false, false, false, false, false, false, false, false, false, false, false, false, false, false, false, false, false, false, false, false, false, false] rfl (by kernel_rfl) ?_
          refine wpG_takeT (i := 0) (v := .slice (some ⟨g m, off m, none⟩) nn (cap m)) rfl (fun L hc h => (hc.waits (n := 23) (i := 10) (by kernel_rfl) (hc.waits (n := 10) (i := 9) (by kernel_rfl) (hc.waits (n := 9) (i := 4) (by kernel_rfl) (hc.waits (n := 4) (i := 3) (by kernel_rfl) (hc.waits (n := 3) (i := 2) (by kernel_rfl) (hc.waits (n := 2) (i := 0) (by kernel_rfl) h))))))) (by kernel_rfl) (fun _ _ _ h => h) hA (.inl ⟨rfl, fun w5 q1 => ?_⟩) ?_
          · go_simp
          simp only [Act.put, List.setIfInBounds_toArray, List.set]
          refine wpG_takeT (i := 1) (v := .agg (bcells a).toArray) rfl (fun L hc h => (hc.waits (n := 23) (i := 10) (by kernel_rfl) (hc.waits (n := 10) (i := 9) (by kernel_rfl) (hc.waits (n := 9) (i := 4) (by kernel_rfl) (hc.waits (n := 4) (i := 3) (by kernel_rfl) (hc.waits (n := 3) (i := 2) (by kernel_rfl) (hc.waits (n := 2) (i := 1) (by kernel_rfl) h))))))) (by kernel_rfl) (fun _ _ _ h => h) hA (.inl ⟨rfl, fun w5 q1 => ?_⟩) ?_
          · exact run_load_mid' rfl rfl (bcells a) (rangeAt_block q1.1) Try.underlying56 rfl (by rw [Try.info56p, HLA.out])
          simp only [Act.put, List.setIfInBounds_toArray, List.set]
          refine wpG_do (i := 2) rfl (by kernel_rfl) rfl (fun K hK => ?_)
          have HKK := Lib.hid hK
          clear hK
          go_step
          refine (HCONA.out wB.drew hA.2.2).mono ?_
          rintro e wS2 ⟨rfl, huS⟩
          have hA : wS2.heap[ba]? = some (.cells (bcells a).toArray 56 (0, 0)) ∧ wS2.heap[bb]? = some (.cells (bcells b).toArray 56 (0, 0)) ∧ HisAt wS2 (g m) (off m) (cap m) hs := ⟨(huS.block _ (lt_of_heap hA.1) (fun e => e)).trans hA.1, (huS.block _ (lt_of_heap hA.2.1) (fun e => e)).trans hA.2.1, hA.2.2.kept huS (fun e => e)⟩
          have HU_2 : RowKit.Hid (Upd (fun _ => False) wB wS2) := Lib.hid (HUO.out.trans huS)
          clear HUO
          have HUO := HU_2
          clear huS HU_2
          simp only []
          refine HKK.out _ _ hA ?_
          clear HKK
          simp only [List.setIfInBounds_toArray, List.set]
          refine wpG_takeT (i := 3) (v := .bool false) rfl (fun L hc h => (hc.waits (n := 23) (i := 10) (by kernel_rfl) (hc.waits (n := 10) (i := 9) (by kernel_rfl) (hc.waits (n := 9) (i := 4) (by kernel_rfl) (hc.waits (n := 4) (i := 3) (by kernel_rfl) h))))) (by kernel_rfl) (fun _ _ _ h => h) hA (.inl ⟨rfl, fun w5 q1 => ?_⟩) ?_
          · go_simp
          simp only [Act.put, List.setIfInBounds_toArray, List.set]
          refine wpG_takeT (i := 4) (v := .bool false) rfl (fun L hc h => (hc.waits (n := 23) (i := 10) (by kernel_rfl) (hc.waits (n := 10) (i := 9) (by kernel_rfl) (hc.waits (n := 9) (i := 4) (by kernel_rfl) h)))) (by kernel_rfl) (fun _ _ _ h => h) hA (.inl ⟨rfl, fun w5 q1 => ?_⟩) ?_
          · go_simp
          simp only [Act.put, List.setIfInBounds_toArray, List.set]
          refine wpG_takeT (i := 5) (v := .slice (some ⟨g m, off m, none⟩) nn (cap m)) rfl (fun L hc h => (hc.waits (n := 23) (i := 10) (by kernel_rfl) (hc.waits (n := 10) (i := 9) (by kernel_rfl) (hc.waits (n := 9) (i := 8) (by kernel_rfl) (hc.waits (n := 8) (i := 7) (by kernel_rfl) (hc.waits (n := 7) (i := 5) (by kernel_rfl) h)))))) (by kernel_rfl) (fun _ _ _ h => h) hA (.inl ⟨rfl, fun w5 q1 => ?_⟩) ?_
          · go_simp
          simp only [Act.put, List.setIfInBounds_toArray, List.set]
          refine wpG_takeT (i := 6) (v := .agg (bcells b).toArray) rfl (fun L hc h => (hc.waits (n := 23) (i := 10) (by kernel_rfl) (hc.waits (n := 10) (i := 9) (by kernel_rfl) (hc.waits (n := 9) (i := 8) (by kernel_rfl) (hc.waits (n := 8) (i := 7) (by kernel_rfl) (hc.waits (n := 7) (i := 6) (by kernel_rfl) h)))))) (by kernel_rfl) (fun _ _ _ h => h) hA (.inl ⟨rfl, fun w5 q1 => ?_⟩) ?_
          · exact run_load_mid' rfl rfl (bcells b) (rangeAt_block q1.2.1) Try.underlying56 rfl (by rw [Try.info56p, HLB.out])
          simp only [Act.put, List.setIfInBounds_toArray, List.set]
          refine wpG_doIf (i := 7) rfl (by kernel_rfl) rfl (fun K hK => ?_)
          have HKK := Lib.hid hK
          clear hK
          go_step
          refine (HCONB.out wS2 hA.2.2).mono ?_
          rintro e wS7 ⟨rfl, huS⟩
          have hA : wS7.heap[ba]? = some (.cells (bcells a).toArray 56 (0, 0)) ∧ wS7.heap[bb]? = some (.cells (bcells b).toArray 56 (0, 0)) ∧ HisAt wS7 (g m) (off m) (cap m) hs := ⟨(huS.block _ (lt_of_heap hA.1) (fun e => e)).trans hA.1, (huS.block _ (lt_of_heap hA.2.1) (fun e => e)).trans hA.2.1, hA.2.2.kept huS (fun e => e)⟩
          have HU_7 : RowKit.Hid (Upd (fun _ => False) wB wS7) := Lib.hid (HUO.out.trans huS)
          clear HUO
          have HUO := HU_7
          clear huS HU_7
          simp only []
          refine HKK.out _ _ hA ?_
          clear HKK
          simp only [List.setIfInBounds_toArray, List.set]
          refine wpG_takeT (i := 8) (v := .bool false) rfl (fun L hc h => (hc.waits (n := 23) (i := 10) (by kernel_rfl) (hc.waits (n := 10) (i := 9) (by kernel_rfl) (hc.waits (n := 9) (i := 8) (by kernel_rfl) h)))) (by kernel_rfl) (fun _ _ _ h => h) hA (.inl ⟨rfl, fun w5 q1 => ?_⟩) ?_
          · go_simp
          simp only [Act.put, List.setIfInBounds_toArray, List.set]
          refine wpG_takeT (i := 9) (v := .bool false) rfl (fun L hc h => (hc.waits (n := 23) (i := 10) (by kernel_rfl) (hc.waits (n := 10) (i := 9) (by kernel_rfl) h))) (by kernel_rfl) (fun _ _ _ h => h) hA (.inl ⟨rfl, fun w5 q1 => ?_⟩) ?_
          · go_simp
          simp only [Act.put, List.setIfInBounds_toArray, List.set]
          refine wpG_takeT (i := 10) (v := .bool false) rfl (fun L hc h => (hc.waits (n := 23) (i := 10) (by kernel_rfl) h)) (by kernel_rfl) (fun _ _ _ h => h) hA (.inl ⟨rfl, fun w5 q1 => ?_⟩) ?_
          · go_simp
          simp only [Act.put, List.setIfInBounds_toArray, List.set]
          refine wpG_takeT (i := 11) (v := .slice (some ⟨g m, off m, none⟩) nn (cap m)) rfl (fun L hc h => (hc.waits (n := 23) (i := 22) (by kernel_rfl) (hc.waits (n := 22) (i := 13) (by kernel_rfl) (hc.waits (n := 13) (i := 11) (by kernel_rfl) h)))) (by kernel_rfl) (fun _ _ _ h => h) hA (.inl ⟨rfl, fun w5 q1 => ?_⟩) ?_
          · go_simp
          simp only [Act.put, List.setIfInBounds_toArray, List.set]
          refine wpG_takeT (i := 12) (v := .agg (bcells a).toArray) rfl (fun L hc h => (hc.waits (n := 23) (i := 22) (by kernel_rfl) (hc.waits (n := 22) (i := 13) (by kernel_rfl) (hc.waits (n := 13) (i := 12) (by kernel_rfl) h)))) (by kernel_rfl) (fun _ _ _ h => h) hA (.inl ⟨rfl, fun w5 q1 => ?_⟩) ?_
          · exact run_load_mid' rfl rfl (bcells a) (rangeAt_block q1.1) Try.underlying56 rfl (by rw [Try.info56p, HLA.out])
          simp only [Act.put, List.setIfInBounds_toArray, List.set]
          refine wpG_takeT (i := 14) (v := .slice (some ⟨g m, off m, none⟩) nn (cap m)) rfl (fun L hc h => (hc.waits (n := 23) (i := 22) (by kernel_rfl) (hc.waits (n := 22) (i := 21) (by kernel_rfl) (hc.waits (n := 21) (i := 16) (by kernel_rfl) (hc.waits (n := 16) (i := 15) (by kernel_rfl) (hc.waits (n := 15) (i := 14) (by kernel_rfl) h)))))) (by kernel_rfl) (fun _ _ _ h => h) hA (.inl ⟨rfl, fun w5 q1 => ?_⟩) ?_
          · go_simp
          simp only [Act.put, List.setIfInBounds_toArray, List.set]
          refine wpG_takeT (i := 15) (v := .int .i64 nn) rfl (fun L hc h => (hc.waits (n := 23) (i := 22) (by kernel_rfl) (hc.waits (n := 22) (i := 21) (by kernel_rfl) (hc.waits (n := 21) (i := 16) (by kernel_rfl) (hc.waits (n := 16) (i := 15) (by kernel_rfl) h))))) (by kernel_rfl) (fun _ _ _ h => h) hA (.inl ⟨rfl, fun w5 q1 => ?_⟩) ?_
          · go_simp
          simp only [Act.put, List.setIfInBounds_toArray, List.set]
          refine wpG_takeT (i := 16) (v := .int .i64 (nn - 1)) rfl (fun L hc h => (hc.waits (n := 23) (i := 22) (by kernel_rfl) (hc.waits (n := 22) (i := 21) (by kernel_rfl) (hc.waits (n := 21) (i := 16) (by kernel_rfl) h)))) (by kernel_rfl) (fun _ _ _ h => h) hA (.inl ⟨rfl, fun w5 q1 => ?_⟩) ?_
          · go_simp; rw [IntKind.wrap_i64]; omega
          simp only [Act.put, List.setIfInBounds_toArray, List.set]
          refine wpG_takeT (i := 17) (v := .slice (some ⟨g m, off m, none⟩) nn (cap m)) rfl (fun L hc h => (hc.waits (n := 23) (i := 22) (by kernel_rfl) (hc.waits (n := 22) (i := 21) (by kernel_rfl) (hc.waits (n := 21) (i := 20) (by kernel_rfl) (hc.waits (n := 20) (i := 18) (by kernel_rfl) (hc.waits (n := 18) (i := 17) (by kernel_rfl) h)))))) (by kernel_rfl) (fun _ _ _ h => h) hA (.inl ⟨rfl, fun w5 q1 => ?_⟩) ?_
          · go_simp
          simp only [Act.put, List.setIfInBounds_toArray, List.set]
          refine wpG_takeT (i := 19) (v := .agg (bcells b).toArray) rfl (fun L hc h => (hc.waits (n := 23) (i := 22) (by kernel_rfl) (hc.waits (n := 22) (i := 21) (by kernel_rfl) (hc.waits (n := 21) (i := 20) (by kernel_rfl) (hc.waits (n := 20) (i := 19) (by kernel_rfl) h))))) (by kernel_rfl) (fun _ _ _ h => h) hA (.inl ⟨rfl, fun w5 q1 => ?_⟩) ?_
          · exact run_load_mid' rfl rfl (bcells b) (rangeAt_block q1.2.1) Try.underlying56 rfl (by rw [Try.info56p, HLB.out])
          simp only [Act.put, List.setIfInBounds_toArray, List.set]
          refine wpG_doIf (i := 13) rfl (by kernel_rfl) rfl (fun K hK => ?_)
          have HKK := Lib.hid hK
          clear hK
          go_step
          refine (HINDA.out wS7 hA.2.2).mono ?_
          rintro e wS13 ⟨rfl, huS⟩
          have hA : wS13.heap[ba]? = some (.cells (bcells a).toArray 56 (0, 0)) ∧ wS13.heap[bb]? = some (.cells (bcells b).toArray 56 (0, 0)) ∧ HisAt wS13 (g m) (off m) (cap m) hs := ⟨(huS.block _ (lt_of_heap hA.1) (fun e => e)).trans hA.1, (huS.block _ (lt_of_heap hA.2.1) (fun e => e)).trans hA.2.1, hA.2.2.kept huS (fun e => e)⟩
          have HU_13 : RowKit.Hid (Upd (fun _ => False) wB wS13) := Lib.hid (HUO.out.trans huS)
          clear HUO
          have HUO := HU_13
          clear huS HU_13
          simp only []
          refine HKK.out _ _ hA ?_
          clear HKK
          simp only [List.setIfInBounds_toArray, List.set]
          refine wpG_doIf (i := 18) rfl (by kernel_rfl) rfl (fun K hK => ?_)
          have HKK := Lib.hid hK
          clear hK
          go_step
          refine (HREVS.out wS13 hA.2.2).mono ?_
          rintro e wS18 ⟨g', c', rfl, hRV, huS⟩
          have hA : wS18.heap[ba]? = some (.cells (bcells a).toArray 56 (0, 0)) ∧ wS18.heap[bb]? = some (.cells (bcells b).toArray 56 (0, 0)) ∧ HisAt wS18 (g m) (off m) (cap m) hs := ⟨(huS.block _ (lt_of_heap hA.1) (fun e => e)).trans hA.1, (huS.block _ (lt_of_heap hA.2.1) (fun e => e)).trans hA.2.1, hA.2.2.kept huS (fun e => e)⟩
          have HU_18 : RowKit.Hid (Upd (fun _ => False) wB wS18) := Lib.hid (HUO.out.trans huS)
          clear HUO
          have HUO := HU_18
          clear huS HU_18
          have HRV := Lib.hid hRV
          clear hRV
          simp only []
          refine HKK.out _ _ hA ?_
          clear HKK
          simp only [List.setIfInBounds_toArray, List.set]
          refine wpG_doIf (i := 20) rfl (by kernel_rfl) rfl (fun K hK => ?_)
          have HKK := Lib.hid hK
          clear hK
          go_step
          refine (HINDB.out wS18 g' c' HRV.out).mono ?_
          rintro e wS20 ⟨rfl, huS⟩
          have hA : wS20.heap[ba]? = some (.cells (bcells a).toArray 56 (0, 0)) ∧ wS20.heap[bb]? = some (.cells (bcells b).toArray 56 (0, 0)) ∧ HisAt wS20 (g m) (off m) (cap m) hs := ⟨(huS.block _ (lt_of_heap hA.1) (fun e => e)).trans hA.1, (huS.block _ (lt_of_heap hA.2.1) (fun e => e)).trans hA.2.1, hA.2.2.kept huS (fun e => e)⟩
          have HU_20 : RowKit.Hid (Upd (fun _ => False) wB wS20) := Lib.hid (HUO.out.trans huS)
          clear HUO
          have HUO := HU_20
          clear huS HU_20
          simp only []
          refine HKK.out _ _ hA ?_
          clear HKK
          simp only [List.setIfInBounds_toArray, List.set]
          refine wpG_takeT (i := 21) (v := .int .i64 (nn - 1 - ib)) rfl (fun L hc h => (hc.waits (n := 23) (i := 22) (by kernel_rfl) (hc.waits (n := 22) (i := 21) (by kernel_rfl) h))) (by kernel_rfl) (fun _ _ _ h => h) hA (.inl ⟨rfl, fun w5 q1 => ?_⟩) ?_
          · go_simp; rw [IntKind.wrap_i64]; omega
          simp only [Act.put, List.setIfInBounds_toArray, List.set]
          refine wpG_takeT (i := 22) (v := .bool false) rfl (fun L hc h => (hc.waits (n := 23) (i := 22) (by kernel_rfl) h)) (by kernel_rfl) (fun _ _ _ h => h) hA (.inl ⟨rfl, fun w5 q1 => ?_⟩) ?_
          · go_simp
          simp only [Act.put, List.setIfInBounds_toArray, List.set]
          refine wpG_tail_lit (k := 23) rfl rfl (by kernel_rfl) ?_
          simp only [List.drop]
          have hst : ReadSt2 w8 p c F1 F2 E1 E2 (m + 1) wS20 := ⟨X2, Y2, HDXB.out.kept HUO.out (fun _ _ e => e), HDYB.out.kept HUO.out (fun _ _ e => e), HX2.out.1, HX2.out.2.1, HX2.out.2.2.1, HX2.out.2.2.2, HY2.out.1, HY2.out.2.1, HY2.out.2.2.1, HY2.out.2.2.2, HUB.out.trans (HUO.out.mono (fun _ _ e => e.elim))⟩
          have HST2 := Lib.hid hst
          clear hst hA HUO HDXB HDYB HUB
          go_wp2
          go_roundg (N - (m + 1))
          case measure => omega
          case rel => exact ⟨m + 1, by omega, rfl, congrArg _ (by omega), HST2.out⟩
        · obtain rfl : m = N := by omega
          have HFIN := Lib.hid (HU8.out.step huX (fun k hk e => by
            rcases e with e | e
            · have := HF1W.out k e; omega
            · have := HF2W.out k e; omega))
          clear hDX hDY hXc hXa hXr hXo hYc hYa hYr hYo huX
          go_wp2
          go_ret
          exact ⟨rfl, HFIN.out⟩

end Go.Proofs.Ytbimkhdiplnbfaa
