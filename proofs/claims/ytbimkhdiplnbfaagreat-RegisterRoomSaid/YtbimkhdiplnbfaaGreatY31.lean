/- Walks: told. -/
import Derived.Test.YtbimkhdiplnbfaaGreatY27
set_option linter.unusedVariables false
set_option linter.unusedSimpArgs false

section
namespace Go.Proofs.YtbimkhdiplnbfaaGreat
set_option maxRecDepth 100000
open Go.RowKit Go.Shelf


theorem size62 : (Tryz.prog.info? 62).map (·.size) = some 2 := by kernel_rfl
theorem ValRow.low {w : World} {B B' : Nat} {C : Nat → Prop} {sv : Value} {l : KV} (h : ValRow w B C sv l) (hb : B' ≤ B) : ValRow w B' C sv l := by
  obtain ⟨L, h0, h1, h2⟩ := h
  exact ⟨L, h0, ownsRow_base_a h1 hb, h2⟩
theorem ValRow.low_own {w : World} {B : Nat} {C : Nat → Prop} {sv : Value} {l : KV} (h : ValRow w B C sv l) {k : Nat} (hk : sv.ownBlock = some k) : B ≤ k := by
  obtain ⟨L, h0, h1, h2⟩ := h
  exact (World.ownsRow.lt h1 k hk).1

/-- What a register tells. -/
def ToldAns (w : World) (ev : Int) (l : KV) (e : Ending) (w' : World) : Prop := ∃ a c C, e = .returned (.tuple #[.agg #[.int .u64 ev, .slice a l.length c], .bool true]) ∧ ValRow w' w.heap.size C (.slice a l.length c) l ∧ (∀ k, C k → w.heap.size ≤ k) ∧ RowC w' C ∧ Upd (fun _ => False) w w'

/-- What holds between the rounds of told. -/
structure TlAt (w3 : World) (sb : Nat) (ev : Int) (l : KV) (k : Nat) (W : World) : Prop where
  out : ∃ (a : Option Addr) (c : Nat) (C : Nat → Prop), W.heap[sb]? = some (.cells #[.int .u64 ev, .slice a k c] 62 (0, 0)) ∧ ValRow W w3.heap.size C (.slice a k c) (l.take k) ∧ (∀ j, C j → w3.heap.size ≤ j) ∧ RowC W C
  upd : Upd (fun j => j = sb) w3 W

set_option maxHeartbeats 8000000 in
theorem told_any {r b n : Nat} {C : Nat → Prop} {lg : Value} {ev area : Int} {l : KV} (w : World) (h : RegAt w r lg ev (.map (some b)) area) (hm : MapKV w b n C l) (hl : l.Fine) :
    Calls Tryz.prog 30 #[.pointer (some ⟨r, 0, none⟩)] w (ToldAns w ev l) := by
  obtain ⟨w1, hw1⟩ : ∃ w1, w1 = w.alloc (.cells #[.int .u64 0, .slice none 0 0] 62) := ⟨_, rfl⟩
  have hu1 : Upd (fun _ => False) w w1 := by rw [hw1]; exact (Upd.refl _ w).alloc _
  have hx1 : w1.heap[w.heap.size]? = some (.cells #[.int .u64 0, .slice none 0 0] 62 (0, 0)) := by rw [hw1]; exact alloc_at rfl
  have hz1 : w1.heap.size = w.heap.size + 1 := by rw [hw1]; simp
  have hr1 : RegAt w1 r lg ev (.map (some b)) area := (hu1.block _ (lt_of_heap h) (fun e => e)).trans h
  have hm1 := hm.kept0 hu1
  have HR := Lib.hid hr1; have HM := Lib.hid hm1; have HL := Lib.hid hl; have HW1 := Lib.hid hw1; have HU1 := Lib.hid hu1; have HX1 := Lib.hid hx1; have HZ1 := Lib.hid hz1
  have HRL := Lib.hid (lt_of_heap h); have HBL := Lib.hid hm.lt; have HCL := Lib.hid hm.1.rowC.lt
  clear h hm hl hw1 hu1 hx1 hz1 hr1 hm1
  go_enter Tryz.func30, Tryz.ntmps30
  go_upto_region 1 with fail
  rw [← HW1.out]
  go_wp2_with (go_at_call 36; fail)
  refine (epoch_any w1 HR.out).mono ?_
  rintro e w2 ⟨rfl, rfl⟩
  simp only []
  go_wp2_with (go_at_call 37; fail)
  obtain ⟨w2, hw2⟩ : ∃ w2, w2 = w1.alloc (.cells #[.int .u64 ev, .slice none 0 0] 62) := ⟨_, rfl⟩
  rw [← hw2]
  have hu2 : Upd (fun _ => False) w1 w2 := by rw [hw2]; exact (Upd.refl _ w1).alloc _
  have hx2 : w2.heap[w1.heap.size]? = some (.cells #[.int .u64 ev, .slice none 0 0] 62 (0, 0)) := by rw [hw2]; exact alloc_at rfl
  have hz2 : w2.heap.size = w1.heap.size + 1 := by rw [hw2]; simp
  refine (names_any w2 ((hu2.block _ (lt_of_heap HR.out) (fun e => e)).trans HR.out) (HM.out.kept0 hu2) (by have := HL.out.len; omega)).mono ?_
  rintro e w3 ⟨v, rfl, hrow, hu3⟩
  obtain ⟨sa, sc, rfl⟩ := rowV hrow
  simp only []
  have hu13 := hu2.trans hu3
  have hx3 := (hu3.block _ (lt_of_heap hx2) (fun e => e)).trans hx2
  have HX3 := Lib.hid hx3
  have HXT := Lib.hid ((hu13.block _ (lt_of_heap HX1.out) (fun e => e)).trans HX1.out)
  have HR3 := Lib.hid ((hu13.block _ (lt_of_heap HR.out) (fun e => e)).trans HR.out)
  have HM3 := Lib.hid (HM.out.kept0 hu13)
  have HU3 := Lib.hid (HU1.out.trans hu13)
  have HROW := Lib.hid hrow
  have HSZ := Lib.hid (show w.heap.size < w1.heap.size ∧ w1.heap.size < w2.heap.size ∧ w2.heap.size ≤ w3.heap.size by have := HZ1.out; have := hu3.size; omega)
  have HD := Lib.hid (show TlAt w3 w1.heap.size ev l 0 w3 from ⟨⟨none, 0, fun _ => False, hx3, ValRow.nil _ _ _, fun _ e => e.elim, fun _ e => e.elim⟩, Upd.refl _ _⟩)
  obtain ⟨sb, hsb⟩ : ∃ sb, sb = w1.heap.size := ⟨_, rfl⟩
  obtain ⟨tb, htb⟩ : ∃ tb, tb = w.heap.size := ⟨_, rfl⟩
  rw [← hsb] at HX3 HSZ HD
  rw [← htb] at HXT HSZ HRL HBL HCL
  rw [← hsb, ← htb]
  have HTB := Lib.hid htb
  clear hw2 hu2 hx2 hz2 hrow hu3 hu13 hx3 hsb htb HW1 HX1 HZ1 HR HM
  go_upto_block 0 with fail
  go_upto_region 3 with fail
  go_loopg [17] l.length (fun gk i wr => ∃ k : Nat, k ≤ l.length ∧ gk = l.length - k ∧ i = .int .i64 k ∧ TlAt w3 sb ev l k wr)
  case atStart => exact ⟨0, Nat.zero_le _, rfl, rfl, HD.out⟩
  case round =>
    obtain ⟨k, hk, rfl, rfl, hd⟩ := hrel
    have HD := Lib.hid hd
    clear hd
    by_cases hkn : k < l.length
    · have hkni : (k : Int) < l.length := by omega
      obtain ⟨p, hp⟩ : ∃ p, l[k]? = some p := ⟨_, List.getElem?_eq_getElem hkn⟩
      have hpm := List.mem_of_getElem? hp
      have HP := Lib.hid hp
      have HEA := Lib.hid (HL.out.each p hpm)
      have hget : l.get p.1 = some p.2 := (KV.get_some HL.out.rising).2 hpm
      have hupd := HD.out.upd
      have hrow' := ownsRow_any HROW.out hupd (fun j hj e => by have := (World.ownsRow.lt HROW.out j hj).1; have := HSZ.out; omega)
      obtain ⟨g, rfl, hcell⟩ := row_cell hrow' (k := k) (u := .string p.1) (by rw [List.getElem?_map, hp]; rfl)
      have hmk := HM3.out.kept hupd (fun e => by have := HBL.out; have := HSZ.out; omega) (fun j hj e => by have := HCL.out j hj; have := HSZ.out; omega)
      have hrk : RegAt wr r lg ev (.map (some b)) area := (hupd.block _ (lt_of_heap HR3.out) (fun e => by have := HRL.out; have := HSZ.out; omega)).trans HR3.out
      have HV := Lib.hid (value_any (s := p.1) wr hrk hmk.1 (by have := HEA.out; unfold maxLen; omega) (by rw [hget]; have := HEA.out; simp; omega))
      rw [hget] at HV
      simp only [Option.getD_some, Option.isSome_some] at HV
      clear hpm hget hupd hrow' hmk hrk hp
      go_wp2_with (go_at_call 34; fail)
      refine HV.out.mono ?_
      rintro e w4 ⟨u, rfl, g1, g2⟩
      obtain ⟨va, vc, rfl⟩ := g1.slice'
      simp only []
      obtain ⟨la, lc, C0, ho1, ho2, ho3, ho4⟩ := HD.out.out
      have hob4 := (g2.block _ (lt_of_heap ho1) (fun e => e)).trans ho1
      have hrw4 := ho2.kept g2 (fun _ _ e => e) (fun _ _ e => e)
      obtain ⟨y0, y1⟩ := cells2_of hob4
      have hby := g1.bytesAt
      have HOB := Lib.hid hob4; have HRW := Lib.hid hrw4; have HCB := Lib.hid ho3; have HRC := Lib.hid (ho4.kept g2 (fun _ _ e => e)); have HG1 := Lib.hid hby; have HG2 := Lib.hid g2
      have HWR := Lib.hid (show w3.heap.size ≤ wr.heap.size from HD.out.upd.size)
      clear hob4 hrw4 hby ho1 ho2 ho3 ho4 g1 g2 HV
      go_upto_region 8 with fail
      iterate 19 go_step
      obtain ⟨L, hLm, hLo, hLb⟩ := HRW.out
      have hwl : (l.take k).length = k := by simp; omega
      rw [hwl] at hLo
      have hLl := hLo.lt
      have hz9 : sb < w4.heap.size := lt_of_heap HOB.out
      have hel : vC (p, .slice va p.2.length vc) = [.string p.1, .slice va p.2.length vc] := rfl
      obtain ⟨i0, hi0, hz0, hz1, hz2⟩ := info_parts Tryz.info164p
      refine wpList_append_lies _ rfl (.tmp 31) (.tmp 35) 60 rfl w3.heap.size 164 i0 _ 2 40 Tryz.underlying60 hi0 hz0 hz1 hz2 rfl (by omega) (.slice la k lc) _ _ rfl (hLo.alloc _) ⟨w4.heap.size, 0, none⟩ 1 1 (vC (p, .slice va p.2.length vc)) rfl
        rfl (World.news_of_block (cs := (vC (p, .slice va p.2.length vc)).toArray) (t := 164) (fr := (0, 0)) (by rw [hel]; exact heap_alloc_new _ _)) (by rw [hel]; simp [Value.oneCell']) (by omega) (by unfold maxLen; have := HL.out.len; omega) (by have := HL.out.len; omega) (by have := HG2.out.size; have := HWR.out; simp; omega) (w4.heap.size + 1) (by simp) ?_
      intro g' cap w16 hown hgrow hat hlt
      have hu16 : Upd (fun k' => (Value.slice la k lc).ownBlock = some k') w4 w16 := ((Upd.refl _ w4).alloc _).trans (Upd.of_grown hgrow (fun k hk => hk))
      have hob10 := (hu16.block _ hz9 (fun e => by have := (hLl sb e).1; have := HSZ.out; omega)).trans HOB.out
      have hgob : w3.heap.size ≤ g' := by
        have := HG2.out.size; have := HWR.out
        rcases hat with e | e
        · exact (hLl g' e).1
        · omega
      obtain ⟨y0, y1⟩ := cells2_of hob10
      have g2 : w16.frozen? ⟨sb, 1, none⟩ = false := frozen_of_heap hob10
      have hapart : ∀ D : Nat → Prop, RowC w4 D → ∀ j, D j → ¬ (Value.slice la k lc).ownBlock = some j := fun D hD j hj e => by
        obtain ⟨cs, q⟩ := hD j hj
        have hrv : ValRow w4 w3.heap.size C0 (.slice la k lc) (l.take k) := HRW.out
        obtain ⟨cs', q'⟩ := hrv.block164 e
        rw [q] at q'
        injection q' with q'
        injection q' with _ q'
        exact absurd q' (by decide)
      have hc0 := hapart _ HRC.out
      have hc1 := hapart _ HG1.out.2.1
      have htk : l.take (k + 1) = l.take k ++ [p] := by
        obtain ⟨h1, h2⟩ := List.getElem?_eq_some_iff.1 HP.out
        rw [List.take_succ_eq_append_getElem h1, h2]
      have hrow16 : ValRow w16 w3.heap.size (fun j => C0 j ∨ (Value.slice va p.2.length vc).ownBlock = some j) (.slice (some ⟨g', 0, none⟩) (k + 1) cap) (l.take (k + 1)) := by
        refine ⟨L ++ [(p, .slice va p.2.length vc)], by rw [List.map_append, hLm, htk]; rfl, ?_, fun y hy => ?_⟩
        · rw [List.flatMap_append, htk, List.length_append, hwl]
          simpa using hown
        · rw [List.mem_append] at hy
          rcases hy with hy | hy
          · exact ((hLb y hy).kept hu16 hc0).mono (fun _ e => .inl e)
          · simp only [List.mem_singleton] at hy
            subst hy
            exact (HG1.out.1.kept hu16 hc1).mono (fun _ e => .inr e)
      have hrc16 : RowC w16 (fun j => C0 j ∨ (Value.slice va p.2.length vc).ownBlock = some j) := fun j hj => by
        rcases hj with hj | hj
        · exact HRC.out.kept hu16 hc0 j hj
        · exact HG1.out.2.1.kept hu16 hc1 j hj
      have HNEW := Lib.hid hrow16; have HRC16 := Lib.hid hrc16; have HOB10 := Lib.hid hob10; have HU16 := Lib.hid hu16; have HLLT := Lib.hid hLl; have HGOB := Lib.hid hgob
      clear hrow16 hrc16 hob10 hu16 hown hgrow hat hi0 hz0 hz1 hz2 hLm hLo hLb hLl hel hgob hc0 hc1 hapart htk
      have hcv2 : IntKind.i64.wrap ((k : Int) + 1) = (k : Int) + 1 := by rw [IntKind.wrap_i64]; have := HL.out.len; omega
      go_wp2
      obtain ⟨w17, hw17⟩ : ∃ w17, w17 = w16.setCell ⟨sb, 1, none⟩ (.slice (some ⟨g', 0, none⟩) (k + 1) cap) := ⟨_, rfl⟩
      rw [← hw17]
      have hu17 : Upd (fun k => k = sb) w16 w17 := by rw [hw17]; exact upd_own w16 sb 1 _
      have hob17 : w17.heap[sb]? = some (.cells #[.int .u64 ev, .slice (some ⟨g', 0, none⟩) (k + 1) cap] 62 (0, 0)) := by
        rw [hw17]
        have := blk_set (i := 1) (v := .slice (some ⟨g', 0, none⟩) (k + 1) cap) HOB10.out
        simpa using this
      have hnsb : ∀ j, (C0 j ∨ (Value.slice va p.2.length vc).ownBlock = some j) → w3.heap.size ≤ j := fun j hj => by
        rcases hj with hj | hj
        · exact HCB.out j hj
        · have := HG1.out.2.2 j hj; have := HWR.out; omega
      have hdc : TlAt w3 sb ev l (k + 1) w17 := by
        refine ⟨⟨_, _, _, hob17, HNEW.out.kept hu17 (fun j hj e => by simp [Value.ownBlock] at hj; have := HGOB.out; have := HSZ.out; omega) (fun j hj e => by have := hnsb j hj; have := HSZ.out; omega), hnsb, HRC16.out.kept hu17 (fun j hj e => by have := hnsb j hj; have := HSZ.out; omega)⟩, ?_⟩
        exact ((HD.out.upd.trans (HG2.out.mono (F := fun _ => False) (fun _ _ e => e.elim))).step HU16.out (fun j hj e => by have := (HLLT.out j e).1; omega)).trans hu17
      go_roundg (l.length - (k + 1))
      case measure => omega
      case rel => exact ⟨k + 1, by omega, rfl, congrArg _ (by omega), hdc⟩
    · obtain rfl : k = l.length := by omega
      obtain ⟨la, lc, C0, ho1, ho2, ho3, ho4⟩ := HD.out.out
      rw [List.take_length] at ho2
      have HV1 := Lib.hid ho1; have HV2 := Lib.hid ho2; have HV3 := Lib.hid ho3; have HV4 := Lib.hid ho4
      have hupd := HD.out.upd
      have hrk : RegAt wr r lg ev (.map (some b)) area := (hupd.block _ (lt_of_heap HR3.out) (fun e => by have := HRL.out; have := HSZ.out; omega)).trans HR3.out
      have hmk := HM3.out.kept hupd (fun e => by have := HBL.out; have := HSZ.out; omega) (fun j hj e => by have := HCL.out j hj; have := HSZ.out; omega)
      have HRK := Lib.hid hrk; have HMK := Lib.hid hmk
      clear ho1 ho2 ho3 ho4 hupd hrk hmk
      have hmk : (Instr.makeSlice 39 (.int .i64 25) (.int .i64 25)).run Tryz.prog wr = .ok (.slice (some ⟨wr.heap.size, 0, none⟩) 25 25) (wr.alloc (.cells (madeCells #[.int .u8 0] 25) 5)) :=
        run_make_row' (P := Tryz.prog) 39 5 (.int .u8 0) 1 Tryz.underlying39 Tryz.info5p rfl .i64 .i64 25 (by omega) (by omega) wr
      have hcs := conv_str (zs_in wr 25 (by omega))
      obtain ⟨s9, hs9⟩ : ∃ s, s = strOfNums (zs 25) := ⟨_, rfl⟩
      have hsz9 : s9.size = 25 := by rw [hs9, strOfNums_size]; simp [zs]
      rw [← hs9] at hcs
      clear hs9
      have hget : l.get s9 = none := by
        cases e : l.get s9 with
        | none => rfl
        | some v =>
          have := (HL.out.each _ ((KV.get_some HL.out.rising).1 e)).2.1
          simp only at this
          omega
      obtain ⟨w5, hw5⟩ : ∃ w5, w5 = wr.alloc (.cells (madeCells #[.int .u8 0] 25) 5) := ⟨_, rfl⟩
      have hu5 : Upd (fun _ => False) wr w5 := by rw [hw5]; exact (Upd.refl _ wr).alloc _
      rw [← hw5] at hmk hcs
      clear hw5
      have HV := Lib.hid (value_any (s := s9) w5 ((hu5.block _ (lt_of_heap HRK.out) (fun e => e)).trans HRK.out) (HMK.out.kept0 hu5).1 (by unfold maxLen; omega) (by rw [hget]; simp))
      rw [hget] at HV
      simp only [Option.getD_none, Option.isSome_none] at HV
      have HU5 := Lib.hid hu5
      clear hu5 hget hsz9
      go_wp2_with (go_at_call 34; fail)
      clear hmk hcs
      refine HV.out.mono ?_
      rintro e w6 ⟨u, rfl, g1, g2⟩
      obtain ⟨va, vc, rfl⟩ := g1.slice'
      simp only [List.length_nil]
      have hu6 := HU5.out.trans g2
      have hob6 := (hu6.block _ (lt_of_heap HV1.out) (fun e => e)).trans HV1.out
      have hxt := ((HD.out.upd.trans (hu6.mono (F := fun _ => False) (fun _ _ e => e.elim))).block _ (lt_of_heap HXT.out) (fun e => by have := HSZ.out; omega)).trans HXT.out
      obtain ⟨y0, y1⟩ := cells2_of hob6
      obtain ⟨z0, z1⟩ := cells2_of hxt
      have gf : w6.frozen? ⟨tb, 0, none⟩ = false := frozen_of_heap hxt
      have gf1 : w6.frozen? ⟨tb, 1, none⟩ = false := frozen_of_heap hxt
      have HOB6 := Lib.hid hob6; have HXT6 := Lib.hid hxt; have HU6 := Lib.hid hu6
      clear hob6 hxt hu6 g1 g2 HV
      go_wp2
      obtain ⟨w7, hw7⟩ : ∃ w7, w7 = (w6.setCell ⟨tb, 0, none⟩ (.int .u64 ev)).setCell ⟨tb, 1, none⟩ (.slice la l.length lc) := ⟨_, rfl⟩
      rw [← hw7]
      have hx7 : w7.heap[tb]? = some (.cells #[.int .u64 ev, .slice la l.length lc] 62 (0, 0)) := by
        rw [hw7]
        have := blk_set (i := 1) (v := .slice la l.length lc) (blk_set (i := 0) (v := .int .u64 ev) HXT6.out)
        simpa using this
      have hu7 : Upd (fun k => k = tb) w6 w7 := by rw [hw7]; exact (upd_own w6 tb 0 _).trans (upd_own _ tb 1 _)
      have hsz2 : tb < sb ∧ sb < w2.heap.size ∧ w2.heap.size ≤ w3.heap.size := HSZ.out
      refine bodyPost_ret (results_cell_tmp Tryz.results30 rfl (run_loadVar_mid (P := Tryz.prog) w7 tb 0 62 [_, _] _ (rangeAt_block hx7) Tryz.underlying62 rfl size62)) rfl ?_
      have hu67 := (HU6.out.mono (F := fun _ => False) (G := fun k => k = tb) (fun _ _ e => e.elim)).trans hu7
      have hlo : ∀ j, w3.heap.size ≤ j → ¬ j = tb := fun j hj e => by omega
      refine ⟨la, lc, C0, rfl, ?_, fun j hj => by have := HV3.out j hj; have := HTB.out; omega, HV4.out.kept hu67 (fun j hj e => hlo j (HV3.out j hj) e), ?_⟩
      · have h1 := HV2.out.kept hu67 (fun j hj e => hlo j (HV2.out.low_own hj) e) (fun j hj e => hlo j (HV3.out j hj) e)
        exact h1.low (by have := HTB.out; omega)
      · exact ((HU3.out.step HD.out.upd (fun j hj e => by have := HTB.out; omega)).trans HU6.out).step hu7 (fun j hj e => by have := HTB.out; omega)
end Go.Proofs.YtbimkhdiplnbfaaGreat
end

section
namespace Go.Proofs.YtbimkhdiplnbfaaGreat
set_option maxRecDepth 100000
open Go.RowKit Go.Shelf

/-- A register of the call's own on a disk that does not fail, behind t commits. -/
structure RgC (w0 W : World) (p r N : Nat) (area : Int) (t : Nat) (ev : Int) (l : KV) : Prop where
  out : ∃ (q b n : Nat) (C : Nat → Prop) (X : Lg) (D : Dk) (G F : Nat → Prop) (τ : Int), RegG W r q p ev b n C l area X D G F N (20000 + 2000 * t) τ ∧ τ ≤ X.h.turn + 1 ∧ X.h.turn ≤ 1 + t ∧ X.h.number + X.parts.length ≤ 2 + t ∧ n ≤ 48 * t ∧
    (∀ k, G k → w0.heap.size ≤ k) ∧ (∀ k, F k → w0.heap.size ≤ k) ∧ (∀ k, C k → w0.heap.size ≤ k) ∧ w0.heap.size ≤ b ∧ w0.heap.size ≤ r
  upd : Upd (fun _ => False) w0 W

theorem RgC.kept0 {w0 W W' : World} {p r N t : Nat} {area ev : Int} {l : KV} (h : RgC w0 W p r N area t ev l) (hu : Upd (fun _ => False) W W') : RgC w0 W' p r N area t ev l := by
  obtain ⟨⟨q, b, n, C, X, D, G, F, τ, h1, h2⟩, h3⟩ := h
  exact ⟨⟨q, b, n, C, X, D, G, F, τ, h1.kept0 hu, h2⟩, h3.trans hu⟩

/-- A commit of a batch of the call's own or that came in. -/
theorem RgC.commit {w0 W : World} {p r N t c : Nat} {area ev : Int} {l : KV} {a : Option Addr} {B : BatchV} (h : RgC w0 W p r N area t ev l) (ht : t ≤ 900) (hs : SetsIn W a B.sets) (hsl : B.sets.length ≤ 900) (hk : B.Ok) (hal : ∀ b o, a = some ⟨b, o, none⟩ → b < W.heap.size) :
    Calls Tryz.prog 31 #[.pointer (some ⟨r, 0, none⟩), batchV B a c] W fun e W' => ∃ E ev' l', e = .returned (.int .i64 E) ∧ RgC w0 W' p r N area (t + 1) ev' l' ∧ (E = 0 → ev' = B.epoch ∧ l' = l.withs B.sets) ∧ (E ≠ 0 → ev' = ev ∧ l' = l) ∧ (∃ X : Lg, X.broken = false ∧ X.h.area = area ∧ E = goodE ev area l X B) := by
  obtain ⟨⟨q, b, n, C, X, D, G, F, τ, h1, h2, h3, h4, h5, h6, h7, h8, h9, h10⟩, hu⟩ := h
  have hnum := h1.good.ok.number
  refine (commit_good (c := c) W h1 h2 (by omega) (by omega) (by omega) (by omega) (by omega) hs hsl hk hal).mono ?_
  rintro e W' ⟨rfl, ev', b', n', C', l', X', D', G', F', τ', k1, k2, k3, k4, k5, k6, k7, k8, k9, k10, k11, k12, k13⟩
  have hsz := hu.size
  refine ⟨_, ev', l', rfl, ⟨⟨q, b', n', C', X', D', G', F', τ', by rw [show 20000 + 2000 * (t + 1) = 20000 + 2000 * t + 2000 by omega]; exact k1, k5, by omega, by omega, by omega, fun k hk => ?_, fun k hk => ?_, fun k hk => ?_, ?_, h10⟩, hu.step k13 (fun k hk e => ?_)⟩, k2, k3, X, h1.good.unbroken, h1.har.symm, rfl⟩
  · rcases k11 k hk with e | e
    · exact h6 k e
    · omega
  · rcases k12 k hk with e | e
    · exact h7 k e
    · omega
  · rcases k10 k hk with e | e
    · exact h8 k e
    · omega
  · rcases k9 with e | e
    · rw [e]; exact h9
    · omega
  · rcases e with e | e | e
    · have := h6 k e; omega
    · have := h7 k e; omega
    · omega

set_option maxHeartbeats 4000000 in
theorem made_any {area N : Nat} (w : World) (ha : 4 ≤ area ∧ area ≤ 1000) (hN : N = 2 + 2 * area) :
    Calls Tryz.prog 28 #[.int .i64 area] w fun e w' => ∃ p r, e = .returned (.tuple #[.pointer (some ⟨p, 0, none⟩), .pointer (some ⟨r, 0, none⟩)]) ∧ RgC w w' p r N area 0 0 [] ∧ w.heap.size ≤ p := by
  have c1 : IntKind.i64.wrap (2 * (area : Int)) = 2 * (area : Int) := by rw [IntKind.wrap_i64]; omega
  have c2 : IntKind.i64.wrap (2 + 2 * (area : Int)) = (N : Int) := by rw [IntKind.wrap_i64]; omega
  have HN := Lib.hid hN; have HA := Lib.hid ha
  clear hN ha
  go_enter Tryz.func28, Tryz.ntmps28
  go_wp2_with (go_at_call 13; fail)
  refine (new_good_disk N w (by have := HN.out; have := HA.out; omega)).mono ?_
  rintro e w1 ⟨F, rfl, hD, hF, hu, hg, hok⟩
  have HD := Lib.hid hD; have HF := Lib.hid hF; have HU1 := Lib.hid hu; have HG := Lib.hid hg; have HOK := Lib.hid hok
  obtain ⟨p, hp⟩ : ∃ p, p = w.heap.size + 1 := ⟨_, rfl⟩
  have HP := Lib.hid hp
  rw [← hp] at HD ⊢
  clear hD hF hu hg hok hp
  simp only []
  go_wp2_with (go_at_call 47; fail)
  refine (rformat_good (area := area) (N := N) (K := 0) w1 HD.out HG.out HOK.out (by omega) HA.out (by have := HN.out; omega)).mono ?_
  rintro e w2 ⟨r, b, q, G2, F2, rfl, h1, h2, h3, h4, h5, h6, h7, h8, h9, h10⟩
  have hsz := HU1.out.size
  have hmem : RegMem w2 r q p 0 b 0 (fun _ => False) [] area ⟨fmtH area, [[]], 1, false⟩ (fmtD (Dk.new N) area 3) G2 F2 :=
    ⟨h1, ⟨h2, List.Pairwise.nil, fun x hx => by cases hx⟩, h3.wal, ⟨fun e => by have := h9 _ e; omega, fun e => by have := h10 _ e; omega⟩, ⟨fun e => by have := h9 _ e; omega, fun e => by have := h10 _ e; omega⟩, fun k hk => hk.elim⟩
  have hrc : RgC w w2 p r N area 0 0 [] := ⟨⟨q, b, 0, fun _ => False, _, _, G2, F2, 1, ⟨hmem, by simpa using h3, law_fmt HG.out HA.out (by have := HN.out; omega), KV.Fine.nil, by omega, rfl, [], [], rfl, rfl⟩, by show (1 : Int) ≤ 1 + 1; omega, by show (1 : Int) ≤ 1 + ((0 : Nat) : Int); omega, by show (1 : Int) + (1 : Nat) ≤ 2 + ((0 : Nat) : Int); omega, by omega, fun k hk => by have := h4 k hk; omega, fun k hk => by
      rcases h5 k hk with e | e
      · exact HF.out k e
      · omega, fun k hk => hk.elim, by omega, by omega⟩, HU1.out.step h6 (fun k hk e => by have := HF.out k e; omega)⟩
  have HRC := Lib.hid hrc
  clear h1 h2 h3 h4 h5 h6 h7 h8 h9 h10 hmem hrc hsz
  simp only []
  go_wp2
  go_returns
  exact ⟨_, _, rfl, HRC.out, by have := HP.out; omega⟩
end Go.Proofs.YtbimkhdiplnbfaaGreat
end

section
namespace Go.Proofs.YtbimkhdiplnbfaaGreat
set_option maxRecDepth 100000
open Go.RowKit Go.Shelf

/-- What a register tells. -/
theorem RgC.told {w0 W : World} {p r N t : Nat} {area ev : Int} {l : KV} (h : RgC w0 W p r N area t ev l) : Calls Tryz.prog 30 #[.pointer (some ⟨r, 0, none⟩)] W (ToldAns W ev l) ∧ l.Fine := by
  obtain ⟨⟨q, b, n, C, X, D, G, F, τ, h1, h2⟩, hu⟩ := h
  exact ⟨told_any W h1.mem.reg h1.mem.map h1.fine, h1.fine⟩

theorem RgC.value {w0 W : World} {p r N t : Nat} {area ev : Int} {l : KV} (h : RgC w0 W p r N area t ev l) {s : ByteArray} (hs : s.size ≤ maxLen) : Calls Tryz.prog 34 #[.pointer (some ⟨r, 0, none⟩), .string s] W fun e W' => ∃ u, e = .returned (.tuple #[u, .bool (l.get s).isSome]) ∧ OwnB W' W.heap.size u ((l.get s).getD []) ∧ Upd (fun _ => False) W W' := by
  obtain ⟨⟨q, b, n, C, X, D, G, F, τ, h1, h2⟩, hu⟩ := h
  refine value_any W h1.mem.reg h1.mem.map.1 hs ?_
  cases e : l.get s with
  | none => simp
  | some v =>
    have := (h1.fine.each _ ((KV.get_some h1.fine.rising).1 e)).2.2.1
    exact Nat.le_trans (show v.length ≤ 3000 from this) (by omega)

theorem RgC.epoch {w0 W : World} {p r N t : Nat} {area ev : Int} {l : KV} (h : RgC w0 W p r N area t ev l) : Calls Tryz.prog 36 #[.pointer (some ⟨r, 0, none⟩)] W fun e W' => e = .returned (.int .u64 ev) ∧ W = W' := by
  obtain ⟨⟨q, b, n, C, X, D, G, F, τ, h1, h2⟩, hu⟩ := h
  exact epoch_any W h1.mem.reg

theorem RgC.fine {w0 W : World} {p r N t : Nat} {area ev : Int} {l : KV} (h : RgC w0 W p r N area t ev l) : l.Fine ∧ 0 ≤ ev ∧ ev ≤ 4611686018427387904 := by
  obtain ⟨⟨q, b, n, C, X, D, G, F, τ, h1, h2⟩, hu⟩ := h
  exact ⟨h1.fine, h1.hev⟩

theorem RgC.names {w0 W : World} {p r N t : Nat} {area ev : Int} {l : KV} (h : RgC w0 W p r N area t ev l) : Calls Tryz.prog 37 #[.pointer (some ⟨r, 0, none⟩)] W fun e W' => ∃ v, e = .returned v ∧ W'.ownsRow W.heap.size 9 1 v l.length (l.map fun p => .string p.1) ∧ Upd (fun _ => False) W W' := by
  obtain ⟨⟨q, b, n, C, X, D, G, F, τ, h1, h2⟩, hu⟩ := h
  exact names_any W h1.mem.reg h1.mem.map (by have := h1.fine.len; omega)

theorem RgC.again {w0 W : World} {p r N t : Nat} {area ev : Int} {l : KV} (h : RgC w0 W p r N area t ev l) (ht : t ≤ 900) : Calls Tryz.prog 35 #[.pointer (some ⟨p, 0, none⟩)] W fun e W' => ∃ r' lg m ar, e = .returned (.tuple #[.pointer (some ⟨r', 0, none⟩), .int .i64 0]) ∧ RegAt W' r' lg ev m ar ∧ Upd (fun _ => False) w0 W' := by
  obtain ⟨⟨q, b, n, C, X, D, G, F, τ, h1, h2, h3, h4, h5, h6, h7, h8⟩, hu⟩ := h
  obtain ⟨p0, txs, hp, hfo⟩ := h1.says
  refine (ropen_good (N := N) W h1.mem.wal.2.1 h1.law h1.good.good h1.good.dok (by omega) h1.good.fits (by omega) h2 hp (by rw [hfo])).mono ?_
  rintro e W' ⟨r', q', b', n', C', D', G', F', rfl, k1, k2, k3, k4, k5, k6, k7, k8, k9, k10, k11, k12⟩
  rw [hfo] at k1
  exact ⟨r', _, _, _, rfl, k1.reg, hu.step k12 (fun k hk e => by have := h7 k e; omega)⟩

/-- The same; its blocks that a commit turns are all of H. -/
structure RgH (H : Nat → Prop) (w0 W : World) (p r N : Nat) (area : Int) (t : Nat) (ev : Int) (l : KV) : Prop where
  out : ∃ (q b n : Nat) (C : Nat → Prop) (X : Lg) (D : Dk) (G F : Nat → Prop) (τ : Int), RegG W r q p ev b n C l area X D G F N (20000 + 2000 * t) τ ∧ τ ≤ X.h.turn + 1 ∧ X.h.turn ≤ 1 + t ∧ X.h.number + X.parts.length ≤ 2 + t ∧ n ≤ 48 * t ∧
    (∀ k, G k → w0.heap.size ≤ k) ∧ (∀ k, F k → w0.heap.size ≤ k) ∧ (∀ k, C k → w0.heap.size ≤ k) ∧ w0.heap.size ≤ b ∧ w0.heap.size ≤ r ∧ (∀ k, G k → H k) ∧ (∀ k, F k → H k) ∧ H r
  upd : Upd (fun _ => False) w0 W

theorem RgH.kept0 {H : Nat → Prop} {w0 W W' : World} {p r N t : Nat} {area ev : Int} {l : KV} (h : RgH H w0 W p r N area t ev l) (hu : Upd (fun _ => False) W W') : RgH H w0 W' p r N area t ev l := by
  obtain ⟨⟨q, b, n, C, X, D, G, F, τ, h1, h2⟩, h3⟩ := h
  exact ⟨⟨q, b, n, C, X, D, G, F, τ, h1.kept0 hu, h2⟩, h3.trans hu⟩
theorem RgH.commit {H : Nat → Prop} {w0 W : World} {p r N t c : Nat} {area ev : Int} {l : KV} {a : Option Addr} {B : BatchV} (h : RgH H w0 W p r N area t ev l) (ht : t ≤ 900) (hs : SetsIn W a B.sets) (hsl : B.sets.length ≤ 900) (hk : B.Ok) (hal : ∀ b o, a = some ⟨b, o, none⟩ → b < W.heap.size) :
    Calls Tryz.prog 31 #[.pointer (some ⟨r, 0, none⟩), batchV B a c] W fun e W' => ∃ E ev' l', e = .returned (.int .i64 E) ∧ RgH (fun k => H k ∨ W.heap.size ≤ k) w0 W' p r N area (t + 1) ev' l' ∧ (E = 0 → ev' = B.epoch ∧ l' = l.withs B.sets) ∧ (E ≠ 0 → ev' = ev ∧ l' = l) ∧ (∃ X : Lg, X.broken = false ∧ X.h.area = area ∧ E = goodE ev area l X B) ∧ Upd H W W' := by
  obtain ⟨⟨q, b, n, C, X, D, G, F, τ, h1, h2, h3, h4, h5, h6, h7, h8, h9, h10, hg, hf, hr⟩, hu⟩ := h
  have hnum := h1.good.ok.number
  refine (commit_good (c := c) W h1 h2 (by omega) (by omega) (by omega) (by omega) (by omega) hs hsl hk hal).mono ?_
  rintro e W' ⟨rfl, ev', b', n', C', l', X', D', G', F', τ', k1, k2, k3, k4, k5, k6, k7, k8, k9, k10, k11, k12, k13⟩
  have hsz := hu.size
  refine ⟨_, ev', l', rfl, ⟨⟨q, b', n', C', X', D', G', F', τ', by rw [show 20000 + 2000 * (t + 1) = 20000 + 2000 * t + 2000 by omega]; exact k1, k5, by omega, by omega, by omega, fun k hk => ?_, fun k hk => ?_, fun k hk => ?_, ?_, h10, fun k hk => ?_, fun k hk => ?_, .inl hr⟩, hu.step k13 (fun k hk e => ?_)⟩, k2, k3, ⟨X, h1.good.unbroken, h1.har.symm, rfl⟩, k13.mono (fun k hk e => ?_)⟩
  · rcases k11 k hk with e | e
    · exact h6 k e
    · omega
  · rcases k12 k hk with e | e
    · exact h7 k e
    · omega
  · rcases k10 k hk with e | e
    · exact h8 k e
    · omega
  · rcases k9 with e | e
    · rw [e]; exact h9
    · omega
  · rcases k11 k hk with e | e
    · exact .inl (hg k e)
    · exact .inr e
  · rcases k12 k hk with e | e
    · exact .inl (hf k e)
    · exact .inr e
  · rcases e with e | e | e
    · have := h6 k e; omega
    · have := h7 k e; omega
    · omega
  · rcases e with e | e | e
    · exact hg k e
    · exact hf k e
    · rw [e]; exact hr
end Go.Proofs.YtbimkhdiplnbfaaGreat
end

section
namespace Go.Proofs.YtbimkhdiplnbfaaGreat
set_option maxRecDepth 100000
open Go.RowKit Go.Shelf

theorem one_right {nm : ByteArray} {bo : Bool} {od nw : List Int} {epoch : Int} (hn : 1 ≤ nm.size ∧ nm.size ≤ 24) (ho : od.length ≤ 3000) (hw : nw.length ≤ 3000) (hb : bo = false → od = []) : (⟨epoch, false, [⟨nm, bo, true, od, nw⟩]⟩ : BatchV).right = decide (epoch ≤ 4611686018427387904) := by
  have h1 : (⟨nm, bo, true, od, nw⟩ : SetV).right = true := by
    simp only [SetV.right, decide_eq_true_eq]
    exact ⟨hn.1, hn.2, ho, hw, hb, fun e => by cases e⟩
  simp [BatchV.right, h1, onceF]

end Go.Proofs.YtbimkhdiplnbfaaGreat
end

section
namespace Go.Proofs.YtbimkhdiplnbfaaGreat
set_option maxRecDepth 100000
open Go.RowKit Go.Shelf

/-- What the entries of a state weigh. -/
def KV.sumBy (f : ByteArray × List Int → Nat) (l : KV) : Nat := (l.map f).sum
theorem KV.sumBy_cons (f : ByteArray × List Int → Nat) (p : ByteArray × List Int) (l : KV) : KV.sumBy f (p :: l) = f p + KV.sumBy f l := by simp [KV.sumBy]
theorem KV.sumBy_ins (f : ByteArray × List Int → Nat) (s : ByteArray) (v : List Int) : ∀ l : KV, KV.sumBy f (l.ins s v) = KV.sumBy f l + f (s, v)
  | [] => by simp [KV.ins, KV.sumBy]
  | p :: r => by
    simp only [KV.ins]
    split
    · simp only [KV.sumBy_cons]; omega
    · simp only [KV.sumBy_cons, KV.sumBy_ins f s v r]; omega
theorem KV.sumBy_del (f : ByteArray × List Int → Nat) (s : ByteArray) : ∀ l : KV, l.Rising → KV.sumBy f (l.del s) + (match l.get s with | some u => f (s, u) | none => 0) = KV.sumBy f l
  | [], _ => by simp [KV.del, KV.get, KV.sumBy]
  | p :: r, h => by
    unfold KV.Rising at h
    rw [List.pairwise_cons] at h
    by_cases e : p.1 = s
    · have hn : ∀ q ∈ r, q.1 ≠ s := fun q hq e2 => by
        have := h.1 q hq
        rw [e2, ← e] at this
        exact absurd this (List.lt_irrefl _)
      have h1 : KV.del (p :: r) s = r := by
        rw [show KV.del (p :: r) s = KV.del r s from by simp [KV.del, e]]
        exact KV.del_none hn
      have h2 : KV.get (p :: r) s = some p.2 := by simp [KV.get, e]
      rw [h1, h2, KV.sumBy_cons]
      subst e
      have e2 : f (p.1, p.2) = f p := rfl
      simp only [e2]
      omega
    · have h1 : KV.del (p :: r) s = p :: KV.del r s := by simp [KV.del, e]
      have h2 : KV.get (p :: r) s = KV.get r s := by simp [KV.get, e]
      have ih := KV.sumBy_del f s r h.2
      rw [h1, h2, KV.sumBy_cons, KV.sumBy_cons]
      omega
theorem KV.sumBy_put (f : ByteArray × List Int → Nat) {l : KV} (h : l.Rising) (s : ByteArray) (v : List Int) : KV.sumBy f (l.put s v) + (match l.get s with | some u => f (s, u) | none => 0) = KV.sumBy f l + f (s, v) := by
  have h1 := KV.sumBy_del f s l h
  unfold KV.put
  rw [KV.sumBy_ins]
  omega
theorem KV.sumBy_one (l : KV) : KV.sumBy (fun _ => 1) l = l.length := by
  induction l with
  | nil => rfl
  | cons p l ih => rw [KV.sumBy_cons, ih, List.length_cons]; omega

/-- How many bytes a state's entries have. -/
def KV.heft (l : KV) : Nat := KV.sumBy (fun p => 7 + p.1.size + p.2.length) l
theorem KV.heft_put {l : KV} (h : l.Rising) (s : ByteArray) (v : List Int) : (l.put s v).heft + (match l.get s with | some u => 7 + s.size + u.length | none => 0) = l.heft + (7 + s.size + v.length) := KV.sumBy_put _ h s v
theorem KV.length_put {l : KV} (h : l.Rising) (s : ByteArray) (v : List Int) : (l.put s v).length + (match l.get s with | some _ => 1 | none => 0) = l.length + 1 := by
  have := KV.sumBy_put (fun _ => 1) h s v
  rw [KV.sumBy_one, KV.sumBy_one] at this
  exact this

theorem setsF_heft (l : KV) : (setsF (l.map fun p => (⟨p.1, false, true, [], p.2⟩ : SetV))).length = l.heft := by
  induction l with
  | nil => rfl
  | cons p l ih =>
    have e : KV.heft (p :: l) = (7 + p.1.size + p.2.length) + KV.heft l := KV.sumBy_cons _ p l
    rw [e, ← ih]
    simp only [setsF, List.map_cons, List.flatMap_cons, List.length_append, setF, maybeF, List.length_cons, numsOf_length, layF_length, List.length_nil]
    omega
theorem whole_len (ev : Int) (l : KV) : (wholeF ev l).length = 10 + l.heft := by
  show (layF ev 64 ++ ([flagF false, ((l.map fun p => (⟨p.1, false, true, [], p.2⟩ : SetV)).length : Int) % 256] ++ setsF (l.map fun p => (⟨p.1, false, true, [], p.2⟩ : SetV)))).length = _
  rw [List.length_append, List.length_append, layF_length, setsF_heft]
  simp only [List.length_cons, List.length_nil]
  omega

/-- A batch of one set that is thought as it is, for which there is room. -/
theorem one_fits {ev area : Int} {l : KV} {X : Lg} {nm : ByteArray} {nw : List Int} (hX : X.broken = false) (hl : l.Fine) (hn : 1 ≤ nm.size ∧ nm.size ≤ 24) (hw : nw.length ≤ 3000) (he : ev ≤ 4611686018427387904) (h48 : (l.put nm nw).length ≤ 48) (hf : fitsF (wholeF ev (l.put nm nw)).length area = true) :
    goodE ev area l X ⟨ev, false, [⟨nm, (l.get nm).isSome, true, (l.get nm).getD [], nw⟩]⟩ = 0 := by
  have ho : ((l.get nm).getD []).length ≤ 3000 := by
    cases e : l.get nm with
    | none => simp
    | some v => exact (hl.each _ ((KV.get_some hl.rising).1 e)).2.2.1
  have hb : (l.get nm).isSome = false → (l.get nm).getD [] = [] := fun e => by
    cases h : l.get nm with
    | none => rfl
    | some v => rw [h] at e; cases e
  have hr := one_right (epoch := ev) (nw := nw) hn ho hw hb
  obtain ⟨B, hB⟩ : ∃ B, B = (⟨ev, false, [⟨nm, (l.get nm).isSome, true, (l.get nm).getD [], nw⟩]⟩ : BatchV) := ⟨_, rfl⟩
  have hBe : B.epoch = ev := by rw [hB]
  have hBs : B.sets ≠ [] := by rw [hB]; simp
  have hBl : B.large = false := by rw [hB]
  have hth : B.sets.all (SetV.thought l) = true := by rw [hB]; simp [SetV.thought]
  have hwi : l.withs B.sets = l.put nm nw := by rw [hB]; rfl
  rw [← hB] at hr ⊢
  have hrt : ¬ B.right = false := by rw [hr]; simp; omega
  have hd : doE ev l B = 0 := by unfold doE; rw [hBe, if_neg (by omega), if_pos hth, hwi, if_neg (by omega)]
  unfold goodE planF
  rw [hX, if_neg (by simp), if_neg hrt, hd, if_neg (by decide), hBl, Bool.false_and, if_neg (by decide), if_neg (fun h => hBs h.1), hwi, hBe]
  by_cases h4 : fitsF (encF B).length (X.h.area - X.used) = true
  · rw [if_pos h4]
  · rw [if_neg h4, if_pos hf]

/-- Behind a large batch that was done: what there is room for. -/
theorem large_fits {ev area : Int} {l : KV} {X : Lg} {B : BatchV} (hl : l.Fine) (hB : B.large = true) (hk : B.Ok) (h : goodE ev area l X B = 0) : B.right = true ∧ (l.withs B.sets).Fine ∧ fitsF (wholeF B.epoch (l.withs B.sets)).length (area - 8) = true := by
  unfold goodE planF at h
  split at h
  · rename_i E hE
    subst h
    split at hE
    · cases hE
    · split at hE
      · cases hE
      · rename_i h1
        split at hE
        · rename_i h2
          injection hE with hE
          exact absurd hE h2
        · rename_i h2
          have hd : doE ev l B = 0 := Decidable.not_not.1 h2
          have hr : B.right = true := by simpa using h1
          rw [hB, Bool.true_and] at hE
          split at hE
          · cases hE
          · rename_i h3
            exact ⟨hr, (doE_fine hl hr hk hd).1, by simpa using h3⟩
  all_goals
    rename_i hE
    split at hE
    · cases hE
    · split at hE
      · cases hE
      · rename_i h1
        split at hE
        · cases hE
        · rename_i h2
          have hd : doE ev l B = 0 := Decidable.not_not.1 h2
          have hr : B.right = true := by simpa using h1
          rw [hB, Bool.true_and] at hE
          split at hE
          · cases hE
          · rename_i h3
            exact ⟨hr, (doE_fine hl hr hk hd).1, by simpa using h3⟩

/-- What holds ahead of the i-th small value; m: how many bytes there were. -/
def RoomI (s : ByteArray) (m i : Nat) (l : KV) : Prop := (i = 0 → l.heft ≤ m) ∧ (1 ≤ i → l.heft ≤ m + 9 ∧ ∃ c, l.get s = some [c])

theorem RoomI.next {s : ByteArray} {m i : Nat} {l : KV} {x : Int} (h : RoomI s m i l) (hl : l.Fine) (hs : s.size = 1) (ho : ∀ u, l.get s = some u → u.length ≤ 1) : RoomI s m (i + 1) (l.put s [x]) ∧ (l.put s [x]).heft ≤ m + 9 := by
  have h1 := KV.heft_put hl.rising s [x]
  have h2 : (l.put s [x]).get s = some [x] := by rw [KV.get_put hl.rising]; simp [setM]
  have h3 : (l.put s [x]).heft ≤ m + 9 := by
    rw [hs] at h1
    rcases Nat.eq_zero_or_pos i with e | e
    · have := h.1 e
      cases e2 : l.get s with
      | none => rw [e2] at h1; simp at h1; omega
      | some u => rw [e2] at h1; simp at h1; omega
    · obtain ⟨h4, c, h5⟩ := h.2 e
      rw [h5] at h1
      simp at h1
      omega
  exact ⟨⟨fun e => by omega, fun _ => ⟨h3, x, h2⟩⟩, h3⟩

theorem room_fits {ev : Int} {l l' : KV} {m : Nat} (hm : fitsF (10 + m : Nat) 22 = true) (h : l.heft ≤ m + 9) : fitsF (wholeF ev l).length 30 = true := by
  rw [whole_len]
  unfold fitsF secsI at hm ⊢
  rw [Bool.and_eq_true, decide_eq_true_eq, decide_eq_true_eq] at hm ⊢
  obtain ⟨h1, h2⟩ := hm
  refine ⟨?_, ?_⟩
  · split at h2 <;> omega
  · split at h2 <;> split <;> omega
end Go.Proofs.YtbimkhdiplnbfaaGreat
end

