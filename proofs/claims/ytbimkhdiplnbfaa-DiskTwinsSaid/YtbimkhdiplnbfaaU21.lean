/- Walks of the laws: says, stop6. -/
import Derived.Test.YtbimkhdiplnbfaaU20

section
namespace Go.Proofs.Ytbimkhdiplnbfaa
open Go.RowKit Go.Deep

set_option maxRecDepth 100000 in
set_option maxHeartbeats 4000000 in
theorem says_stop6 (k i n c : Int) (ka : Option Addr) (kn kc : Nat) (Aa Ra : Option Addr) (Ac Rc : Nat) (arr : List (List Int)) (R : List (Nat × List Int × Int)) (o ar fl : Int) (dd : Bool) (w : World) (hκ : kindOf k = 6) (hA0 : ArrS w Aa Ac arr) (hR : RowR w Ra Rc R) (hl : ∀ x ∈ R, x.2.1.length = 64) (hal : ∀ b ∈ arr, b.length = 64) (hRl : R.length ≤ 1000000) (hAl : 1 ≤ arr.length ∧ arr.length ≤ 2048) (HNO : RowKit.Hid (whyE dd arr.length 0 = 0)) (ho : 0 ≤ o ∧ o ≤ 1000000) (ha : -1 ≤ ar ∧ ar ≤ 9223372036854775807) (hf : -1 ≤ fl ∧ fl ≤ 9223372036854775807) {o1 a1 f1 E : Int} {d1 : Bool}
    (HM : RowKit.Hid (MeetsAs true o ar fl dd o1 a1 f1 E d1)) (hE : (E != 0) = true) :
    Calls Try.prog 45 #[callV k i n c ka kn kc, refV Aa arr.length Ac Ra R.length Rc o ar fl dd] w fun e w' => e = .returned (.tuple #[.agg #[.slice Aa arr.length Ac, .slice Ra R.length Rc, .int .i64 o1, .int .i64 a1, .int .i64 f1, .bool d1], .agg (bcells zblk).toArray, .int .i64 E]) ∧ Upd (fun _ => False) w w' := by
  have HA := Lib.hid hA0; have HR := Lib.hid hR; have HL := Lib.hid hl; have HAL := Lib.hid hal
  clear hA0 hR hl hal
  obtain ⟨zb, hzb⟩ : ∃ zb, zb = zblk := ⟨_, rfl⟩
  try rw [← hzb]
  have HZB := Lib.hid hzb
  have HBL : RowKit.Hid (zb.length = 64) := Lib.hid (by rw [hzb]; simp [zblk])
  clear hzb
  unfold callV refV
  go_enter Try.func45, Try.ntmps45
  go_upto_region 2 with fail
  refine (?_ : Code.wp _ _ _ _ (((((w.alloc (.cells #[.int .i64 k, .int .i64 i, .int .i64 n, .int .u8 c, .slice ka kn kc] 51)).alloc (.cells #[.slice Aa arr.length Ac, .slice Ra R.length Rc, .int .i64 o, .int .i64 ar, .int .i64 fl, .bool dd] 69)).alloc (.cells #[.slice none 0 0, .slice none 0 0, .int .i64 0, .int .i64 0, .int .i64 0, .bool false] 69)).alloc (.cells (bcells zblk).toArray 56)).alloc (.cells (bcells zblk).toArray 56)))
  obtain ⟨w1, hw1⟩ : ∃ w1, w1 = (((((w.alloc (.cells #[.int .i64 k, .int .i64 i, .int .i64 n, .int .u8 c, .slice ka kn kc] 51)).alloc (.cells #[.slice Aa arr.length Ac, .slice Ra R.length Rc, .int .i64 o, .int .i64 ar, .int .i64 fl, .bool dd] 69)).alloc (.cells #[.slice none 0 0, .slice none 0 0, .int .i64 0, .int .i64 0, .int .i64 0, .bool false] 69)).alloc (.cells (bcells zblk).toArray 56)).alloc (.cells (bcells zblk).toArray 56)) := ⟨_, rfl⟩
  have hs : SBox w w1 k i n c ka kn kc [.slice Aa arr.length Ac, .slice Ra R.length Rc, .int .i64 o, .int .i64 ar, .int .i64 fl, .bool dd] zb := by rw [hw1, HZB.out]; exact SBox.start w k i n c ka kn kc [.slice Aa arr.length Ac, .slice Ra R.length Rc, .int .i64 o, .int .i64 ar, .int .i64 fl, .bool dd]
  rw [← hw1]
  clear hw1
  have HS1 := Lib.hid hs
  obtain ⟨x0, x1, x2, x3, x4⟩ := box_cells hs.x
  obtain ⟨y0, y1, y2, y3, y4, y5⟩ := cells6_of hs.d
  clear hs
  go_wp2_with fail
  refine (kind_run' hκ i n c ka kn kc _).mono ?_
  rintro e w2 ⟨rfl, hu⟩
  clear x0 x1 x2 x3 x4 y0 y1 y2 y3 y4 y5
  have hs := HS1.out.kept hu
  clear hu
  have HS2 := Lib.hid hs
  obtain ⟨x0, x1, x2, x3, x4⟩ := box_cells hs.x
  obtain ⟨y0, y1, y2, y3, y4, y5⟩ := cells6_of hs.d
  clear hs
  simp only []
  go_wp2_with fail
  refine (why_run' Aa arr.length Ac Ra R.length Rc o ar fl 0 dd _ hAl.2 HNO).mono ?_
  rintro e w3 ⟨rfl, hu⟩
  clear x0 x1 x2 x3 x4 y0 y1 y2 y3 y4 y5
  have hs := HS2.out.kept hu
  clear hu
  have HS3 := Lib.hid hs
  obtain ⟨x0, x1, x2, x3, x4⟩ := box_cells hs.x
  obtain ⟨y0, y1, y2, y3, y4, y5⟩ := cells6_of hs.d
  clear hs
  simp only []
  go_wp2_with fail
  refine (kind_run' hκ i n c ka kn kc _).mono ?_
  rintro e w4 ⟨rfl, hu⟩
  clear x0 x1 x2 x3 x4 y0 y1 y2 y3 y4 y5
  have hs := HS3.out.kept hu
  clear hu
  have HS4 := Lib.hid hs
  obtain ⟨x0, x1, x2, x3, x4⟩ := box_cells hs.x
  obtain ⟨y0, y1, y2, y3, y4, y5⟩ := cells6_of hs.d
  clear hs
  simp only []
  go_wp2_with fail
  refine (kind_run' hκ i n c ka kn kc _).mono ?_
  rintro e w5 ⟨rfl, hu⟩
  clear x0 x1 x2 x3 x4 y0 y1 y2 y3 y4 y5
  have hs := HS4.out.kept hu
  clear hu
  have HS5 := Lib.hid hs
  obtain ⟨x0, x1, x2, x3, x4⟩ := box_cells hs.x
  obtain ⟨y0, y1, y2, y3, y4, y5⟩ := cells6_of hs.d
  clear hs
  simp only []
  go_wp2_with fail
  refine (kind_run' hκ i n c ka kn kc _).mono ?_
  rintro e w6 ⟨rfl, hu⟩
  clear x0 x1 x2 x3 x4 y0 y1 y2 y3 y4 y5
  have hs := HS5.out.kept hu
  clear hu
  have HS6 := Lib.hid hs
  obtain ⟨x0, x1, x2, x3, x4⟩ := box_cells hs.x
  obtain ⟨y0, y1, y2, y3, y4, y5⟩ := cells6_of hs.d
  clear hs
  simp only []
  go_upto_region 16 with fail
  have hA : SRd w w6.drew k i n c ka kn kc [.slice Aa arr.length Ac, .slice Ra R.length Rc, .int .i64 o, .int .i64 ar, .int .i64 fl, .bool dd] zb := (HS6.out.kept (Upd.refl _ w6).drew).rd
  clear x0 x1 x2 x3 x4 y0 y1 y2 y3 y4 y5
  refine wp_region_G 8 (fun W => SRd w W k i n c ka kn kc [.slice Aa arr.length Ac, .slice Ra R.length Rc, .int .i64 o, .int .i64 ar, .int .i64 fl, .bool dd] zb) [false, false, false, false, false, false, false, false, false, false] rfl (by kernel_rfl) ?_
  have HS7 := Lib.hid (HS6.out.kept (Upd.refl _ w6).drew)
  refine wpG_take (i := 0) (v := .agg [.slice Aa arr.length Ac, .slice Ra R.length Rc, .int .i64 o, .int .i64 ar, .int .i64 fl, .bool dd].toArray) rfl (by kernel_rfl) (fun _ _ _ h => h) hA (.inl ⟨rfl, fun w9 q1 => ?_⟩) ?_
  · exact run_load_mid' rfl rfl [.slice Aa arr.length Ac, .slice Ra R.length Rc, .int .i64 o, .int .i64 ar, .int .i64 fl, .bool dd] (rangeAt_block (b := w.heap.size + 1) (cs := [.slice Aa arr.length Ac, .slice Ra R.length Rc, .int .i64 o, .int .i64 ar, .int .i64 fl, .bool dd]) q1.d) Try.underlying69 rfl Try.size69q
  simp only [Act.put, List.setIfInBounds_toArray, List.set]
  refine wpG_take (i := 1) (v := .agg [.int .i64 k, .int .i64 i, .int .i64 n, .int .u8 c, .slice ka kn kc].toArray) rfl (by kernel_rfl) (fun _ _ _ h => h) hA (.inl ⟨rfl, fun w9 q1 => ?_⟩) ?_
  · exact run_load_mid' rfl rfl [.int .i64 k, .int .i64 i, .int .i64 n, .int .u8 c, .slice ka kn kc] (rangeAt_block (b := w.heap.size) (cs := [.int .i64 k, .int .i64 i, .int .i64 n, .int .u8 c, .slice ka kn kc]) q1.x) Try.underlying51 rfl Try.size51
  simp only [Act.put, List.setIfInBounds_toArray, List.set]
  refine wpG_do (i := 2) rfl (by kernel_rfl) rfl (fun K hK => ?_)
  have HK := Lib.hid hK
  clear hK
  go_step
  refine (kind_run' hκ i n c ka kn kc _).mono ?_
  rintro e w8 ⟨rfl, hu⟩
  have HS8 := Lib.hid (HS7.out.kept hu)
  
  clear hu hA
  have hA := HS8.out.rd
  simp only []
  refine HK.out _ _ hA ?_
  clear HK
  simp only [Act.put, List.setIfInBounds_toArray, List.set]
  refine wpG_take (i := 3) (v := .bool true) rfl (by kernel_rfl) (fun _ _ _ h => h) hA (.inl ⟨rfl, fun w9 q1 => ?_⟩) ?_
  · go_simp
  simp only [Act.put, List.setIfInBounds_toArray, List.set]
  refine wpG_do (i := 4) rfl (by kernel_rfl) rfl (fun K hK => ?_)
  have HK := Lib.hid hK
  clear hK
  go_step
  refine (meets_run' (o1 := o1) (a1 := a1) (f1 := f1) (E := E) (d1 := d1) _ ho ha hf HM).mono ?_
  rintro e w9 ⟨rfl, hu⟩
  have HS9 := Lib.hid (HS8.out.kept hu)
  
  clear hu hA
  have hA := HS9.out.rd
  simp only []
  refine HK.out _ _ hA ?_
  clear HK
  simp only [Act.put, List.setIfInBounds_toArray, List.set]
  refine wpG_take (i := 5) (v := .tuple #[.agg [.slice Aa arr.length Ac, .slice Ra R.length Rc, .int .i64 o1, .int .i64 a1, .int .i64 f1, .bool d1].toArray, .int .i64 E]) rfl (by kernel_rfl) (fun _ _ _ h => h) hA (.inl ⟨rfl, fun w9 q1 => ?_⟩) ?_
  · go_simp
  simp only [Act.put, List.setIfInBounds_toArray, List.set]
  refine wpG_take (i := 6) (v := .agg [.slice Aa arr.length Ac, .slice Ra R.length Rc, .int .i64 o1, .int .i64 a1, .int .i64 f1, .bool d1].toArray) rfl (by kernel_rfl) (fun _ _ _ h => h) hA (.inl ⟨rfl, fun w9 q1 => ?_⟩) ?_
  · go_simp
  simp only [Act.put, List.setIfInBounds_toArray, List.set]
  refine wpG_takeP (i := 7) (v := .int .i64 E) rfl (by kernel_rfl) (fun _ _ _ h => h) (fun _ => hA) (.inl ⟨rfl, fun w9 q1 => ?_⟩) ?_
  · go_simp
  simp only [Act.put, List.setIfInBounds_toArray, List.set]
  refine wpG_tail_lit (k := 8) rfl rfl (by kernel_rfl) ?_
  simp only [List.drop]
  clear hA
  refine wpList_store_mid rfl 69 (.tmp 3) (.tmp 60) rfl (w.heap.size + 1) 0 [.slice Aa arr.length Ac, .slice Ra R.length Rc, .int .i64 o1, .int .i64 a1, .int .i64 f1, .bool d1].toArray rfl rfl (show w9.there (w.heap.size + 1) 0 6 from there_block HS9.out.d) Try.size69q (by simp [Value.oneCell']) ?_
  have hs := HS9.out.setD [.slice Aa arr.length Ac, .slice Ra R.length Rc, .int .i64 o1, .int .i64 a1, .int .i64 f1, .bool d1] rfl
  refine (?_ : wpList _ _ _ _ _ (w9.setCells (w.heap.size + 1) 0 [.slice Aa arr.length Ac, .slice Ra R.length Rc, .int .i64 o1, .int .i64 a1, .int .i64 f1, .bool d1]))
  generalize w9.setCells (w.heap.size + 1) 0 [.slice Aa arr.length Ac, .slice Ra R.length Rc, .int .i64 o1, .int .i64 a1, .int .i64 f1, .bool d1] = w10 at *
  have HS10 := Lib.hid hs
  obtain ⟨x0, x1, x2, x3, x4⟩ := box_cells hs.x
  obtain ⟨y0, y1, y2, y3, y4, y5⟩ := cells6_of hs.d
  clear hs
  go_wp2_with fail
  refine (kind_run' hκ i n c ka kn kc _).mono ?_
  rintro e w11 ⟨rfl, hu⟩
  clear x0 x1 x2 x3 x4 y0 y1 y2 y3 y4 y5
  have hs := HS10.out.kept hu
  clear hu
  have HS11 := Lib.hid hs
  obtain ⟨x0, x1, x2, x3, x4⟩ := box_cells hs.x
  obtain ⟨y0, y1, y2, y3, y4, y5⟩ := cells6_of hs.d
  clear hs
  simp only []
  go_upto_region 23 with fail
  have hA : SRd w w11.drew k i n c ka kn kc [.slice Aa arr.length Ac, .slice Ra R.length Rc, .int .i64 o1, .int .i64 a1, .int .i64 f1, .bool d1] zb := (HS11.out.kept (Upd.refl _ w11).drew).rd
  clear x0 x1 x2 x3 x4 y0 y1 y2 y3 y4 y5
  refine wp_region_G 5 (fun W => SRd w W k i n c ka kn kc [.slice Aa arr.length Ac, .slice Ra R.length Rc, .int .i64 o1, .int .i64 a1, .int .i64 f1, .bool d1] zb) [false, false, false, false, false, false] rfl (by kernel_rfl) ?_
  have HS12 := Lib.hid (HS11.out.kept (Upd.refl _ w11).drew)
  refine wpG_take (i := 0) (v := .agg [.slice Aa arr.length Ac, .slice Ra R.length Rc, .int .i64 o1, .int .i64 a1, .int .i64 f1, .bool d1].toArray) rfl (by kernel_rfl) (fun _ _ _ h => h) hA (.inl ⟨rfl, fun w9 q1 => ?_⟩) ?_
  · exact run_load_mid' rfl rfl [.slice Aa arr.length Ac, .slice Ra R.length Rc, .int .i64 o1, .int .i64 a1, .int .i64 f1, .bool d1] (rangeAt_block (b := w.heap.size + 1) (cs := [.slice Aa arr.length Ac, .slice Ra R.length Rc, .int .i64 o1, .int .i64 a1, .int .i64 f1, .bool d1]) q1.d) Try.underlying69 rfl Try.size69q
  simp only [Act.put, List.setIfInBounds_toArray, List.set]
  refine wpG_take (i := 1) (v := .agg (bcells zb).toArray) rfl (by kernel_rfl) (fun _ _ _ h => h) hA (.inl ⟨rfl, fun w9 q1 => ?_⟩) ?_
  · exact run_load_mid' rfl rfl (bcells zb) (rangeAt_block (b := w.heap.size + 1 + 1 + 1 + 1) (cs := (bcells zb)) q1.v) Try.underlying56 rfl (by rw [Try.info56p, bcells_length, HBL.out])
  simp only [Act.put, List.setIfInBounds_toArray, List.set]
  refine wpG_take (i := 2) (v := .int .i64 E) rfl (by kernel_rfl) (fun _ _ _ h => h) hA (.inl ⟨rfl, fun w9 q1 => ?_⟩) ?_
  · go_simp
  simp only [Act.put, List.setIfInBounds_toArray, List.set]
  obtain ⟨ot1, ot2, ot3, ot4⟩ := HS12.out.out [.slice Aa arr.length Ac, .slice Ra R.length Rc, .int .i64 o1, .int .i64 a1, .int .i64 f1, .bool d1] rfl zb HBL.out
  have HO1 := Lib.hid ot1; have HO2 := Lib.hid ot2; have HO3 := Lib.hid ot3; have HO4 := Lib.hid ot4
  have u1 : Upd (fun j => j = w.heap.size + 1 + 1 ∨ j = w.heap.size + 1 + 1 + 1) w11.drew (w11.drew.setCells (w.heap.size + 1 + 1) 0 [.slice Aa arr.length Ac, .slice Ra R.length Rc, .int .i64 o1, .int .i64 a1, .int .i64 f1, .bool d1]) := (upd_setCells w11.drew (w.heap.size + 1 + 1) 0 [.slice Aa arr.length Ac, .slice Ra R.length Rc, .int .i64 o1, .int .i64 a1, .int .i64 f1, .bool d1]).mono (fun j _ e => .inl e)
  have u2 : Upd (fun j => j = w.heap.size + 1 + 1 ∨ j = w.heap.size + 1 + 1 + 1) (w11.drew.setCells (w.heap.size + 1 + 1) 0 [.slice Aa arr.length Ac, .slice Ra R.length Rc, .int .i64 o1, .int .i64 a1, .int .i64 f1, .bool d1]) ((w11.drew.setCells (w.heap.size + 1 + 1) 0 [.slice Aa arr.length Ac, .slice Ra R.length Rc, .int .i64 o1, .int .i64 a1, .int .i64 f1, .bool d1]).setCells (w.heap.size + 1 + 1 + 1) 0 (bcells zb)) := (upd_setCells (w11.drew.setCells (w.heap.size + 1 + 1) 0 [.slice Aa arr.length Ac, .slice Ra R.length Rc, .int .i64 o1, .int .i64 a1, .int .i64 f1, .bool d1]) (w.heap.size + 1 + 1 + 1) 0 (bcells zb)).mono (fun j _ e => .inr e)
  have hA1 := hA.off u1
  have hA2 := hA1.off u2
  have ht1 : w11.drew.there (w.heap.size + 1 + 1) 0 6 := there_block HS12.out.r
  have ht2 : (w11.drew.setCells (w.heap.size + 1 + 1) 0 [.slice Aa arr.length Ac, .slice Ra R.length Rc, .int .i64 o1, .int .i64 a1, .int .i64 f1, .bool d1]).there (w.heap.size + 1 + 1 + 1) 0 (bcells zb).toArray.size := by
    have := there_block (((upd_setCells w11.drew (w.heap.size + 1 + 1) 0 [.slice Aa arr.length Ac, .slice Ra R.length Rc, .int .i64 o1, .int .i64 a1, .int .i64 f1, .bool d1]).block _ (lt_of_heap HS12.out.b) (by omega)).trans HS12.out.b)
    rwa [show (bcells zblk).toArray.size = (bcells zb).toArray.size by simp [bcells_length, HBL.out, zblk]] at this
  clear ot1 ot2 ot3 ot4
  refine wpG_do (i := 3) rfl (by kernel_rfl) rfl (fun K hK => ?_)
  have HK := Lib.hid hK
  clear hK
  refine wp_store_mid 69 (.tmp 4) (.tmp 89) rfl (w.heap.size + 1 + 1) 0 [.slice Aa arr.length Ac, .slice Ra R.length Rc, .int .i64 o1, .int .i64 a1, .int .i64 f1, .bool d1].toArray rfl rfl ht1 Try.size69q (by simp [Value.oneCell']) ?_
  refine HK.out _ _ hA1 ?_
  clear HK
  simp only [Act.put, List.setIfInBounds_toArray, List.set]
  refine wpG_do (i := 4) rfl (by kernel_rfl) rfl (fun K hK => ?_)
  have HK := Lib.hid hK
  clear hK
  refine wp_store_mid 56 (.tmp 5) (.tmp 90) rfl (w.heap.size + 1 + 1 + 1) 0 (bcells zb).toArray rfl rfl ht2 (by rw [Try.info56p]; simp [bcells_length, HBL.out]) (all_oneCell_toArray (bcells_one _)) ?_
  refine HK.out _ _ hA2 ?_
  clear HK
  simp only [Act.put, List.setIfInBounds_toArray, List.set]
  refine wpG_tail_lit (k := 5) rfl rfl (by kernel_rfl) ?_
  simp only [List.drop]
  refine (?_ : wpList _ _ _ _ _ ((w11.drew.setCells (w.heap.size + 1 + 1) 0 [.slice Aa arr.length Ac, .slice Ra R.length Rc, .int .i64 o1, .int .i64 a1, .int .i64 f1, .bool d1]).setCells (w.heap.size + 1 + 1 + 1) 0 (bcells zb)))
  clear hA hA1 hA2 u1 u2 ht1 ht2
  generalize ((w11.drew.setCells (w.heap.size + 1 + 1) 0 [.slice Aa arr.length Ac, .slice Ra R.length Rc, .int .i64 o1, .int .i64 a1, .int .i64 f1, .bool d1]).setCells (w.heap.size + 1 + 1 + 1) 0 (bcells zb)) = wf at *
  go_wp2
  exact says_fin HO1.out rfl HO2.out HBL.out rfl rfl ⟨rfl, HO4.out⟩

end Go.Proofs.Ytbimkhdiplnbfaa
end

section
namespace Go.Proofs.Ytbimkhdiplnbfaa
open Go.RowKit Go.Deep

set_option maxRecDepth 100000 in
set_option maxHeartbeats 4000000 in
theorem says_shows (k n c : Int) (j : Nat) (ka : Option Addr) (kn kc : Nat) (Aa Ra : Option Addr) (Ac Rc : Nat) (arr : List (List Int)) (R : List (Nat × List Int × Int)) (o ar fl : Int) (dd : Bool) (w : World) (hκ : kindOf k = 5) (hA0 : ArrS w Aa Ac arr) (hR : RowR w Ra Rc R) (hl : ∀ x ∈ R, x.2.1.length = 64) (hal : ∀ b ∈ arr, b.length = 64) (hRl : R.length ≤ 1000000) (hAl : 1 ≤ arr.length ∧ arr.length ≤ 2048) (HNO : RowKit.Hid (whyE dd arr.length (j : Int) = 0)) (ho : 0 ≤ o ∧ o ≤ 1000000) (ha : -1 ≤ ar ∧ ar ≤ 9223372036854775807) (hf : -1 ≤ fl ∧ fl ≤ 9223372036854775807) {o1 a1 f1 E : Int} {d1 : Bool}
    (HM : RowKit.Hid (MeetsAs false o ar fl dd o1 a1 f1 E d1)) (hE : E = 0) (hj : j < arr.length) :
    Calls Try.prog 45 #[callV k (j : Int) n c ka kn kc, refV Aa arr.length Ac Ra R.length Rc o ar fl dd] w fun e w' => e = .returned (.tuple #[.agg #[.slice Aa arr.length Ac, .slice Ra R.length Rc, .int .i64 o1, .int .i64 a1, .int .i64 f1, .bool d1], .agg (bcells (shL j (arr.getD j []) R)).toArray, .int .i64 0]) ∧ Upd (fun _ => False) w w' := by
  subst hE
  have HA := Lib.hid hA0; have HR := Lib.hid hR; have HL := Lib.hid hl; have HAL := Lib.hid hal
  clear hA0 hR hl hal
  obtain ⟨zb, hzb⟩ : ∃ zb, zb = zblk := ⟨_, rfl⟩
  try rw [← hzb]
  have HZB := Lib.hid hzb
  have HBL : RowKit.Hid (zb.length = 64) := Lib.hid (by rw [hzb]; simp [zblk])
  clear hzb
  unfold callV refV
  go_enter Try.func45, Try.ntmps45
  go_upto_region 2 with fail
  refine (?_ : Code.wp _ _ _ _ (((((w.alloc (.cells #[.int .i64 k, .int .i64 (j : Int), .int .i64 n, .int .u8 c, .slice ka kn kc] 51)).alloc (.cells #[.slice Aa arr.length Ac, .slice Ra R.length Rc, .int .i64 o, .int .i64 ar, .int .i64 fl, .bool dd] 69)).alloc (.cells #[.slice none 0 0, .slice none 0 0, .int .i64 0, .int .i64 0, .int .i64 0, .bool false] 69)).alloc (.cells (bcells zblk).toArray 56)).alloc (.cells (bcells zblk).toArray 56)))
  obtain ⟨w1, hw1⟩ : ∃ w1, w1 = (((((w.alloc (.cells #[.int .i64 k, .int .i64 (j : Int), .int .i64 n, .int .u8 c, .slice ka kn kc] 51)).alloc (.cells #[.slice Aa arr.length Ac, .slice Ra R.length Rc, .int .i64 o, .int .i64 ar, .int .i64 fl, .bool dd] 69)).alloc (.cells #[.slice none 0 0, .slice none 0 0, .int .i64 0, .int .i64 0, .int .i64 0, .bool false] 69)).alloc (.cells (bcells zblk).toArray 56)).alloc (.cells (bcells zblk).toArray 56)) := ⟨_, rfl⟩
  have hs : SBox w w1 k (j : Int) n c ka kn kc [.slice Aa arr.length Ac, .slice Ra R.length Rc, .int .i64 o, .int .i64 ar, .int .i64 fl, .bool dd] zb := by rw [hw1, HZB.out]; exact SBox.start w k (j : Int) n c ka kn kc [.slice Aa arr.length Ac, .slice Ra R.length Rc, .int .i64 o, .int .i64 ar, .int .i64 fl, .bool dd]
  rw [← hw1]
  clear hw1
  have HS1 := Lib.hid hs
  obtain ⟨x0, x1, x2, x3, x4⟩ := box_cells hs.x
  obtain ⟨y0, y1, y2, y3, y4, y5⟩ := cells6_of hs.d
  clear hs
  go_wp2_with fail
  refine (kind_run' hκ (j : Int) n c ka kn kc _).mono ?_
  rintro e w2 ⟨rfl, hu⟩
  clear x0 x1 x2 x3 x4 y0 y1 y2 y3 y4 y5
  have hs := HS1.out.kept hu
  clear hu
  have HS2 := Lib.hid hs
  obtain ⟨x0, x1, x2, x3, x4⟩ := box_cells hs.x
  obtain ⟨y0, y1, y2, y3, y4, y5⟩ := cells6_of hs.d
  clear hs
  simp only []
  go_wp2_with fail
  refine (why_run' Aa arr.length Ac Ra R.length Rc o ar fl (j : Int) dd _ hAl.2 HNO).mono ?_
  rintro e w3 ⟨rfl, hu⟩
  clear x0 x1 x2 x3 x4 y0 y1 y2 y3 y4 y5
  have hs := HS2.out.kept hu
  clear hu
  have HS3 := Lib.hid hs
  obtain ⟨x0, x1, x2, x3, x4⟩ := box_cells hs.x
  obtain ⟨y0, y1, y2, y3, y4, y5⟩ := cells6_of hs.d
  clear hs
  simp only []
  go_wp2_with fail
  refine (kind_run' hκ (j : Int) n c ka kn kc _).mono ?_
  rintro e w4 ⟨rfl, hu⟩
  clear x0 x1 x2 x3 x4 y0 y1 y2 y3 y4 y5
  have hs := HS3.out.kept hu
  clear hu
  have HS4 := Lib.hid hs
  obtain ⟨x0, x1, x2, x3, x4⟩ := box_cells hs.x
  obtain ⟨y0, y1, y2, y3, y4, y5⟩ := cells6_of hs.d
  clear hs
  simp only []
  go_wp2_with fail
  refine (kind_run' hκ (j : Int) n c ka kn kc _).mono ?_
  rintro e w5 ⟨rfl, hu⟩
  clear x0 x1 x2 x3 x4 y0 y1 y2 y3 y4 y5
  have hs := HS4.out.kept hu
  clear hu
  have HS5 := Lib.hid hs
  obtain ⟨x0, x1, x2, x3, x4⟩ := box_cells hs.x
  obtain ⟨y0, y1, y2, y3, y4, y5⟩ := cells6_of hs.d
  clear hs
  simp only []
  go_wp2_with fail
  refine (kind_run' hκ (j : Int) n c ka kn kc _).mono ?_
  rintro e w6 ⟨rfl, hu⟩
  clear x0 x1 x2 x3 x4 y0 y1 y2 y3 y4 y5
  have hs := HS5.out.kept hu
  clear hu
  have HS6 := Lib.hid hs
  obtain ⟨x0, x1, x2, x3, x4⟩ := box_cells hs.x
  obtain ⟨y0, y1, y2, y3, y4, y5⟩ := cells6_of hs.d
  clear hs
  simp only []
  go_upto_region 16 with fail
  have hA : SRd w w6.drew k (j : Int) n c ka kn kc [.slice Aa arr.length Ac, .slice Ra R.length Rc, .int .i64 o, .int .i64 ar, .int .i64 fl, .bool dd] zb := (HS6.out.kept (Upd.refl _ w6).drew).rd
  clear x0 x1 x2 x3 x4 y0 y1 y2 y3 y4 y5
  refine wp_region_G 8 (fun W => SRd w W k (j : Int) n c ka kn kc [.slice Aa arr.length Ac, .slice Ra R.length Rc, .int .i64 o, .int .i64 ar, .int .i64 fl, .bool dd] zb) [false, false, false, false, false, false, false, false, false, false] rfl (by kernel_rfl) ?_
  have HS7 := Lib.hid (HS6.out.kept (Upd.refl _ w6).drew)
  refine wpG_take (i := 0) (v := .agg [.slice Aa arr.length Ac, .slice Ra R.length Rc, .int .i64 o, .int .i64 ar, .int .i64 fl, .bool dd].toArray) rfl (by kernel_rfl) (fun _ _ _ h => h) hA (.inl ⟨rfl, fun w9 q1 => ?_⟩) ?_
  · exact run_load_mid' rfl rfl [.slice Aa arr.length Ac, .slice Ra R.length Rc, .int .i64 o, .int .i64 ar, .int .i64 fl, .bool dd] (rangeAt_block (b := w.heap.size + 1) (cs := [.slice Aa arr.length Ac, .slice Ra R.length Rc, .int .i64 o, .int .i64 ar, .int .i64 fl, .bool dd]) q1.d) Try.underlying69 rfl Try.size69q
  simp only [Act.put, List.setIfInBounds_toArray, List.set]
  refine wpG_take (i := 1) (v := .agg [.int .i64 k, .int .i64 (j : Int), .int .i64 n, .int .u8 c, .slice ka kn kc].toArray) rfl (by kernel_rfl) (fun _ _ _ h => h) hA (.inl ⟨rfl, fun w9 q1 => ?_⟩) ?_
  · exact run_load_mid' rfl rfl [.int .i64 k, .int .i64 (j : Int), .int .i64 n, .int .u8 c, .slice ka kn kc] (rangeAt_block (b := w.heap.size) (cs := [.int .i64 k, .int .i64 (j : Int), .int .i64 n, .int .u8 c, .slice ka kn kc]) q1.x) Try.underlying51 rfl Try.size51
  simp only [Act.put, List.setIfInBounds_toArray, List.set]
  refine wpG_do (i := 2) rfl (by kernel_rfl) rfl (fun K hK => ?_)
  have HK := Lib.hid hK
  clear hK
  go_step
  refine (kind_run' hκ (j : Int) n c ka kn kc _).mono ?_
  rintro e w8 ⟨rfl, hu⟩
  have HS8 := Lib.hid (HS7.out.kept hu)
  
  clear hu hA
  have hA := HS8.out.rd
  simp only []
  refine HK.out _ _ hA ?_
  clear HK
  simp only [Act.put, List.setIfInBounds_toArray, List.set]
  refine wpG_take (i := 3) (v := .bool false) rfl (by kernel_rfl) (fun _ _ _ h => h) hA (.inl ⟨rfl, fun w9 q1 => ?_⟩) ?_
  · go_simp
  simp only [Act.put, List.setIfInBounds_toArray, List.set]
  refine wpG_do (i := 4) rfl (by kernel_rfl) rfl (fun K hK => ?_)
  have HK := Lib.hid hK
  clear hK
  go_step
  refine (meets_run' (o1 := o1) (a1 := a1) (f1 := f1) (E := 0) (d1 := d1) _ ho ha hf HM).mono ?_
  rintro e w9 ⟨rfl, hu⟩
  have HS9 := Lib.hid (HS8.out.kept hu)
  
  clear hu hA
  have hA := HS9.out.rd
  simp only []
  refine HK.out _ _ hA ?_
  clear HK
  simp only [Act.put, List.setIfInBounds_toArray, List.set]
  refine wpG_take (i := 5) (v := .tuple #[.agg [.slice Aa arr.length Ac, .slice Ra R.length Rc, .int .i64 o1, .int .i64 a1, .int .i64 f1, .bool d1].toArray, .int .i64 0]) rfl (by kernel_rfl) (fun _ _ _ h => h) hA (.inl ⟨rfl, fun w9 q1 => ?_⟩) ?_
  · go_simp
  simp only [Act.put, List.setIfInBounds_toArray, List.set]
  refine wpG_take (i := 6) (v := .agg [.slice Aa arr.length Ac, .slice Ra R.length Rc, .int .i64 o1, .int .i64 a1, .int .i64 f1, .bool d1].toArray) rfl (by kernel_rfl) (fun _ _ _ h => h) hA (.inl ⟨rfl, fun w9 q1 => ?_⟩) ?_
  · go_simp
  simp only [Act.put, List.setIfInBounds_toArray, List.set]
  refine wpG_takeP (i := 7) (v := .int .i64 0) rfl (by kernel_rfl) (fun _ _ _ h => h) (fun _ => hA) (.inl ⟨rfl, fun w9 q1 => ?_⟩) ?_
  · go_simp
  simp only [Act.put, List.setIfInBounds_toArray, List.set]
  refine wpG_tail_lit (k := 8) rfl rfl (by kernel_rfl) ?_
  simp only [List.drop]
  clear hA
  refine wpList_store_mid rfl 69 (.tmp 3) (.tmp 60) rfl (w.heap.size + 1) 0 [.slice Aa arr.length Ac, .slice Ra R.length Rc, .int .i64 o1, .int .i64 a1, .int .i64 f1, .bool d1].toArray rfl rfl (show w9.there (w.heap.size + 1) 0 6 from there_block HS9.out.d) Try.size69q (by simp [Value.oneCell']) ?_
  have hs := HS9.out.setD [.slice Aa arr.length Ac, .slice Ra R.length Rc, .int .i64 o1, .int .i64 a1, .int .i64 f1, .bool d1] rfl
  refine (?_ : wpList _ _ _ _ _ (w9.setCells (w.heap.size + 1) 0 [.slice Aa arr.length Ac, .slice Ra R.length Rc, .int .i64 o1, .int .i64 a1, .int .i64 f1, .bool d1]))
  generalize w9.setCells (w.heap.size + 1) 0 [.slice Aa arr.length Ac, .slice Ra R.length Rc, .int .i64 o1, .int .i64 a1, .int .i64 f1, .bool d1] = w10 at *
  have HS10 := Lib.hid hs
  obtain ⟨x0, x1, x2, x3, x4⟩ := box_cells hs.x
  obtain ⟨y0, y1, y2, y3, y4, y5⟩ := cells6_of hs.d
  clear hs
  go_wp2_with fail
  refine (kind_run' hκ (j : Int) n c ka kn kc _).mono ?_
  rintro e w11 ⟨rfl, hu⟩
  clear x0 x1 x2 x3 x4 y0 y1 y2 y3 y4 y5
  have hs := HS10.out.kept hu
  clear hu
  have HS11 := Lib.hid hs
  obtain ⟨x0, x1, x2, x3, x4⟩ := box_cells hs.x
  obtain ⟨y0, y1, y2, y3, y4, y5⟩ := cells6_of hs.d
  clear hs
  simp only []
  go_wp2_with fail
  refine (kind_run' hκ (j : Int) n c ka kn kc _).mono ?_
  rintro e w12 ⟨rfl, hu⟩
  clear x0 x1 x2 x3 x4 y0 y1 y2 y3 y4 y5
  have hs := HS11.out.kept hu
  clear hu
  have HS12 := Lib.hid hs
  obtain ⟨x0, x1, x2, x3, x4⟩ := box_cells hs.x
  obtain ⟨y0, y1, y2, y3, y4, y5⟩ := cells6_of hs.d
  clear hs
  simp only []
  go_wp2_with fail
  refine (refShows_run Aa Ra Ac Rc arr R o1 a1 f1 d1 j _ (HA.out.kept HS12.out.u) (HR.out.kept HS12.out.u) HL.out HAL.out hRl hAl.2 hj).mono ?_
  rintro e w13 ⟨rfl, hu⟩
  clear x0 x1 x2 x3 x4 y0 y1 y2 y3 y4 y5
  have hs := HS12.out.kept hu
  clear hu
  have HS13 := Lib.hid hs
  clear hs
  simp only []
  obtain ⟨sb, hsb⟩ : ∃ sb, sb = shL j (arr.getD j []) R := ⟨_, rfl⟩
  rw [← hsb]
  have HSB := Lib.hid hsb
  have HBL2 : RowKit.Hid (sb.length = 64) := Lib.hid (by rw [hsb]; exact shL_blk _ _ (HAL.out _ (by simp [List.getD_eq_getElem?_getD, hj])) _ HL.out)
  clear hsb
  go_step
  refine wpList_store_mid rfl 56 (.tmp 7) (.tmp 88) rfl (w.heap.size + 1 + 1 + 1 + 1) 0 (bcells sb).toArray rfl rfl (by
    have := there_block HS13.out.v
    rwa [show (bcells zb).toArray.size = (bcells sb).toArray.size by simp [bcells_length, HBL.out, HBL2.out]] at this) (by rw [Try.info56p]; simp [bcells_length, HBL2.out]) (all_oneCell_toArray (bcells_one _)) ?_
  have hs := HS13.out.setV sb (by rw [HBL.out, HBL2.out])
  refine (?_ : wpList _ _ _ _ _ (w13.setCells (w.heap.size + 1 + 1 + 1 + 1) 0 (bcells sb)))
  generalize w13.setCells (w.heap.size + 1 + 1 + 1 + 1) 0 (bcells sb) = w14 at *
  clear HBL
  have HBL := HBL2
  have HS14 := Lib.hid hs
  obtain ⟨x0, x1, x2, x3, x4⟩ := box_cells hs.x
  obtain ⟨y0, y1, y2, y3, y4, y5⟩ := cells6_of hs.d
  clear hs
  go_upto_region 23 with fail
  have hA : SRd w w14.drew k (j : Int) n c ka kn kc [.slice Aa arr.length Ac, .slice Ra R.length Rc, .int .i64 o1, .int .i64 a1, .int .i64 f1, .bool d1] sb := (HS14.out.kept (Upd.refl _ w14).drew).rd
  clear x0 x1 x2 x3 x4 y0 y1 y2 y3 y4 y5
  refine wp_region_G 5 (fun W => SRd w W k (j : Int) n c ka kn kc [.slice Aa arr.length Ac, .slice Ra R.length Rc, .int .i64 o1, .int .i64 a1, .int .i64 f1, .bool d1] sb) [false, false, false, false, false, false] rfl (by kernel_rfl) ?_
  have HS15 := Lib.hid (HS14.out.kept (Upd.refl _ w14).drew)
  refine wpG_take (i := 0) (v := .agg [.slice Aa arr.length Ac, .slice Ra R.length Rc, .int .i64 o1, .int .i64 a1, .int .i64 f1, .bool d1].toArray) rfl (by kernel_rfl) (fun _ _ _ h => h) hA (.inl ⟨rfl, fun w9 q1 => ?_⟩) ?_
  · exact run_load_mid' rfl rfl [.slice Aa arr.length Ac, .slice Ra R.length Rc, .int .i64 o1, .int .i64 a1, .int .i64 f1, .bool d1] (rangeAt_block (b := w.heap.size + 1) (cs := [.slice Aa arr.length Ac, .slice Ra R.length Rc, .int .i64 o1, .int .i64 a1, .int .i64 f1, .bool d1]) q1.d) Try.underlying69 rfl Try.size69q
  simp only [Act.put, List.setIfInBounds_toArray, List.set]
  refine wpG_take (i := 1) (v := .agg (bcells sb).toArray) rfl (by kernel_rfl) (fun _ _ _ h => h) hA (.inl ⟨rfl, fun w9 q1 => ?_⟩) ?_
  · exact run_load_mid' rfl rfl (bcells sb) (rangeAt_block (b := w.heap.size + 1 + 1 + 1 + 1) (cs := (bcells sb)) q1.v) Try.underlying56 rfl (by rw [Try.info56p, bcells_length, HBL.out])
  simp only [Act.put, List.setIfInBounds_toArray, List.set]
  refine wpG_take (i := 2) (v := .int .i64 0) rfl (by kernel_rfl) (fun _ _ _ h => h) hA (.inl ⟨rfl, fun w9 q1 => ?_⟩) ?_
  · go_simp
  simp only [Act.put, List.setIfInBounds_toArray, List.set]
  obtain ⟨ot1, ot2, ot3, ot4⟩ := HS15.out.out [.slice Aa arr.length Ac, .slice Ra R.length Rc, .int .i64 o1, .int .i64 a1, .int .i64 f1, .bool d1] rfl sb HBL.out
  have HO1 := Lib.hid ot1; have HO2 := Lib.hid ot2; have HO3 := Lib.hid ot3; have HO4 := Lib.hid ot4
  have u1 : Upd (fun j => j = w.heap.size + 1 + 1 ∨ j = w.heap.size + 1 + 1 + 1) w14.drew (w14.drew.setCells (w.heap.size + 1 + 1) 0 [.slice Aa arr.length Ac, .slice Ra R.length Rc, .int .i64 o1, .int .i64 a1, .int .i64 f1, .bool d1]) := (upd_setCells w14.drew (w.heap.size + 1 + 1) 0 [.slice Aa arr.length Ac, .slice Ra R.length Rc, .int .i64 o1, .int .i64 a1, .int .i64 f1, .bool d1]).mono (fun j _ e => .inl e)
  have u2 : Upd (fun j => j = w.heap.size + 1 + 1 ∨ j = w.heap.size + 1 + 1 + 1) (w14.drew.setCells (w.heap.size + 1 + 1) 0 [.slice Aa arr.length Ac, .slice Ra R.length Rc, .int .i64 o1, .int .i64 a1, .int .i64 f1, .bool d1]) ((w14.drew.setCells (w.heap.size + 1 + 1) 0 [.slice Aa arr.length Ac, .slice Ra R.length Rc, .int .i64 o1, .int .i64 a1, .int .i64 f1, .bool d1]).setCells (w.heap.size + 1 + 1 + 1) 0 (bcells sb)) := (upd_setCells (w14.drew.setCells (w.heap.size + 1 + 1) 0 [.slice Aa arr.length Ac, .slice Ra R.length Rc, .int .i64 o1, .int .i64 a1, .int .i64 f1, .bool d1]) (w.heap.size + 1 + 1 + 1) 0 (bcells sb)).mono (fun j _ e => .inr e)
  have hA1 := hA.off u1
  have hA2 := hA1.off u2
  have ht1 : w14.drew.there (w.heap.size + 1 + 1) 0 6 := there_block HS15.out.r
  have ht2 : (w14.drew.setCells (w.heap.size + 1 + 1) 0 [.slice Aa arr.length Ac, .slice Ra R.length Rc, .int .i64 o1, .int .i64 a1, .int .i64 f1, .bool d1]).there (w.heap.size + 1 + 1 + 1) 0 (bcells sb).toArray.size := by
    have := there_block (((upd_setCells w14.drew (w.heap.size + 1 + 1) 0 [.slice Aa arr.length Ac, .slice Ra R.length Rc, .int .i64 o1, .int .i64 a1, .int .i64 f1, .bool d1]).block _ (lt_of_heap HS15.out.b) (by omega)).trans HS15.out.b)
    rwa [show (bcells zblk).toArray.size = (bcells sb).toArray.size by simp [bcells_length, HBL.out, zblk]] at this
  clear ot1 ot2 ot3 ot4
  refine wpG_do (i := 3) rfl (by kernel_rfl) rfl (fun K hK => ?_)
  have HK := Lib.hid hK
  clear hK
  refine wp_store_mid 69 (.tmp 4) (.tmp 89) rfl (w.heap.size + 1 + 1) 0 [.slice Aa arr.length Ac, .slice Ra R.length Rc, .int .i64 o1, .int .i64 a1, .int .i64 f1, .bool d1].toArray rfl rfl ht1 Try.size69q (by simp [Value.oneCell']) ?_
  refine HK.out _ _ hA1 ?_
  clear HK
  simp only [Act.put, List.setIfInBounds_toArray, List.set]
  refine wpG_do (i := 4) rfl (by kernel_rfl) rfl (fun K hK => ?_)
  have HK := Lib.hid hK
  clear hK
  refine wp_store_mid 56 (.tmp 5) (.tmp 90) rfl (w.heap.size + 1 + 1 + 1) 0 (bcells sb).toArray rfl rfl ht2 (by rw [Try.info56p]; simp [bcells_length, HBL.out]) (all_oneCell_toArray (bcells_one _)) ?_
  refine HK.out _ _ hA2 ?_
  clear HK
  simp only [Act.put, List.setIfInBounds_toArray, List.set]
  refine wpG_tail_lit (k := 5) rfl rfl (by kernel_rfl) ?_
  simp only [List.drop]
  refine (?_ : wpList _ _ _ _ _ ((w14.drew.setCells (w.heap.size + 1 + 1) 0 [.slice Aa arr.length Ac, .slice Ra R.length Rc, .int .i64 o1, .int .i64 a1, .int .i64 f1, .bool d1]).setCells (w.heap.size + 1 + 1 + 1) 0 (bcells sb)))
  clear hA hA1 hA2 u1 u2 ht1 ht2
  generalize ((w14.drew.setCells (w.heap.size + 1 + 1) 0 [.slice Aa arr.length Ac, .slice Ra R.length Rc, .int .i64 o1, .int .i64 a1, .int .i64 f1, .bool d1]).setCells (w.heap.size + 1 + 1 + 1) 0 (bcells sb)) = wf at *
  go_wp2
  exact says_fin HO1.out rfl HO2.out HBL.out rfl rfl ⟨by rw [← HSB.out]; rfl, HO4.out⟩

end Go.Proofs.Ytbimkhdiplnbfaa
end

section
namespace Go.Proofs.Ytbimkhdiplnbfaa
open Go.RowKit Go.Deep

set_option maxRecDepth 100000 in
set_option maxHeartbeats 4000000 in
theorem says_all (k i n c : Int) (ka : Option Addr) (kn kc : Nat) (Aa Ra : Option Addr) (Ac Rc : Nat) (arr : List (List Int)) (R : List (Nat × List Int × Int)) (o ar fl : Int) (dd : Bool) (w : World) (hκ : kindOf k = 6) (hA0 : ArrS w Aa Ac arr) (hR : RowR w Ra Rc R) (hl : ∀ x ∈ R, x.2.1.length = 64) (hal : ∀ b ∈ arr, b.length = 64) (hRl : R.length ≤ 1000000) (hAl : 1 ≤ arr.length ∧ arr.length ≤ 2048) (HNO : RowKit.Hid (whyE dd arr.length 0 = 0)) (ho : 0 ≤ o ∧ o ≤ 1000000) (ha : -1 ≤ ar ∧ ar ≤ 9223372036854775807) (hf : -1 ≤ fl ∧ fl ≤ 9223372036854775807) {o1 a1 f1 E : Int} {d1 : Bool}
    (HM : RowKit.Hid (MeetsAs true o ar fl dd o1 a1 f1 E d1)) (hE : E = 0) :
    Calls Try.prog 45 #[callV k i n c ka kn kc, refV Aa arr.length Ac Ra R.length Rc o ar fl dd] w fun e w' => ∃ g c', w.heap.size ≤ g ∧ e = .returned (.tuple #[.agg #[.slice (some ⟨g, 0, none⟩) arr.length c', .slice none 0 0, .int .i64 o1, .int .i64 a1, .int .i64 f1, .bool d1], .agg (bcells zblk).toArray, .int .i64 0]) ∧ ArrS w' (some ⟨g, 0, none⟩) c' ((List.range arr.length).map fun i => arriveL (fun _ => true) i R 0 (arr.getD i []) false) ∧ Upd (fun _ => False) w w' := by
  subst hE
  have HA := Lib.hid hA0; have HR := Lib.hid hR; have HL := Lib.hid hl; have HAL := Lib.hid hal
  clear hA0 hR hl hal
  obtain ⟨zb, hzb⟩ : ∃ zb, zb = zblk := ⟨_, rfl⟩
  try rw [← hzb]
  have HZB := Lib.hid hzb
  have HBL : RowKit.Hid (zb.length = 64) := Lib.hid (by rw [hzb]; simp [zblk])
  clear hzb
  unfold callV refV
  go_enter Try.func45, Try.ntmps45
  go_upto_region 2 with fail
  refine (?_ : Code.wp _ _ _ _ (((((w.alloc (.cells #[.int .i64 k, .int .i64 i, .int .i64 n, .int .u8 c, .slice ka kn kc] 51)).alloc (.cells #[.slice Aa arr.length Ac, .slice Ra R.length Rc, .int .i64 o, .int .i64 ar, .int .i64 fl, .bool dd] 69)).alloc (.cells #[.slice none 0 0, .slice none 0 0, .int .i64 0, .int .i64 0, .int .i64 0, .bool false] 69)).alloc (.cells (bcells zblk).toArray 56)).alloc (.cells (bcells zblk).toArray 56)))
  obtain ⟨w1, hw1⟩ : ∃ w1, w1 = (((((w.alloc (.cells #[.int .i64 k, .int .i64 i, .int .i64 n, .int .u8 c, .slice ka kn kc] 51)).alloc (.cells #[.slice Aa arr.length Ac, .slice Ra R.length Rc, .int .i64 o, .int .i64 ar, .int .i64 fl, .bool dd] 69)).alloc (.cells #[.slice none 0 0, .slice none 0 0, .int .i64 0, .int .i64 0, .int .i64 0, .bool false] 69)).alloc (.cells (bcells zblk).toArray 56)).alloc (.cells (bcells zblk).toArray 56)) := ⟨_, rfl⟩
  have hs : SBox w w1 k i n c ka kn kc [.slice Aa arr.length Ac, .slice Ra R.length Rc, .int .i64 o, .int .i64 ar, .int .i64 fl, .bool dd] zb := by rw [hw1, HZB.out]; exact SBox.start w k i n c ka kn kc [.slice Aa arr.length Ac, .slice Ra R.length Rc, .int .i64 o, .int .i64 ar, .int .i64 fl, .bool dd]
  rw [← hw1]
  clear hw1
  have HS1 := Lib.hid hs
  obtain ⟨x0, x1, x2, x3, x4⟩ := box_cells hs.x
  obtain ⟨y0, y1, y2, y3, y4, y5⟩ := cells6_of hs.d
  clear hs
  go_wp2_with fail
  refine (kind_run' hκ i n c ka kn kc _).mono ?_
  rintro e w2 ⟨rfl, hu⟩
  clear x0 x1 x2 x3 x4 y0 y1 y2 y3 y4 y5
  have hs := HS1.out.kept hu
  clear hu
  have HS2 := Lib.hid hs
  obtain ⟨x0, x1, x2, x3, x4⟩ := box_cells hs.x
  obtain ⟨y0, y1, y2, y3, y4, y5⟩ := cells6_of hs.d
  clear hs
  simp only []
  go_wp2_with fail
  refine (why_run' Aa arr.length Ac Ra R.length Rc o ar fl 0 dd _ hAl.2 HNO).mono ?_
  rintro e w3 ⟨rfl, hu⟩
  clear x0 x1 x2 x3 x4 y0 y1 y2 y3 y4 y5
  have hs := HS2.out.kept hu
  clear hu
  have HS3 := Lib.hid hs
  obtain ⟨x0, x1, x2, x3, x4⟩ := box_cells hs.x
  obtain ⟨y0, y1, y2, y3, y4, y5⟩ := cells6_of hs.d
  clear hs
  simp only []
  go_wp2_with fail
  refine (kind_run' hκ i n c ka kn kc _).mono ?_
  rintro e w4 ⟨rfl, hu⟩
  clear x0 x1 x2 x3 x4 y0 y1 y2 y3 y4 y5
  have hs := HS3.out.kept hu
  clear hu
  have HS4 := Lib.hid hs
  obtain ⟨x0, x1, x2, x3, x4⟩ := box_cells hs.x
  obtain ⟨y0, y1, y2, y3, y4, y5⟩ := cells6_of hs.d
  clear hs
  simp only []
  go_wp2_with fail
  refine (kind_run' hκ i n c ka kn kc _).mono ?_
  rintro e w5 ⟨rfl, hu⟩
  clear x0 x1 x2 x3 x4 y0 y1 y2 y3 y4 y5
  have hs := HS4.out.kept hu
  clear hu
  have HS5 := Lib.hid hs
  obtain ⟨x0, x1, x2, x3, x4⟩ := box_cells hs.x
  obtain ⟨y0, y1, y2, y3, y4, y5⟩ := cells6_of hs.d
  clear hs
  simp only []
  go_wp2_with fail
  refine (kind_run' hκ i n c ka kn kc _).mono ?_
  rintro e w6 ⟨rfl, hu⟩
  clear x0 x1 x2 x3 x4 y0 y1 y2 y3 y4 y5
  have hs := HS5.out.kept hu
  clear hu
  have HS6 := Lib.hid hs
  obtain ⟨x0, x1, x2, x3, x4⟩ := box_cells hs.x
  obtain ⟨y0, y1, y2, y3, y4, y5⟩ := cells6_of hs.d
  clear hs
  simp only []
  go_upto_region 16 with fail
  have hA : SRd w w6.drew k i n c ka kn kc [.slice Aa arr.length Ac, .slice Ra R.length Rc, .int .i64 o, .int .i64 ar, .int .i64 fl, .bool dd] zb := (HS6.out.kept (Upd.refl _ w6).drew).rd
  clear x0 x1 x2 x3 x4 y0 y1 y2 y3 y4 y5
  refine wp_region_G 8 (fun W => SRd w W k i n c ka kn kc [.slice Aa arr.length Ac, .slice Ra R.length Rc, .int .i64 o, .int .i64 ar, .int .i64 fl, .bool dd] zb) [false, false, false, false, false, false, false, false, false, false] rfl (by kernel_rfl) ?_
  have HS7 := Lib.hid (HS6.out.kept (Upd.refl _ w6).drew)
  refine wpG_take (i := 0) (v := .agg [.slice Aa arr.length Ac, .slice Ra R.length Rc, .int .i64 o, .int .i64 ar, .int .i64 fl, .bool dd].toArray) rfl (by kernel_rfl) (fun _ _ _ h => h) hA (.inl ⟨rfl, fun w9 q1 => ?_⟩) ?_
  · exact run_load_mid' rfl rfl [.slice Aa arr.length Ac, .slice Ra R.length Rc, .int .i64 o, .int .i64 ar, .int .i64 fl, .bool dd] (rangeAt_block (b := w.heap.size + 1) (cs := [.slice Aa arr.length Ac, .slice Ra R.length Rc, .int .i64 o, .int .i64 ar, .int .i64 fl, .bool dd]) q1.d) Try.underlying69 rfl Try.size69q
  simp only [Act.put, List.setIfInBounds_toArray, List.set]
  refine wpG_take (i := 1) (v := .agg [.int .i64 k, .int .i64 i, .int .i64 n, .int .u8 c, .slice ka kn kc].toArray) rfl (by kernel_rfl) (fun _ _ _ h => h) hA (.inl ⟨rfl, fun w9 q1 => ?_⟩) ?_
  · exact run_load_mid' rfl rfl [.int .i64 k, .int .i64 i, .int .i64 n, .int .u8 c, .slice ka kn kc] (rangeAt_block (b := w.heap.size) (cs := [.int .i64 k, .int .i64 i, .int .i64 n, .int .u8 c, .slice ka kn kc]) q1.x) Try.underlying51 rfl Try.size51
  simp only [Act.put, List.setIfInBounds_toArray, List.set]
  refine wpG_do (i := 2) rfl (by kernel_rfl) rfl (fun K hK => ?_)
  have HK := Lib.hid hK
  clear hK
  go_step
  refine (kind_run' hκ i n c ka kn kc _).mono ?_
  rintro e w8 ⟨rfl, hu⟩
  have HS8 := Lib.hid (HS7.out.kept hu)
  
  clear hu hA
  have hA := HS8.out.rd
  simp only []
  refine HK.out _ _ hA ?_
  clear HK
  simp only [Act.put, List.setIfInBounds_toArray, List.set]
  refine wpG_take (i := 3) (v := .bool true) rfl (by kernel_rfl) (fun _ _ _ h => h) hA (.inl ⟨rfl, fun w9 q1 => ?_⟩) ?_
  · go_simp
  simp only [Act.put, List.setIfInBounds_toArray, List.set]
  refine wpG_do (i := 4) rfl (by kernel_rfl) rfl (fun K hK => ?_)
  have HK := Lib.hid hK
  clear hK
  go_step
  refine (meets_run' (o1 := o1) (a1 := a1) (f1 := f1) (E := 0) (d1 := d1) _ ho ha hf HM).mono ?_
  rintro e w9 ⟨rfl, hu⟩
  have HS9 := Lib.hid (HS8.out.kept hu)
  
  clear hu hA
  have hA := HS9.out.rd
  simp only []
  refine HK.out _ _ hA ?_
  clear HK
  simp only [Act.put, List.setIfInBounds_toArray, List.set]
  refine wpG_take (i := 5) (v := .tuple #[.agg [.slice Aa arr.length Ac, .slice Ra R.length Rc, .int .i64 o1, .int .i64 a1, .int .i64 f1, .bool d1].toArray, .int .i64 0]) rfl (by kernel_rfl) (fun _ _ _ h => h) hA (.inl ⟨rfl, fun w9 q1 => ?_⟩) ?_
  · go_simp
  simp only [Act.put, List.setIfInBounds_toArray, List.set]
  refine wpG_take (i := 6) (v := .agg [.slice Aa arr.length Ac, .slice Ra R.length Rc, .int .i64 o1, .int .i64 a1, .int .i64 f1, .bool d1].toArray) rfl (by kernel_rfl) (fun _ _ _ h => h) hA (.inl ⟨rfl, fun w9 q1 => ?_⟩) ?_
  · go_simp
  simp only [Act.put, List.setIfInBounds_toArray, List.set]
  refine wpG_takeP (i := 7) (v := .int .i64 0) rfl (by kernel_rfl) (fun _ _ _ h => h) (fun _ => hA) (.inl ⟨rfl, fun w9 q1 => ?_⟩) ?_
  · go_simp
  simp only [Act.put, List.setIfInBounds_toArray, List.set]
  refine wpG_tail_lit (k := 8) rfl rfl (by kernel_rfl) ?_
  simp only [List.drop]
  clear hA
  refine wpList_store_mid rfl 69 (.tmp 3) (.tmp 60) rfl (w.heap.size + 1) 0 [.slice Aa arr.length Ac, .slice Ra R.length Rc, .int .i64 o1, .int .i64 a1, .int .i64 f1, .bool d1].toArray rfl rfl (show w9.there (w.heap.size + 1) 0 6 from there_block HS9.out.d) Try.size69q (by simp [Value.oneCell']) ?_
  have hs := HS9.out.setD [.slice Aa arr.length Ac, .slice Ra R.length Rc, .int .i64 o1, .int .i64 a1, .int .i64 f1, .bool d1] rfl
  refine (?_ : wpList _ _ _ _ _ (w9.setCells (w.heap.size + 1) 0 [.slice Aa arr.length Ac, .slice Ra R.length Rc, .int .i64 o1, .int .i64 a1, .int .i64 f1, .bool d1]))
  generalize w9.setCells (w.heap.size + 1) 0 [.slice Aa arr.length Ac, .slice Ra R.length Rc, .int .i64 o1, .int .i64 a1, .int .i64 f1, .bool d1] = w10 at *
  have HS10 := Lib.hid hs
  obtain ⟨x0, x1, x2, x3, x4⟩ := box_cells hs.x
  obtain ⟨y0, y1, y2, y3, y4, y5⟩ := cells6_of hs.d
  clear hs
  go_wp2_with fail
  refine (kind_run' hκ i n c ka kn kc _).mono ?_
  rintro e w11 ⟨rfl, hu⟩
  clear x0 x1 x2 x3 x4 y0 y1 y2 y3 y4 y5
  have hs := HS10.out.kept hu
  clear hu
  have HS11 := Lib.hid hs
  obtain ⟨x0, x1, x2, x3, x4⟩ := box_cells hs.x
  obtain ⟨y0, y1, y2, y3, y4, y5⟩ := cells6_of hs.d
  clear hs
  simp only []
  go_wp2_with fail
  refine (kind_run' hκ i n c ka kn kc _).mono ?_
  rintro e w12 ⟨rfl, hu⟩
  clear x0 x1 x2 x3 x4 y0 y1 y2 y3 y4 y5
  have hs := HS11.out.kept hu
  clear hu
  have HS12 := Lib.hid hs
  obtain ⟨x0, x1, x2, x3, x4⟩ := box_cells hs.x
  obtain ⟨y0, y1, y2, y3, y4, y5⟩ := cells6_of hs.d
  clear hs
  simp only []
  go_wp2_with fail
  refine (arrive_run' Aa Ra Ac Rc arr R o1 a1 f1 d1 _ (HA.out.kept HS12.out.u) (HR.out.kept HS12.out.u) HL.out HAL.out hRl hAl).mono ?_
  rintro e w13 ⟨g, c2, hg, rfl, hO, hu⟩
  clear x0 x1 x2 x3 x4 y0 y1 y2 y3 y4 y5
  have hs := HS12.out.kept hu
  have hg2 : w.heap.size + 5 ≤ g := by have := lt_of_heap HS12.out.v; omega
  clear hu hg
  have HS13 := Lib.hid hs
  clear hs
  have HOO := Lib.hid hO
  clear hO
  simp only []
  go_step
  refine wpList_store_mid rfl 69 (.tmp 3) (.tmp 63) rfl (w.heap.size + 1) 0 [.slice (some ⟨g, 0, none⟩) arr.length c2, .slice none 0 0, .int .i64 o1, .int .i64 a1, .int .i64 f1, .bool d1].toArray rfl rfl (show w13.there (w.heap.size + 1) 0 6 from there_block HS13.out.d) Try.size69q (by simp [Value.oneCell']) ?_
  have hs := HS13.out.setD [.slice (some ⟨g, 0, none⟩) arr.length c2, .slice none 0 0, .int .i64 o1, .int .i64 a1, .int .i64 f1, .bool d1] rfl
  have ho2 : ArrS (w13.setCells (w.heap.size + 1) 0 [.slice (some ⟨g, 0, none⟩) arr.length c2, .slice none 0 0, .int .i64 o1, .int .i64 a1, .int .i64 f1, .bool d1]) (some ⟨g, 0, none⟩) c2 ((List.range arr.length).map fun i => arriveL (fun _ => true) i R 0 (arr.getD i []) false) := ownsRow_any HOO.out (upd_setCells w13 (w.heap.size + 1) 0 _) (fun k hk e => by simp [Value.ownBlock] at hk; omega)
  have HO5 := Lib.hid ho2
  clear ho2 HOO
  refine (?_ : wpList _ _ _ _ _ (w13.setCells (w.heap.size + 1) 0 [.slice (some ⟨g, 0, none⟩) arr.length c2, .slice none 0 0, .int .i64 o1, .int .i64 a1, .int .i64 f1, .bool d1]))
  generalize w13.setCells (w.heap.size + 1) 0 [.slice (some ⟨g, 0, none⟩) arr.length c2, .slice none 0 0, .int .i64 o1, .int .i64 a1, .int .i64 f1, .bool d1] = w14 at *
  have HS14 := Lib.hid hs
  obtain ⟨x0, x1, x2, x3, x4⟩ := box_cells hs.x
  obtain ⟨y0, y1, y2, y3, y4, y5⟩ := cells6_of hs.d
  clear hs
  go_upto_region 23 with fail
  have hA : SRd w w14.drew k i n c ka kn kc [.slice (some ⟨g, 0, none⟩) arr.length c2, .slice none 0 0, .int .i64 o1, .int .i64 a1, .int .i64 f1, .bool d1] zb := (HS14.out.kept (Upd.refl _ w14).drew).rd
  clear x0 x1 x2 x3 x4 y0 y1 y2 y3 y4 y5
  refine wp_region_G 5 (fun W => SRd w W k i n c ka kn kc [.slice (some ⟨g, 0, none⟩) arr.length c2, .slice none 0 0, .int .i64 o1, .int .i64 a1, .int .i64 f1, .bool d1] zb) [false, false, false, false, false, false] rfl (by kernel_rfl) ?_
  have HS15 := Lib.hid (HS14.out.kept (Upd.refl _ w14).drew)
  refine wpG_take (i := 0) (v := .agg [.slice (some ⟨g, 0, none⟩) arr.length c2, .slice none 0 0, .int .i64 o1, .int .i64 a1, .int .i64 f1, .bool d1].toArray) rfl (by kernel_rfl) (fun _ _ _ h => h) hA (.inl ⟨rfl, fun w9 q1 => ?_⟩) ?_
  · exact run_load_mid' rfl rfl [.slice (some ⟨g, 0, none⟩) arr.length c2, .slice none 0 0, .int .i64 o1, .int .i64 a1, .int .i64 f1, .bool d1] (rangeAt_block (b := w.heap.size + 1) (cs := [.slice (some ⟨g, 0, none⟩) arr.length c2, .slice none 0 0, .int .i64 o1, .int .i64 a1, .int .i64 f1, .bool d1]) q1.d) Try.underlying69 rfl Try.size69q
  simp only [Act.put, List.setIfInBounds_toArray, List.set]
  refine wpG_take (i := 1) (v := .agg (bcells zb).toArray) rfl (by kernel_rfl) (fun _ _ _ h => h) hA (.inl ⟨rfl, fun w9 q1 => ?_⟩) ?_
  · exact run_load_mid' rfl rfl (bcells zb) (rangeAt_block (b := w.heap.size + 1 + 1 + 1 + 1) (cs := (bcells zb)) q1.v) Try.underlying56 rfl (by rw [Try.info56p, bcells_length, HBL.out])
  simp only [Act.put, List.setIfInBounds_toArray, List.set]
  refine wpG_take (i := 2) (v := .int .i64 0) rfl (by kernel_rfl) (fun _ _ _ h => h) hA (.inl ⟨rfl, fun w9 q1 => ?_⟩) ?_
  · go_simp
  simp only [Act.put, List.setIfInBounds_toArray, List.set]
  obtain ⟨ot1, ot2, ot3, ot4⟩ := HS15.out.out [.slice (some ⟨g, 0, none⟩) arr.length c2, .slice none 0 0, .int .i64 o1, .int .i64 a1, .int .i64 f1, .bool d1] rfl zb HBL.out
  have HO1 := Lib.hid ot1; have HO2 := Lib.hid ot2; have HO3 := Lib.hid ot3; have HO4 := Lib.hid ot4
  have u1 : Upd (fun j => j = w.heap.size + 1 + 1 ∨ j = w.heap.size + 1 + 1 + 1) w14.drew (w14.drew.setCells (w.heap.size + 1 + 1) 0 [.slice (some ⟨g, 0, none⟩) arr.length c2, .slice none 0 0, .int .i64 o1, .int .i64 a1, .int .i64 f1, .bool d1]) := (upd_setCells w14.drew (w.heap.size + 1 + 1) 0 [.slice (some ⟨g, 0, none⟩) arr.length c2, .slice none 0 0, .int .i64 o1, .int .i64 a1, .int .i64 f1, .bool d1]).mono (fun j _ e => .inl e)
  have u2 : Upd (fun j => j = w.heap.size + 1 + 1 ∨ j = w.heap.size + 1 + 1 + 1) (w14.drew.setCells (w.heap.size + 1 + 1) 0 [.slice (some ⟨g, 0, none⟩) arr.length c2, .slice none 0 0, .int .i64 o1, .int .i64 a1, .int .i64 f1, .bool d1]) ((w14.drew.setCells (w.heap.size + 1 + 1) 0 [.slice (some ⟨g, 0, none⟩) arr.length c2, .slice none 0 0, .int .i64 o1, .int .i64 a1, .int .i64 f1, .bool d1]).setCells (w.heap.size + 1 + 1 + 1) 0 (bcells zb)) := (upd_setCells (w14.drew.setCells (w.heap.size + 1 + 1) 0 [.slice (some ⟨g, 0, none⟩) arr.length c2, .slice none 0 0, .int .i64 o1, .int .i64 a1, .int .i64 f1, .bool d1]) (w.heap.size + 1 + 1 + 1) 0 (bcells zb)).mono (fun j _ e => .inr e)
  have hA1 := hA.off u1
  have hA2 := hA1.off u2
  have ht1 : w14.drew.there (w.heap.size + 1 + 1) 0 6 := there_block HS15.out.r
  have ht2 : (w14.drew.setCells (w.heap.size + 1 + 1) 0 [.slice (some ⟨g, 0, none⟩) arr.length c2, .slice none 0 0, .int .i64 o1, .int .i64 a1, .int .i64 f1, .bool d1]).there (w.heap.size + 1 + 1 + 1) 0 (bcells zb).toArray.size := by
    have := there_block (((upd_setCells w14.drew (w.heap.size + 1 + 1) 0 [.slice (some ⟨g, 0, none⟩) arr.length c2, .slice none 0 0, .int .i64 o1, .int .i64 a1, .int .i64 f1, .bool d1]).block _ (lt_of_heap HS15.out.b) (by omega)).trans HS15.out.b)
    rwa [show (bcells zblk).toArray.size = (bcells zb).toArray.size by simp [bcells_length, HBL.out, zblk]] at this
  clear ot1 ot2 ot3 ot4
  refine wpG_do (i := 3) rfl (by kernel_rfl) rfl (fun K hK => ?_)
  have HK := Lib.hid hK
  clear hK
  refine wp_store_mid 69 (.tmp 4) (.tmp 89) rfl (w.heap.size + 1 + 1) 0 [.slice (some ⟨g, 0, none⟩) arr.length c2, .slice none 0 0, .int .i64 o1, .int .i64 a1, .int .i64 f1, .bool d1].toArray rfl rfl ht1 Try.size69q (by simp [Value.oneCell']) ?_
  refine HK.out _ _ hA1 ?_
  clear HK
  simp only [Act.put, List.setIfInBounds_toArray, List.set]
  refine wpG_do (i := 4) rfl (by kernel_rfl) rfl (fun K hK => ?_)
  have HK := Lib.hid hK
  clear hK
  refine wp_store_mid 56 (.tmp 5) (.tmp 90) rfl (w.heap.size + 1 + 1 + 1) 0 (bcells zb).toArray rfl rfl ht2 (by rw [Try.info56p]; simp [bcells_length, HBL.out]) (all_oneCell_toArray (bcells_one _)) ?_
  refine HK.out _ _ hA2 ?_
  clear HK
  simp only [Act.put, List.setIfInBounds_toArray, List.set]
  refine wpG_tail_lit (k := 5) rfl rfl (by kernel_rfl) ?_
  simp only [List.drop]
  refine (?_ : wpList _ _ _ _ _ ((w14.drew.setCells (w.heap.size + 1 + 1) 0 [.slice (some ⟨g, 0, none⟩) arr.length c2, .slice none 0 0, .int .i64 o1, .int .i64 a1, .int .i64 f1, .bool d1]).setCells (w.heap.size + 1 + 1 + 1) 0 (bcells zb)))
  clear hA hA1 hA2 u1 u2 ht1 ht2
  generalize ((w14.drew.setCells (w.heap.size + 1 + 1) 0 [.slice (some ⟨g, 0, none⟩) arr.length c2, .slice none 0 0, .int .i64 o1, .int .i64 a1, .int .i64 f1, .bool d1]).setCells (w.heap.size + 1 + 1 + 1) 0 (bcells zb)) = wf at *
  go_wp2
  refine says_fin HO1.out rfl HO2.out HBL.out rfl rfl ⟨g, c2, by omega, rfl, ?_, HO4.out⟩
  exact ownsRow_any HO5.out HO3.out.undrew (fun k hk e => by simp [Value.ownBlock] at hk; omega)

end Go.Proofs.Ytbimkhdiplnbfaa
end

