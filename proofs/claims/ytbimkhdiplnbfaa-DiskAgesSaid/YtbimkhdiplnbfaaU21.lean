/- Walks of the laws: says, stop6. -/
import Derived.Test.YtbimkhdiplnbfaaU15
import Derived.Test.YtbimkhdiplnbfaaU18
import Derived.Test.YtbimkhdiplnbfaaU19
import Derived.Test.YtbimkhdiplnbfaaU20

section
namespace Go.Proofs.Ytbimkhdiplnbfaa
open Go.RowKit Go.Deep

set_option maxRecDepth 100000 in
set_option maxHeartbeats 4000000 in
theorem says_stop6 (k i n c : Int) (ka : Option Addr) (kn kc : Nat) (Aa Ra : Option Addr) (Ac Rc : Nat) (arr : List (List Int)) (R : List (Nat × List Int × Int)) (o ar fl : Int) (dd : Bool) (w : World) (hκ : kindOf k = 6) (hA0 : ArrS w Aa Ac arr) (hR : RowR w Ra Rc R) (hl : ∀ x ∈ R, x.2.1.length = 64) (hal : ∀ b ∈ arr, b.length = 64) (_hRl : R.length ≤ 1000000) (hAl : 1 ≤ arr.length ∧ arr.length ≤ 2048) (HNO : RowKit.Hid (whyE dd arr.length 0 = 0)) (ho : 0 ≤ o ∧ o ≤ 1000000) (ha : -1 ≤ ar ∧ ar ≤ 9223372036854775807) (hf : -1 ≤ fl ∧ fl ≤ 9223372036854775807) {o1 a1 f1 E : Int} {d1 : Bool}
    (HM : RowKit.Hid (MeetsAs true o ar fl dd o1 a1 f1 E d1)) (hE : (E != 0) = true) :
    Calls Try.prog 45 #[callV k i n c ka kn kc, refV Aa arr.length Ac Ra R.length Rc o ar fl dd] w fun e w' => e = .returned (.tuple #[.agg #[.slice Aa arr.length Ac, .slice Ra R.length Rc, .int .i64 o1, .int .i64 a1, .int .i64 f1, .bool d1], .agg (bcells zblk).toArray, .int .i64 E]) ∧ Upd (fun _ => False) w w' := by
  have HA := Lib.hid hA0; have HR := Lib.hid hR; have HL := Lib.hid hl; have HAL := Lib.hid hal
  clear hA0 hR hl hal
  obtain ⟨zb, hzb⟩ : ∃ zb, zb = zblk := ⟨_, rfl⟩
  try rw [← hzb]
  have HZB := Lib.hid hzb
  have HBL : RowKit.Hid (zb.length = 64) := Lib.hid (by rw [hzb]; simp [zblk])
  clear hzb
  unfold callV refV
  go_enter Try.func45, Try.ntmps45
  go_upto_region 2 with fail
  refine (?_ : Code.wp _ _ _ _ (((((w.alloc (.cells #[.int .i64 k, .int .i64 i, .int .i64 n, .int .u8 c, .slice ka kn kc] 51)).alloc (.cells #[.slice Aa arr.length Ac, .slice Ra R.length Rc, .int .i64 o, .int .i64 ar, .int .i64 fl, .bool dd] 69)).alloc (.cells #[.slice none 0 0, .slice none 0 0, .int .i64 0, .int .i64 0, .int .i64 0, .bool false] 69)).alloc (.cells (bcells zblk).toArray 56)).alloc (.cells (bcells zblk).toArray 56)))
  obtain ⟨w1, hw1⟩ : ∃ w1, w1 = (((((w.alloc (.cells #[.int .i64 k, .int .i64 i, .int .i64 n, .int .u8 c, .slice ka kn kc] 51)).alloc (.cells #[.slice Aa arr.length Ac, .slice Ra R.length Rc, .int .i64 o, .int .i64 ar, .int .i64 fl, .bool dd] 69)).alloc (.cells #[.slice none 0 0, .slice none 0 0, .int .i64 0, .int .i64 0, .int .i64 0, .bool false] 69)).alloc (.cells (bcells zblk).toArray 56)).alloc (.cells (bcells zblk).toArray 56)) := ⟨_, rfl⟩
  have hs : SBox w w1 k i n c ka kn kc [.slice Aa arr.length Ac, .slice Ra R.length Rc, .int .i64 o, .int .i64 ar, .int .i64 fl, .bool dd] zb := by rw [hw1, HZB.out]; exact SBox.start w k i n c ka kn kc [.slice Aa arr.length Ac, .slice Ra R.length Rc, .int .i64 o, .int .i64 ar, .int .i64 fl, .bool dd]
  rw [← hw1]
  clear hw1
  have HS1 := Lib.hid hs
  obtain ⟨x0, x1, x2, x3, x4⟩ := box_cells hs.x
  obtain ⟨y0, y1, y2, y3, y4, y5⟩ := cells6_of hs.d
  clear hs
  go_wp2_with fail
  refine (kind_run' hκ i n c ka kn kc _).mono ?_
  rintro e w2 ⟨rfl, hu⟩
  clear x0 x1 x2 x3 x4 y0 y1 y2 y3 y4 y5
  have hs := HS1.out.kept hu
  clear hu
  have HS2 := Lib.hid hs
  obtain ⟨x0, x1, x2, x3, x4⟩ := box_cells hs.x
  obtain ⟨y0, y1, y2, y3, y4, y5⟩ := cells6_of hs.d
  clear hs
  simp only []
  go_wp2_with fail
  refine (why_run' Aa arr.length Ac Ra R.length Rc o ar fl 0 dd _ hAl.2 HNO).mono ?_
  rintro e w3 ⟨rfl, hu⟩
  clear x0 x1 x2 x3 x4 y0 y1 y2 y3 y4 y5
  have hs := HS2.out.kept hu
  clear hu
  have HS3 := Lib.hid hs
  obtain ⟨x0, x1, x2, x3, x4⟩ := box_cells hs.x
  obtain ⟨y0, y1, y2, y3, y4, y5⟩ := cells6_of hs.d
  clear hs
  simp only []
  go_wp2_with fail
  refine (kind_run' hκ i n c ka kn kc _).mono ?_
  rintro e w4 ⟨rfl, hu⟩
  clear x0 x1 x2 x3 x4 y0 y1 y2 y3 y4 y5
  have hs := HS3.out.kept hu
  clear hu
  have HS4 := Lib.hid hs
  obtain ⟨x0, x1, x2, x3, x4⟩ := box_cells hs.x
  obtain ⟨y0, y1, y2, y3, y4, y5⟩ := cells6_of hs.d
  clear hs
  simp only []
  go_wp2_with fail
  refine (kind_run' hκ i n c ka kn kc _).mono ?_
  rintro e w5 ⟨rfl, hu⟩
  clear x0 x1 x2 x3 x4 y0 y1 y2 y3 y4 y5
  have hs := HS4.out.kept hu
  clear hu
  have HS5 := Lib.hid hs
  obtain ⟨x0, x1, x2, x3, x4⟩ := box_cells hs.x
  obtain ⟨y0, y1, y2, y3, y4, y5⟩ := cells6_of hs.d
  clear hs
  simp only []
  go_wp2_with fail
  refine (kind_run' hκ i n c ka kn kc _).mono ?_
  rintro e w6 ⟨rfl, hu⟩
  clear x0 x1 x2 x3 x4 y0 y1 y2 y3 y4 y5
  have hs := HS5.out.kept hu
  clear hu
  have HS6 := Lib.hid hs
  obtain ⟨x0, x1, x2, x3, x4⟩ := box_cells hs.x
  obtain ⟨y0, y1, y2, y3, y4, y5⟩ := cells6_of hs.d
  clear hs
  simp only []
  go_upto_region 16 with fail
  have hA : SRd w w6.drew k i n c ka kn kc [.slice Aa arr.length Ac, .slice Ra R.length Rc, .int .i64 o, .int .i64 ar, .int .i64 fl, .bool dd] zb := (HS6.out.kept (Upd.refl _ w6).drew).rd
  clear x0 x1 x2 x3 x4 y0 y1 y2 y3 y4 y5
  refine wp_region_G 8 (fun W => SRd w W k i n c ka kn kc [.slice Aa arr.length Ac, .slice Ra R.length Rc, .int .i64 o, .int .i64 ar, .int .i64 fl, .bool dd] zb) [false, false, false, false, false, false, false, false, false, false] rfl (by kernel_rfl) ?_
  have HS7 := Lib.hid (HS6.out.kept (Upd.refl _ w6).drew)
  refine wpG_take (i := 0) (v := .agg [.slice Aa arr.length Ac, .slice Ra R.length Rc, .int .i64 o, .int .i64 ar, .int .i64 fl, .bool dd].toArray) rfl (by kernel_rfl) (fun _ _ _ h => h) hA (.inl ⟨rfl, fun w9 q1 => ?_⟩) ?_
  · exact run_load_mid' rfl rfl [.slice Aa arr.length Ac, .slice Ra R.length Rc, .int .i64 o, .int .i64 ar, .int .i64 fl, .bool dd] (rangeAt_block (b := w.heap.size + 1) (cs := [.slice Aa arr.length Ac, .slice Ra R.length Rc, .int .i64 o, .int .i64 ar, .int .i64 fl, .bool dd]) q1.d) Try.underlying69 rfl Try.size69q
  simp only [Act.put, List.setIfInBounds_toArray, List.set]
  refine wpG_take (i := 1) (v := .agg [.int .i64 k, .int .i64 i, .int .i64 n, .int .u8 c, .slice ka kn kc].toArray) rfl (by kernel_rfl) (fun _ _ _ h => h) hA (.inl ⟨rfl, fun w9 q1 => ?_⟩) ?_
  · exact run_load_mid' rfl rfl [.int .i64 k, .int .i64 i, .int .i64 n, .int .u8 c, .slice ka kn kc] (rangeAt_block (b := w.heap.size) (cs := [.int .i64 k, .int .i64 i, .int .i64 n, .int .u8 c, .slice ka kn kc]) q1.x) Try.underlying51 rfl Try.size51
  simp only [Act.put, List.setIfInBounds_toArray, List.set]
  refine wpG_do (i := 2) rfl (by kernel_rfl) rfl (fun K hK => ?_)
  have HK := Lib.hid hK
  clear hK
  go_step
  refine (kind_run' hκ i n c ka kn kc _).mono ?_
  rintro e w8 ⟨rfl, hu⟩
  have HS8 := Lib.hid (HS7.out.kept hu)
  
  clear hu hA
  have hA := HS8.out.rd
  simp only []
  refine HK.out _ _ hA ?_
  clear HK
  simp only [List.setIfInBounds_toArray, List.set]
  refine wpG_take (i := 3) (v := .bool true) rfl (by kernel_rfl) (fun _ _ _ h => h) hA (.inl ⟨rfl, fun w9 q1 => ?_⟩) ?_
  · go_simp
  simp only [Act.put, List.setIfInBounds_toArray, List.set]
  refine wpG_do (i := 4) rfl (by kernel_rfl) rfl (fun K hK => ?_)
  have HK := Lib.hid hK
  clear hK
  go_step
  refine (meets_run' (o1 := o1) (a1 := a1) (f1 := f1) (E := E) (d1 := d1) _ ho ha hf HM).mono ?_
  rintro e w9 ⟨rfl, hu⟩
  have HS9 := Lib.hid (HS8.out.kept hu)
  
  clear hu hA
  have hA := HS9.out.rd
  simp only []
  refine HK.out _ _ hA ?_
  clear HK
  simp only [List.setIfInBounds_toArray, List.set]
  refine wpG_take (i := 5) (v := .tuple #[.agg [.slice Aa arr.length Ac, .slice Ra R.length Rc, .int .i64 o1, .int .i64 a1, .int .i64 f1, .bool d1].toArray, .int .i64 E]) rfl (by kernel_rfl) (fun _ _ _ h => h) hA (.inl ⟨rfl, fun w9 q1 => ?_⟩) ?_
  · go_simp
  simp only [Act.put, List.setIfInBounds_toArray, List.set]
  refine wpG_take (i := 6) (v := .agg [.slice Aa arr.length Ac, .slice Ra R.length Rc, .int .i64 o1, .int .i64 a1, .int .i64 f1, .bool d1].toArray) rfl (by kernel_rfl) (fun _ _ _ h => h) hA (.inl ⟨rfl, fun w9 q1 => ?_⟩) ?_
  · go_simp
  simp only [Act.put, List.setIfInBounds_toArray, List.set]
  refine wpG_takeP (i := 7) (v := .int .i64 E) rfl (by kernel_rfl) (fun _ _ _ h => h) (fun _ => hA) (.inl ⟨rfl, fun w9 q1 => ?_⟩) ?_
  · go_simp
  simp only [Act.put, List.setIfInBounds_toArray, List.set]
  refine wpG_tail_lit (k := 8) rfl rfl (by kernel_rfl) ?_
  simp only [List.drop]
  clear hA
  refine wpList_store_mid rfl 69 (.tmp 3) (.tmp 60) rfl (w.heap.size + 1) 0 [.slice Aa arr.length Ac, .slice Ra R.length Rc, .int .i64 o1, .int .i64 a1, .int .i64 f1, .bool d1].toArray rfl rfl (show w9.there (w.heap.size + 1) 0 6 from there_block HS9.out.d) Try.size69q (by simp [Value.oneCell']) ?_
  have hs := HS9.out.setD [.slice Aa arr.length Ac, .slice Ra R.length Rc, .int .i64 o1, .int .i64 a1, .int .i64 f1, .bool d1] rfl
  refine (?_ : wpList _ _ _ _ _ (w9.setCells (w.heap.size + 1) 0 [.slice Aa arr.length Ac, .slice Ra R.length Rc, .int .i64 o1, .int .i64 a1, .int .i64 f1, .bool d1]))
  generalize w9.setCells (w.heap.size + 1) 0 [.slice Aa arr.length Ac, .slice Ra R.length Rc, .int .i64 o1, .int .i64 a1, .int .i64 f1, .bool d1] = w10 at *
  have HS10 := Lib.hid hs
  obtain ⟨x0, x1, x2, x3, x4⟩ := box_cells hs.x
  obtain ⟨y0, y1, y2, y3, y4, y5⟩ := cells6_of hs.d
  clear hs
  go_wp2_with fail
  refine (kind_run' hκ i n c ka kn kc _).mono ?_
  rintro e w11 ⟨rfl, hu⟩
  clear x0 x1 x2 x3 x4 y0 y1 y2 y3 y4 y5
  have hs := HS10.out.kept hu
  clear hu
  have HS11 := Lib.hid hs
  obtain ⟨x0, x1, x2, x3, x4⟩ := box_cells hs.x
  obtain ⟨y0, y1, y2, y3, y4, y5⟩ := cells6_of hs.d
  clear hs
  simp only []
  go_upto_region 23 with fail
  have hA : SRd w w11.drew k i n c ka kn kc [.slice Aa arr.length Ac, .slice Ra R.length Rc, .int .i64 o1, .int .i64 a1, .int .i64 f1, .bool d1] zb := (HS11.out.kept (Upd.refl _ w11).drew).rd
  clear x0 x1 x2 x3 x4 y0 y1 y2 y3 y4 y5
  refine wp_region_G 5 (fun W => SRd w W k i n c ka kn kc [.slice Aa arr.length Ac, .slice Ra R.length Rc, .int .i64 o1, .int .i64 a1, .int .i64 f1, .bool d1] zb) [false, false, false, false, false, false] rfl (by kernel_rfl) ?_
  have HS12 := Lib.hid (HS11.out.kept (Upd.refl _ w11).drew)
  refine wpG_take (i := 0) (v := .agg [.slice Aa arr.length Ac, .slice Ra R.length Rc, .int .i64 o1, .int .i64 a1, .int .i64 f1, .bool d1].toArray) rfl (by kernel_rfl) (fun _ _ _ h => h) hA (.inl ⟨rfl, fun w9 q1 => ?_⟩) ?_
  · exact run_load_mid' rfl rfl [.slice Aa arr.length Ac, .slice Ra R.length Rc, .int .i64 o1, .int .i64 a1, .int .i64 f1, .bool d1] (rangeAt_block (b := w.heap.size + 1) (cs := [.slice Aa arr.length Ac, .slice Ra R.length Rc, .int .i64 o1, .int .i64 a1, .int .i64 f1, .bool d1]) q1.d) Try.underlying69 rfl Try.size69q
  simp only [Act.put, List.setIfInBounds_toArray, List.set]
  refine wpG_take (i := 1) (v := .agg (bcells zb).toArray) rfl (by kernel_rfl) (fun _ _ _ h => h) hA (.inl ⟨rfl, fun w9 q1 => ?_⟩) ?_
  · exact run_load_mid' rfl rfl (bcells zb) (rangeAt_block (b := w.heap.size + 1 + 1 + 1 + 1) (cs := (bcells zb)) q1.v) Try.underlying56 rfl (by rw [Try.info56p, bcells_length, HBL.out])
  simp only [Act.put, List.setIfInBounds_toArray, List.set]
  refine wpG_take (i := 2) (v := .int .i64 E) rfl (by kernel_rfl) (fun _ _ _ h => h) hA (.inl ⟨rfl, fun w9 q1 => ?_⟩) ?_
  · go_simp
  simp only [Act.put, List.setIfInBounds_toArray, List.set]
  obtain ⟨ot1, ot2, ot3, ot4⟩ := HS12.out.out [.slice Aa arr.length Ac, .slice Ra R.length Rc, .int .i64 o1, .int .i64 a1, .int .i64 f1, .bool d1] rfl zb HBL.out
  have HO1 := Lib.hid ot1; have HO2 := Lib.hid ot2; have HO3 := Lib.hid ot3; have HO4 := Lib.hid ot4
  have u1 : Upd (fun j => j = w.heap.size + 1 + 1 ∨ j = w.heap.size + 1 + 1 + 1) w11.drew (w11.drew.setCells (w.heap.size + 1 + 1) 0 [.slice Aa arr.length Ac, .slice Ra R.length Rc, .int .i64 o1, .int .i64 a1, .int .i64 f1, .bool d1]) := (upd_setCells w11.drew (w.heap.size + 1 + 1) 0 [.slice Aa arr.length Ac, .slice Ra R.length Rc, .int .i64 o1, .int .i64 a1, .int .i64 f1, .bool d1]).mono (fun j _ e => .inl e)
  have u2 : Upd (fun j => j = w.heap.size + 1 + 1 ∨ j = w.heap.size + 1 + 1 + 1) (w11.drew.setCells (w.heap.size + 1 + 1) 0 [.slice Aa arr.length Ac, .slice Ra R.length Rc, .int .i64 o1, .int .i64 a1, .int .i64 f1, .bool d1]) ((w11.drew.setCells (w.heap.size + 1 + 1) 0 [.slice Aa arr.length Ac, .slice Ra R.length Rc, .int .i64 o1, .int .i64 a1, .int .i64 f1, .bool d1]).setCells (w.heap.size + 1 + 1 + 1) 0 (bcells zb)) := (upd_setCells (w11.drew.setCells (w.heap.size + 1 + 1) 0 [.slice Aa arr.length Ac, .slice Ra R.length Rc, .int .i64 o1, .int .i64 a1, .int .i64 f1, .bool d1]) (w.heap.size + 1 + 1 + 1) 0 (bcells zb)).mono (fun j _ e => .inr e)
  have hA1 := hA.off u1
  have hA2 := hA1.off u2
  have ht1 : w11.drew.there (w.heap.size + 1 + 1) 0 6 := there_block HS12.out.r
  have ht2 : (w11.drew.setCells (w.heap.size + 1 + 1) 0 [.slice Aa arr.length Ac, .slice Ra R.length Rc, .int .i64 o1, .int .i64 a1, .int .i64 f1, .bool d1]).there (w.heap.size + 1 + 1 + 1) 0 (bcells zb).toArray.size := by
    have := there_block (((upd_setCells w11.drew (w.heap.size + 1 + 1) 0 [.slice Aa arr.length Ac, .slice Ra R.length Rc, .int .i64 o1, .int .i64 a1, .int .i64 f1, .bool d1]).block _ (lt_of_heap HS12.out.b) (by omega)).trans HS12.out.b)
    rwa [show (bcells zblk).toArray.size = (bcells zb).toArray.size by simp [bcells_length, HBL.out, zblk]] at this
  clear ot1 ot2 ot3 ot4
  refine wpG_do (i := 3) rfl (by kernel_rfl) rfl (fun K hK => ?_)
  have HK := Lib.hid hK
  clear hK
  refine wp_store_mid 69 (.tmp 4) (.tmp 89) rfl (w.heap.size + 1 + 1) 0 [.slice Aa arr.length Ac, .slice Ra R.length Rc, .int .i64 o1, .int .i64 a1, .int .i64 f1, .bool d1].toArray rfl rfl ht1 Try.size69q (by simp [Value.oneCell']) ?_
  refine HK.out _ _ hA1 ?_
  clear HK
  simp only [Act.put, List.setIfInBounds_toArray, List.set]
  refine wpG_do (i := 4) rfl (by kernel_rfl) rfl (fun K hK => ?_)
  have HK := Lib.hid hK
  clear hK
  refine wp_store_mid 56 (.tmp 5) (.tmp 90) rfl (w.heap.size + 1 + 1 + 1) 0 (bcells zb).toArray rfl rfl ht2 (by rw [Try.info56p]; simp [bcells_length, HBL.out]) (all_oneCell_toArray (bcells_one _)) ?_
  refine HK.out _ _ hA2 ?_
  clear HK
  simp only [Act.put, List.setIfInBounds_toArray, List.set]
  refine wpG_tail_lit (k := 5) rfl rfl (by kernel_rfl) ?_
  simp only [List.drop]
  refine (?_ : wpList _ _ _ _ _ ((w11.drew.setCells (w.heap.size + 1 + 1) 0 [.slice Aa arr.length Ac, .slice Ra R.length Rc, .int .i64 o1, .int .i64 a1, .int .i64 f1, .bool d1]).setCells (w.heap.size + 1 + 1 + 1) 0 (bcells zb)))
  clear hA hA1 hA2 u1 u2 ht1 ht2
  generalize ((w11.drew.setCells (w.heap.size + 1 + 1) 0 [.slice Aa arr.length Ac, .slice Ra R.length Rc, .int .i64 o1, .int .i64 a1, .int .i64 f1, .bool d1]).setCells (w.heap.size + 1 + 1 + 1) 0 (bcells zb)) = wf at *
  go_wp2
  exact says_fin HO1.out rfl HO2.out HBL.out rfl rfl ⟨rfl, HO4.out⟩

end Go.Proofs.Ytbimkhdiplnbfaa
end

section
namespace Go.Proofs.Ytbimkhdiplnbfaa
open Go.RowKit Go.Deep

set_option maxRecDepth 100000 in
set_option maxHeartbeats 4000000 in
theorem says_shows (k n c : Int) (j : Nat) (ka : Option Addr) (kn kc : Nat) (Aa Ra : Option Addr) (Ac Rc : Nat) (arr : List (List Int)) (R : List (Nat × List Int × Int)) (o ar fl : Int) (dd : Bool) (w : World) (hκ : kindOf k = 5) (hA0 : ArrS w Aa Ac arr) (hR : RowR w Ra Rc R) (hl : ∀ x ∈ R, x.2.1.length = 64) (hal : ∀ b ∈ arr, b.length = 64) (hRl : R.length ≤ 1000000) (hAl : 1 ≤ arr.length ∧ arr.length ≤ 2048) (HNO : RowKit.Hid (whyE dd arr.length (j : Int) = 0)) (ho : 0 ≤ o ∧ o ≤ 1000000) (ha : -1 ≤ ar ∧ ar ≤ 9223372036854775807) (hf : -1 ≤ fl ∧ fl ≤ 9223372036854775807) {o1 a1 f1 E : Int} {d1 : Bool}
    (HM : RowKit.Hid (MeetsAs false o ar fl dd o1 a1 f1 E d1)) (hE : E = 0) (hj : j < arr.length) :
    Calls Try.prog 45 #[callV k (j : Int) n c ka kn kc, refV Aa arr.length Ac Ra R.length Rc o ar fl dd] w fun e w' => e = .returned (.tuple #[.agg #[.slice Aa arr.length Ac, .slice Ra R.length Rc, .int .i64 o1, .int .i64 a1, .int .i64 f1, .bool d1], .agg (bcells (shL j (arr.getD j []) R)).toArray, .int .i64 0]) ∧ Upd (fun _ => False) w w' := by
  subst hE
  have HA := Lib.hid hA0; have HR := Lib.hid hR; have HL := Lib.hid hl; have HAL := Lib.hid hal
  clear hA0 hR hl hal
  obtain ⟨zb, hzb⟩ : ∃ zb, zb = zblk := ⟨_, rfl⟩
  try rw [← hzb]
  have HZB := Lib.hid hzb
  have HBL : RowKit.Hid (zb.length = 64) := Lib.hid (by rw [hzb]; simp [zblk])
  clear hzb
  unfold callV refV
  go_enter Try.func45, Try.ntmps45
  go_upto_region 2 with fail
  refine (?_ : Code.wp _ _ _ _ (((((w.alloc (.cells #[.int .i64 k, .int .i64 (j : Int), .int .i64 n, .int .u8 c, .slice ka kn kc] 51)).alloc (.cells #[.slice Aa arr.length Ac, .slice Ra R.length Rc, .int .i64 o, .int .i64 ar, .int .i64 fl, .bool dd] 69)).alloc (.cells #[.slice none 0 0, .slice none 0 0, .int .i64 0, .int .i64 0, .int .i64 0, .bool false] 69)).alloc (.cells (bcells zblk).toArray 56)).alloc (.cells (bcells zblk).toArray 56)))
  obtain ⟨w1, hw1⟩ : ∃ w1, w1 = (((((w.alloc (.cells #[.int .i64 k, .int .i64 (j : Int), .int .i64 n, .int .u8 c, .slice ka kn kc] 51)).alloc (.cells #[.slice Aa arr.length Ac, .slice Ra R.length Rc, .int .i64 o, .int .i64 ar, .int .i64 fl, .bool dd] 69)).alloc (.cells #[.slice none 0 0, .slice none 0 0, .int .i64 0, .int .i64 0, .int .i64 0, .bool false] 69)).alloc (.cells (bcells zblk).toArray 56)).alloc (.cells (bcells zblk).toArray 56)) := ⟨_, rfl⟩
  have hs : SBox w w1 k (j : Int) n c ka kn kc [.slice Aa arr.length Ac, .slice Ra R.length Rc, .int .i64 o, .int .i64 ar, .int .i64 fl, .bool dd] zb := by rw [hw1, HZB.out]; exact SBox.start w k (j : Int) n c ka kn kc [.slice Aa arr.length Ac, .slice Ra R.length Rc, .int .i64 o, .int .i64 ar, .int .i64 fl, .bool dd]
  rw [← hw1]
  clear hw1
  have HS1 := Lib.hid hs
  obtain ⟨x0, x1, x2, x3, x4⟩ := box_cells hs.x
  obtain ⟨y0, y1, y2, y3, y4, y5⟩ := cells6_of hs.d
  clear hs
  go_wp2_with fail
  refine (kind_run' hκ (j : Int) n c ka kn kc _).mono ?_
  rintro e w2 ⟨rfl, hu⟩
  clear x0 x1 x2 x3 x4 y0 y1 y2 y3 y4 y5
  have hs := HS1.out.kept hu
  clear hu
  have HS2 := Lib.hid hs
  obtain ⟨x0, x1, x2, x3, x4⟩ := box_cells hs.x
  obtain ⟨y0, y1, y2, y3, y4, y5⟩ := cells6_of hs.d
  clear hs
  simp only []
  go_wp2_with fail
  refine (why_run' Aa arr.length Ac Ra R.length Rc o ar fl (j : Int) dd _ hAl.2 HNO).mono ?_
  rintro e w3 ⟨rfl, hu⟩
  clear x0 x1 x2 x3 x4 y0 y1 y2 y3 y4 y5
  have hs := HS2.out.kept hu
  clear hu
  have HS3 := Lib.hid hs
  obtain ⟨x0, x1, x2, x3, x4⟩ := box_cells hs.x
  obtain ⟨y0, y1, y2, y3, y4, y5⟩ := cells6_of hs.d
  clear hs
  simp only []
  go_wp2_with fail
  refine (kind_run' hκ (j : Int) n c ka kn kc _).mono ?_
  rintro e w4 ⟨rfl, hu⟩
  clear x0 x1 x2 x3 x4 y0 y1 y2 y3 y4 y5
  have hs := HS3.out.kept hu
  clear hu
  have HS4 := Lib.hid hs
  obtain ⟨x0, x1, x2, x3, x4⟩ := box_cells hs.x
  obtain ⟨y0, y1, y2, y3, y4, y5⟩ := cells6_of hs.d
  clear hs
  simp only []
  go_wp2_with fail
  refine (kind_run' hκ (j : Int) n c ka kn kc _).mono ?_
  rintro e w5 ⟨rfl, hu⟩
  clear x0 x1 x2 x3 x4 y0 y1 y2 y3 y4 y5
  have hs := HS4.out.kept hu
  clear hu
  have HS5 := Lib.hid hs
  obtain ⟨x0, x1, x2, x3, x4⟩ := box_cells hs.x
  obtain ⟨y0, y1, y2, y3, y4, y5⟩ := cells6_of hs.d
  clear hs
  simp only []
  go_wp2_with fail
  refine (kind_run' hκ (j : Int) n c ka kn kc _).mono ?_
  rintro e w6 ⟨rfl, hu⟩
  clear x0 x1 x2 x3 x4 y0 y1 y2 y3 y4 y5
  have hs := HS5.out.kept hu
  clear hu
  have HS6 := Lib.hid hs
  obtain ⟨x0, x1, x2, x3, x4⟩ := box_cells hs.x
  obtain ⟨y0, y1, y2, y3, y4, y5⟩ := cells6_of hs.d
  clear hs
  simp only []
  go_upto_region 16 with fail
  have hA : SRd w w6.drew k (j : Int) n c ka kn kc [.slice Aa arr.length Ac, .slice Ra R.length Rc, .int .i64 o, .int .i64 ar, .int .i64 fl, .bool dd] zb := (HS6.out.kept (Upd.refl _ w6).drew).rd
  clear x0 x1 x2 x3 x4 y0 y1 y2 y3 y4 y5
  refine wp_region_G 8 (fun W => SRd w W k (j : Int) n c ka kn kc [.slice Aa arr.length Ac, .slice Ra R.length Rc, .int .i64 o, .int .i64 ar, .int .i64 fl, .bool dd] zb) [false, false, false, false, false, false, false, false, false, false] rfl (by kernel_rfl) ?_
  have HS7 := Lib.hid (HS6.out.kept (Upd.refl _ w6).drew)
  refine wpG_take (i := 0) (v := .agg [.slice Aa arr.length Ac, .slice Ra R.length Rc, .int .i64 o, .int .i64 ar, .int .i64 fl, .bool dd].toArray) rfl (by kernel_rfl) (fun _ _ _ h => h) hA (.inl ⟨rfl, fun w9 q1 => ?_⟩) ?_
  · exact run_load_mid' rfl rfl [.slice Aa arr.length Ac, .slice Ra R.length Rc, .int .i64 o, .int .i64 ar, .int .i64 fl, .bool dd] (rangeAt_block (b := w.heap.size + 1) (cs := [.slice Aa arr.length Ac, .slice Ra R.length Rc, .int .i64 o, .int .i64 ar, .int .i64 fl, .bool dd]) q1.d) Try.underlying69 rfl Try.size69q
  simp only [Act.put, List.setIfInBounds_toArray, List.set]
  refine wpG_take (i := 1) (v := .agg [.int .i64 k, .int .i64 (j : Int), .int .i64 n, .int .u8 c, .slice ka kn kc].toArray) rfl (by kernel_rfl) (fun _ _ _ h => h) hA (.inl ⟨rfl, fun w9 q1 => ?_⟩) ?_
  · exact run_load_mid' rfl rfl [.int .i64 k, .int .i64 (j : Int), .int .i64 n, .int .u8 c, .slice ka kn kc] (rangeAt_block (b := w.heap.size) (cs := [.int .i64 k, .int .i64 (j : Int), .int .i64 n, .int .u8 c, .slice ka kn kc]) q1.x) Try.underlying51 rfl Try.size51
  simp only [Act.put, List.setIfInBounds_toArray, List.set]
  refine wpG_do (i := 2) rfl (by kernel_rfl) rfl (fun K hK => ?_)
  have HK := Lib.hid hK
  clear hK
  go_step
  refine (kind_run' hκ (j : Int) n c ka kn kc _).mono ?_
  rintro e w8 ⟨rfl, hu⟩
  have HS8 := Lib.hid (HS7.out.kept hu)
  
  clear hu hA
  have hA := HS8.out.rd
  simp only []
  refine HK.out _ _ hA ?_
  clear HK
  simp only [List.setIfInBounds_toArray, List.set]
  refine wpG_take (i := 3) (v := .bool false) rfl (by kernel_rfl) (fun _ _ _ h => h) hA (.inl ⟨rfl, fun w9 q1 => ?_⟩) ?_
  · go_simp
  simp only [Act.put, List.setIfInBounds_toArray, List.set]
  refine wpG_do (i := 4) rfl (by kernel_rfl) rfl (fun K hK => ?_)
  have HK := Lib.hid hK
  clear hK
  go_step
  refine (meets_run' (o1 := o1) (a1 := a1) (f1 := f1) (E := 0) (d1 := d1) _ ho ha hf HM).mono ?_
  rintro e w9 ⟨rfl, hu⟩
  have HS9 := Lib.hid (HS8.out.kept hu)
  
  clear hu hA
  have hA := HS9.out.rd
  simp only []
  refine HK.out _ _ hA ?_
  clear HK
  simp only [List.setIfInBounds_toArray, List.set]
  refine wpG_take (i := 5) (v := .tuple #[.agg [.slice Aa arr.length Ac, .slice Ra R.length Rc, .int .i64 o1, .int .i64 a1, .int .i64 f1, .bool d1].toArray, .int .i64 0]) rfl (by kernel_rfl) (fun _ _ _ h => h) hA (.inl ⟨rfl, fun w9 q1 => ?_⟩) ?_
  · go_simp
  simp only [Act.put, List.setIfInBounds_toArray, List.set]
  refine wpG_take (i := 6) (v := .agg [.slice Aa arr.length Ac, .slice Ra R.length Rc, .int .i64 o1, .int .i64 a1, .int .i64 f1, .bool d1].toArray) rfl (by kernel_rfl) (fun _ _ _ h => h) hA (.inl ⟨rfl, fun w9 q1 => ?_⟩) ?_
  · go_simp
  simp only [Act.put, List.setIfInBounds_toArray, List.set]
  refine wpG_takeP (i := 7) (v := .int .i64 0) rfl (by kernel_rfl) (fun _ _ _ h => h) (fun _ => hA) (.inl ⟨rfl, fun w9 q1 => ?_⟩) ?_
  · go_simp
  simp only [Act.put, List.setIfInBounds_toArray, List.set]
  refine wpG_tail_lit (k := 8) rfl rfl (by kernel_rfl) ?_
  simp only [List.drop]
  clear hA
  refine wpList_store_mid rfl 69 (.tmp 3) (.tmp 60) rfl (w.heap.size + 1) 0 [.slice Aa arr.length Ac, .slice Ra R.length Rc, .int .i64 o1, .int .i64 a1, .int .i64 f1, .bool d1].toArray rfl rfl (show w9.there (w.heap.size + 1) 0 6 from there_block HS9.out.d) Try.size69q (by simp [Value.oneCell']) ?_
  have hs := HS9.out.setD [.slice Aa arr.length Ac, .slice Ra R.length Rc, .int .i64 o1, .int .i64 a1, .int .i64 f1, .bool d1] rfl
  refine (?_ : wpList _ _ _ _ _ (w9.setCells (w.heap.size + 1) 0 [.slice Aa arr.length Ac, .slice Ra R.length Rc, .int .i64 o1, .int .i64 a1, .int .i64 f1, .bool d1]))
  generalize w9.setCells (w.heap.size + 1) 0 [.slice Aa arr.length Ac, .slice Ra R.length Rc, .int .i64 o1, .int .i64 a1, .int .i64 f1, .bool d1] = w10 at *
  have HS10 := Lib.hid hs
  obtain ⟨x0, x1, x2, x3, x4⟩ := box_cells hs.x
  obtain ⟨y0, y1, y2, y3, y4, y5⟩ := cells6_of hs.d
  clear hs
  go_wp2_with fail
  refine (kind_run' hκ (j : Int) n c ka kn kc _).mono ?_
  rintro e w11 ⟨rfl, hu⟩
  clear x0 x1 x2 x3 x4 y0 y1 y2 y3 y4 y5
  have hs := HS10.out.kept hu
  clear hu
  have HS11 := Lib.hid hs
  obtain ⟨x0, x1, x2, x3, x4⟩ := box_cells hs.x
  obtain ⟨y0, y1, y2, y3, y4, y5⟩ := cells6_of hs.d
  clear hs
  simp only []
  go_wp2_with fail
  refine (kind_run' hκ (j : Int) n c ka kn kc _).mono ?_
  rintro e w12 ⟨rfl, hu⟩
  clear x0 x1 x2 x3 x4 y0 y1 y2 y3 y4 y5
  have hs := HS11.out.kept hu
  clear hu
  have HS12 := Lib.hid hs
  obtain ⟨x0, x1, x2, x3, x4⟩ := box_cells hs.x
  obtain ⟨y0, y1, y2, y3, y4, y5⟩ := cells6_of hs.d
  clear hs
  simp only []
  go_wp2_with fail
  refine (refShows_run Aa Ra Ac Rc arr R o1 a1 f1 d1 j _ (HA.out.kept HS12.out.u) (HR.out.kept HS12.out.u) HL.out HAL.out hRl hAl.2 hj).mono ?_
  rintro e w13 ⟨rfl, hu⟩
  clear x0 x1 x2 x3 x4 y0 y1 y2 y3 y4 y5
  have hs := HS12.out.kept hu
  clear hu
  have HS13 := Lib.hid hs
  clear hs
  simp only []
  obtain ⟨sb, hsb⟩ : ∃ sb, sb = shL j (arr.getD j []) R := ⟨_, rfl⟩
  rw [← hsb]
  have HSB := Lib.hid hsb
  have HBL2 : RowKit.Hid (sb.length = 64) := Lib.hid (by rw [hsb]; exact shL_blk _ _ (HAL.out _ (by simp [List.getD_eq_getElem?_getD, hj])) _ HL.out)
  clear hsb
  go_step
  refine wpList_store_mid rfl 56 (.tmp 7) (.tmp 88) rfl (w.heap.size + 1 + 1 + 1 + 1) 0 (bcells sb).toArray rfl rfl (by
    have := there_block HS13.out.v
    rwa [show (bcells zb).toArray.size = (bcells sb).toArray.size by simp [bcells_length, HBL.out, HBL2.out]] at this) (by rw [Try.info56p]; simp [bcells_length, HBL2.out]) (all_oneCell_toArray (bcells_one _)) ?_
  have hs := HS13.out.setV sb (by rw [HBL.out, HBL2.out])
  refine (?_ : wpList _ _ _ _ _ (w13.setCells (w.heap.size + 1 + 1 + 1 + 1) 0 (bcells sb)))
  generalize w13.setCells (w.heap.size + 1 + 1 + 1 + 1) 0 (bcells sb) = w14 at *
  clear HBL
  have HBL := HBL2
  have HS14 := Lib.hid hs
  obtain ⟨x0, x1, x2, x3, x4⟩ := box_cells hs.x
  obtain ⟨y0, y1, y2, y3, y4, y5⟩ := cells6_of hs.d
  clear hs
  go_upto_region 23 with fail
  have hA : SRd w w14.drew k (j : Int) n c ka kn kc [.slice Aa arr.length Ac, .slice Ra R.length Rc, .int .i64 o1, .int .i64 a1, .int .i64 f1, .bool d1] sb := (HS14.out.kept (Upd.refl _ w14).drew).rd
  clear x0 x1 x2 x3 x4 y0 y1 y2 y3 y4 y5
  refine wp_region_G 5 (fun W => SRd w W k (j : Int) n c ka kn kc [.slice Aa arr.length Ac, .slice Ra R.length Rc, .int .i64 o1, .int .i64 a1, .int .i64 f1, .bool d1] sb) [false, false, false, false, false, false] rfl (by kernel_rfl) ?_
  have HS15 := Lib.hid (HS14.out.kept (Upd.refl _ w14).drew)
  refine wpG_take (i := 0) (v := .agg [.slice Aa arr.length Ac, .slice Ra R.length Rc, .int .i64 o1, .int .i64 a1, .int .i64 f1, .bool d1].toArray) rfl (by kernel_rfl) (fun _ _ _ h => h) hA (.inl ⟨rfl, fun w9 q1 => ?_⟩) ?_
  · exact run_load_mid' rfl rfl [.slice Aa arr.length Ac, .slice Ra R.length Rc, .int .i64 o1, .int .i64 a1, .int .i64 f1, .bool d1] (rangeAt_block (b := w.heap.size + 1) (cs := [.slice Aa arr.length Ac, .slice Ra R.length Rc, .int .i64 o1, .int .i64 a1, .int .i64 f1, .bool d1]) q1.d) Try.underlying69 rfl Try.size69q
  simp only [Act.put, List.setIfInBounds_toArray, List.set]
  refine wpG_take (i := 1) (v := .agg (bcells sb).toArray) rfl (by kernel_rfl) (fun _ _ _ h => h) hA (.inl ⟨rfl, fun w9 q1 => ?_⟩) ?_
  · exact run_load_mid' rfl rfl (bcells sb) (rangeAt_block (b := w.heap.size + 1 + 1 + 1 + 1) (cs := (bcells sb)) q1.v) Try.underlying56 rfl (by rw [Try.info56p, bcells_length, HBL.out])
  simp only [Act.put, List.setIfInBounds_toArray, List.set]
  refine wpG_take (i := 2) (v := .int .i64 0) rfl (by kernel_rfl) (fun _ _ _ h => h) hA (.inl ⟨rfl, fun w9 q1 => ?_⟩) ?_
  · go_simp
  simp only [Act.put, List.setIfInBounds_toArray, List.set]
  obtain ⟨ot1, ot2, ot3, ot4⟩ := HS15.out.out [.slice Aa arr.length Ac, .slice Ra R.length Rc, .int .i64 o1, .int .i64 a1, .int .i64 f1, .bool d1] rfl sb HBL.out
  have HO1 := Lib.hid ot1; have HO2 := Lib.hid ot2; have HO3 := Lib.hid ot3; have HO4 := Lib.hid ot4
  have u1 : Upd (fun j => j = w.heap.size + 1 + 1 ∨ j = w.heap.size + 1 + 1 + 1) w14.drew (w14.drew.setCells (w.heap.size + 1 + 1) 0 [.slice Aa arr.length Ac, .slice Ra R.length Rc, .int .i64 o1, .int .i64 a1, .int .i64 f1, .bool d1]) := (upd_setCells w14.drew (w.heap.size + 1 + 1) 0 [.slice Aa arr.length Ac, .slice Ra R.length Rc, .int .i64 o1, .int .i64 a1, .int .i64 f1, .bool d1]).mono (fun j _ e => .inl e)
  have u2 : Upd (fun j => j = w.heap.size + 1 + 1 ∨ j = w.heap.size + 1 + 1 + 1) (w14.drew.setCells (w.heap.size + 1 + 1) 0 [.slice Aa arr.length Ac, .slice Ra R.length Rc, .int .i64 o1, .int .i64 a1, .int .i64 f1, .bool d1]) ((w14.drew.setCells (w.heap.size + 1 + 1) 0 [.slice Aa arr.length Ac, .slice Ra R.length Rc, .int .i64 o1, .int .i64 a1, .int .i64 f1, .bool d1]).setCells (w.heap.size + 1 + 1 + 1) 0 (bcells sb)) := (upd_setCells (w14.drew.setCells (w.heap.size + 1 + 1) 0 [.slice Aa arr.length Ac, .slice Ra R.length Rc, .int .i64 o1, .int .i64 a1, .int .i64 f1, .bool d1]) (w.heap.size + 1 + 1 + 1) 0 (bcells sb)).mono (fun j _ e => .inr e)
  have hA1 := hA.off u1
  have hA2 := hA1.off u2
  have ht1 : w14.drew.there (w.heap.size + 1 + 1) 0 6 := there_block HS15.out.r
  have ht2 : (w14.drew.setCells (w.heap.size + 1 + 1) 0 [.slice Aa arr.length Ac, .slice Ra R.length Rc, .int .i64 o1, .int .i64 a1, .int .i64 f1, .bool d1]).there (w.heap.size + 1 + 1 + 1) 0 (bcells sb).toArray.size := by
    have := there_block (((upd_setCells w14.drew (w.heap.size + 1 + 1) 0 [.slice Aa arr.length Ac, .slice Ra R.length Rc, .int .i64 o1, .int .i64 a1, .int .i64 f1, .bool d1]).block _ (lt_of_heap HS15.out.b) (by omega)).trans HS15.out.b)
    rwa [show (bcells zblk).toArray.size = (bcells sb).toArray.size by simp [bcells_length, HBL.out, zblk]] at this
  clear ot1 ot2 ot3 ot4
  refine wpG_do (i := 3) rfl (by kernel_rfl) rfl (fun K hK => ?_)
  have HK := Lib.hid hK
  clear hK
  refine wp_store_mid 69 (.tmp 4) (.tmp 89) rfl (w.heap.size + 1 + 1) 0 [.slice Aa arr.length Ac, .slice Ra R.length Rc, .int .i64 o1, .int .i64 a1, .int .i64 f1, .bool d1].toArray rfl rfl ht1 Try.size69q (by simp [Value.oneCell']) ?_
  refine HK.out _ _ hA1 ?_
  clear HK
  simp only [Act.put, List.setIfInBounds_toArray, List.set]
  refine wpG_do (i := 4) rfl (by kernel_rfl) rfl (fun K hK => ?_)
  have HK := Lib.hid hK
  clear hK
  refine wp_store_mid 56 (.tmp 5) (.tmp 90) rfl (w.heap.size + 1 + 1 + 1) 0 (bcells sb).toArray rfl rfl ht2 (by rw [Try.info56p]; simp [bcells_length, HBL.out]) (all_oneCell_toArray (bcells_one _)) ?_
  refine HK.out _ _ hA2 ?_
  clear HK
  simp only [Act.put, List.setIfInBounds_toArray, List.set]
  refine wpG_tail_lit (k := 5) rfl rfl (by kernel_rfl) ?_
  simp only [List.drop]
  refine (?_ : wpList _ _ _ _ _ ((w14.drew.setCells (w.heap.size + 1 + 1) 0 [.slice Aa arr.length Ac, .slice Ra R.length Rc, .int .i64 o1, .int .i64 a1, .int .i64 f1, .bool d1]).setCells (w.heap.size + 1 + 1 + 1) 0 (bcells sb)))
  clear hA hA1 hA2 u1 u2 ht1 ht2
  generalize ((w14.drew.setCells (w.heap.size + 1 + 1) 0 [.slice Aa arr.length Ac, .slice Ra R.length Rc, .int .i64 o1, .int .i64 a1, .int .i64 f1, .bool d1]).setCells (w.heap.size + 1 + 1 + 1) 0 (bcells sb)) = wf at *
  go_wp2
  exact says_fin HO1.out rfl HO2.out HBL.out rfl rfl ⟨by rw [← HSB.out]; rfl, HO4.out⟩

end Go.Proofs.Ytbimkhdiplnbfaa
end

section
namespace Go.Proofs.Ytbimkhdiplnbfaa
open Go.RowKit Go.Deep

set_option maxRecDepth 100000 in
set_option maxHeartbeats 4000000 in
theorem says_all (k i n c : Int) (ka : Option Addr) (kn kc : Nat) (Aa Ra : Option Addr) (Ac Rc : Nat) (arr : List (List Int)) (R : List (Nat × List Int × Int)) (o ar fl : Int) (dd : Bool) (w : World) (hκ : kindOf k = 6) (hA0 : ArrS w Aa Ac arr) (hR : RowR w Ra Rc R) (hl : ∀ x ∈ R, x.2.1.length = 64) (hal : ∀ b ∈ arr, b.length = 64) (hRl : R.length ≤ 1000000) (hAl : 1 ≤ arr.length ∧ arr.length ≤ 2048) (HNO : RowKit.Hid (whyE dd arr.length 0 = 0)) (ho : 0 ≤ o ∧ o ≤ 1000000) (ha : -1 ≤ ar ∧ ar ≤ 9223372036854775807) (hf : -1 ≤ fl ∧ fl ≤ 9223372036854775807) {o1 a1 f1 E : Int} {d1 : Bool}
    (HM : RowKit.Hid (MeetsAs true o ar fl dd o1 a1 f1 E d1)) (hE : E = 0) :
    Calls Try.prog 45 #[callV k i n c ka kn kc, refV Aa arr.length Ac Ra R.length Rc o ar fl dd] w fun e w' => ∃ g c', w.heap.size ≤ g ∧ e = .returned (.tuple #[.agg #[.slice (some ⟨g, 0, none⟩) arr.length c', .slice none 0 0, .int .i64 o1, .int .i64 a1, .int .i64 f1, .bool d1], .agg (bcells zblk).toArray, .int .i64 0]) ∧ ArrS w' (some ⟨g, 0, none⟩) c' ((List.range arr.length).map fun i => arriveL (fun _ => true) i R 0 (arr.getD i []) false) ∧ Upd (fun _ => False) w w' := by
  subst hE
  have HA := Lib.hid hA0; have HR := Lib.hid hR; have HL := Lib.hid hl; have HAL := Lib.hid hal
  clear hA0 hR hl hal
  obtain ⟨zb, hzb⟩ : ∃ zb, zb = zblk := ⟨_, rfl⟩
  try rw [← hzb]
  have HZB := Lib.hid hzb
  have HBL : RowKit.Hid (zb.length = 64) := Lib.hid (by rw [hzb]; simp [zblk])
  clear hzb
  unfold callV refV
  go_enter Try.func45, Try.ntmps45
  go_upto_region 2 with fail
  refine (?_ : Code.wp _ _ _ _ (((((w.alloc (.cells #[.int .i64 k, .int .i64 i, .int .i64 n, .int .u8 c, .slice ka kn kc] 51)).alloc (.cells #[.slice Aa arr.length Ac, .slice Ra R.length Rc, .int .i64 o, .int .i64 ar, .int .i64 fl, .bool dd] 69)).alloc (.cells #[.slice none 0 0, .slice none 0 0, .int .i64 0, .int .i64 0, .int .i64 0, .bool false] 69)).alloc (.cells (bcells zblk).toArray 56)).alloc (.cells (bcells zblk).toArray 56)))
  obtain ⟨w1, hw1⟩ : ∃ w1, w1 = (((((w.alloc (.cells #[.int .i64 k, .int .i64 i, .int .i64 n, .int .u8 c, .slice ka kn kc] 51)).alloc (.cells #[.slice Aa arr.length Ac, .slice Ra R.length Rc, .int .i64 o, .int .i64 ar, .int .i64 fl, .bool dd] 69)).alloc (.cells #[.slice none 0 0, .slice none 0 0, .int .i64 0, .int .i64 0, .int .i64 0, .bool false] 69)).alloc (.cells (bcells zblk).toArray 56)).alloc (.cells (bcells zblk).toArray 56)) := ⟨_, rfl⟩
  have hs : SBox w w1 k i n c ka kn kc [.slice Aa arr.length Ac, .slice Ra R.length Rc, .int .i64 o, .int .i64 ar, .int .i64 fl, .bool dd] zb := by rw [hw1, HZB.out]; exact SBox.start w k i n c ka kn kc [.slice Aa arr.length Ac, .slice Ra R.length Rc, .int .i64 o, .int .i64 ar, .int .i64 fl, .bool dd]
  rw [← hw1]
  clear hw1
  have HS1 := Lib.hid hs
  obtain ⟨x0, x1, x2, x3, x4⟩ := box_cells hs.x
  obtain ⟨y0, y1, y2, y3, y4, y5⟩ := cells6_of hs.d
  clear hs
  go_wp2_with fail
  refine (kind_run' hκ i n c ka kn kc _).mono ?_
  rintro e w2 ⟨rfl, hu⟩
  clear x0 x1 x2 x3 x4 y0 y1 y2 y3 y4 y5
  have hs := HS1.out.kept hu
  clear hu
  have HS2 := Lib.hid hs
  obtain ⟨x0, x1, x2, x3, x4⟩ := box_cells hs.x
  obtain ⟨y0, y1, y2, y3, y4, y5⟩ := cells6_of hs.d
  clear hs
  simp only []
  go_wp2_with fail
  refine (why_run' Aa arr.length Ac Ra R.length Rc o ar fl 0 dd _ hAl.2 HNO).mono ?_
  rintro e w3 ⟨rfl, hu⟩
  clear x0 x1 x2 x3 x4 y0 y1 y2 y3 y4 y5
  have hs := HS2.out.kept hu
  clear hu
  have HS3 := Lib.hid hs
  obtain ⟨x0, x1, x2, x3, x4⟩ := box_cells hs.x
  obtain ⟨y0, y1, y2, y3, y4, y5⟩ := cells6_of hs.d
  clear hs
  simp only []
  go_wp2_with fail
  refine (kind_run' hκ i n c ka kn kc _).mono ?_
  rintro e w4 ⟨rfl, hu⟩
  clear x0 x1 x2 x3 x4 y0 y1 y2 y3 y4 y5
  have hs := HS3.out.kept hu
  clear hu
  have HS4 := Lib.hid hs
  obtain ⟨x0, x1, x2, x3, x4⟩ := box_cells hs.x
  obtain ⟨y0, y1, y2, y3, y4, y5⟩ := cells6_of hs.d
  clear hs
  simp only []
  go_wp2_with fail
  refine (kind_run' hκ i n c ka kn kc _).mono ?_
  rintro e w5 ⟨rfl, hu⟩
  clear x0 x1 x2 x3 x4 y0 y1 y2 y3 y4 y5
  have hs := HS4.out.kept hu
  clear hu
  have HS5 := Lib.hid hs
  obtain ⟨x0, x1, x2, x3, x4⟩ := box_cells hs.x
  obtain ⟨y0, y1, y2, y3, y4, y5⟩ := cells6_of hs.d
  clear hs
  simp only []
  go_wp2_with fail
  refine (kind_run' hκ i n c ka kn kc _).mono ?_
  rintro e w6 ⟨rfl, hu⟩
  clear x0 x1 x2 x3 x4 y0 y1 y2 y3 y4 y5
  have hs := HS5.out.kept hu
  clear hu
  have HS6 := Lib.hid hs
  obtain ⟨x0, x1, x2, x3, x4⟩ := box_cells hs.x
  obtain ⟨y0, y1, y2, y3, y4, y5⟩ := cells6_of hs.d
  clear hs
  simp only []
  go_upto_region 16 with fail
  have hA : SRd w w6.drew k i n c ka kn kc [.slice Aa arr.length Ac, .slice Ra R.length Rc, .int .i64 o, .int .i64 ar, .int .i64 fl, .bool dd] zb := (HS6.out.kept (Upd.refl _ w6).drew).rd
  clear x0 x1 x2 x3 x4 y0 y1 y2 y3 y4 y5
  refine wp_region_G 8 (fun W => SRd w W k i n c ka kn kc [.slice Aa arr.length Ac, .slice Ra R.length Rc, .int .i64 o, .int .i64 ar, .int .i64 fl, .bool dd] zb) [false, false, false, false, false, false, false, false, false, false] rfl (by kernel_rfl) ?_
  have HS7 := Lib.hid (HS6.out.kept (Upd.refl _ w6).drew)
  refine wpG_take (i := 0) (v := .agg [.slice Aa arr.length Ac, .slice Ra R.length Rc, .int .i64 o, .int .i64 ar, .int .i64 fl, .bool dd].toArray) rfl (by kernel_rfl) (fun _ _ _ h => h) hA (.inl ⟨rfl, fun w9 q1 => ?_⟩) ?_
  · exact run_load_mid' rfl rfl [.slice Aa arr.length Ac, .slice Ra R.length Rc, .int .i64 o, .int .i64 ar, .int .i64 fl, .bool dd] (rangeAt_block (b := w.heap.size + 1) (cs := [.slice Aa arr.length Ac, .slice Ra R.length Rc, .int .i64 o, .int .i64 ar, .int .i64 fl, .bool dd]) q1.d) Try.underlying69 rfl Try.size69q
  simp only [Act.put, List.setIfInBounds_toArray, List.set]
  refine wpG_take (i := 1) (v := .agg [.int .i64 k, .int .i64 i, .int .i64 n, .int .u8 c, .slice ka kn kc].toArray) rfl (by kernel_rfl) (fun _ _ _ h => h) hA (.inl ⟨rfl, fun w9 q1 => ?_⟩) ?_
  · exact run_load_mid' rfl rfl [.int .i64 k, .int .i64 i, .int .i64 n, .int .u8 c, .slice ka kn kc] (rangeAt_block (b := w.heap.size) (cs := [.int .i64 k, .int .i64 i, .int .i64 n, .int .u8 c, .slice ka kn kc]) q1.x) Try.underlying51 rfl Try.size51
  simp only [Act.put, List.setIfInBounds_toArray, List.set]
  refine wpG_do (i := 2) rfl (by kernel_rfl) rfl (fun K hK => ?_)
  have HK := Lib.hid hK
  clear hK
  go_step
  refine (kind_run' hκ i n c ka kn kc _).mono ?_
  rintro e w8 ⟨rfl, hu⟩
  have HS8 := Lib.hid (HS7.out.kept hu)
  
  clear hu hA
  have hA := HS8.out.rd
  simp only []
  refine HK.out _ _ hA ?_
  clear HK
  simp only [List.setIfInBounds_toArray, List.set]
  refine wpG_take (i := 3) (v := .bool true) rfl (by kernel_rfl) (fun _ _ _ h => h) hA (.inl ⟨rfl, fun w9 q1 => ?_⟩) ?_
  · go_simp
  simp only [Act.put, List.setIfInBounds_toArray, List.set]
  refine wpG_do (i := 4) rfl (by kernel_rfl) rfl (fun K hK => ?_)
  have HK := Lib.hid hK
  clear hK
  go_step
  refine (meets_run' (o1 := o1) (a1 := a1) (f1 := f1) (E := 0) (d1 := d1) _ ho ha hf HM).mono ?_
  rintro e w9 ⟨rfl, hu⟩
  have HS9 := Lib.hid (HS8.out.kept hu)
  
  clear hu hA
  have hA := HS9.out.rd
  simp only []
  refine HK.out _ _ hA ?_
  clear HK
  simp only [List.setIfInBounds_toArray, List.set]
  refine wpG_take (i := 5) (v := .tuple #[.agg [.slice Aa arr.length Ac, .slice Ra R.length Rc, .int .i64 o1, .int .i64 a1, .int .i64 f1, .bool d1].toArray, .int .i64 0]) rfl (by kernel_rfl) (fun _ _ _ h => h) hA (.inl ⟨rfl, fun w9 q1 => ?_⟩) ?_
  · go_simp
  simp only [Act.put, List.setIfInBounds_toArray, List.set]
  refine wpG_take (i := 6) (v := .agg [.slice Aa arr.length Ac, .slice Ra R.length Rc, .int .i64 o1, .int .i64 a1, .int .i64 f1, .bool d1].toArray) rfl (by kernel_rfl) (fun _ _ _ h => h) hA (.inl ⟨rfl, fun w9 q1 => ?_⟩) ?_
  · go_simp
  simp only [Act.put, List.setIfInBounds_toArray, List.set]
  refine wpG_takeP (i := 7) (v := .int .i64 0) rfl (by kernel_rfl) (fun _ _ _ h => h) (fun _ => hA) (.inl ⟨rfl, fun w9 q1 => ?_⟩) ?_
  · go_simp
  simp only [Act.put, List.setIfInBounds_toArray, List.set]
  refine wpG_tail_lit (k := 8) rfl rfl (by kernel_rfl) ?_
  simp only [List.drop]
  clear hA
  refine wpList_store_mid rfl 69 (.tmp 3) (.tmp 60) rfl (w.heap.size + 1) 0 [.slice Aa arr.length Ac, .slice Ra R.length Rc, .int .i64 o1, .int .i64 a1, .int .i64 f1, .bool d1].toArray rfl rfl (show w9.there (w.heap.size + 1) 0 6 from there_block HS9.out.d) Try.size69q (by simp [Value.oneCell']) ?_
  have hs := HS9.out.setD [.slice Aa arr.length Ac, .slice Ra R.length Rc, .int .i64 o1, .int .i64 a1, .int .i64 f1, .bool d1] rfl
  refine (?_ : wpList _ _ _ _ _ (w9.setCells (w.heap.size + 1) 0 [.slice Aa arr.length Ac, .slice Ra R.length Rc, .int .i64 o1, .int .i64 a1, .int .i64 f1, .bool d1]))
  generalize w9.setCells (w.heap.size + 1) 0 [.slice Aa arr.length Ac, .slice Ra R.length Rc, .int .i64 o1, .int .i64 a1, .int .i64 f1, .bool d1] = w10 at *
  have HS10 := Lib.hid hs
  obtain ⟨x0, x1, x2, x3, x4⟩ := box_cells hs.x
  obtain ⟨y0, y1, y2, y3, y4, y5⟩ := cells6_of hs.d
  clear hs
  go_wp2_with fail
  refine (kind_run' hκ i n c ka kn kc _).mono ?_
  rintro e w11 ⟨rfl, hu⟩
  clear x0 x1 x2 x3 x4 y0 y1 y2 y3 y4 y5
  have hs := HS10.out.kept hu
  clear hu
  have HS11 := Lib.hid hs
  obtain ⟨x0, x1, x2, x3, x4⟩ := box_cells hs.x
  obtain ⟨y0, y1, y2, y3, y4, y5⟩ := cells6_of hs.d
  clear hs
  simp only []
  go_wp2_with fail
  refine (kind_run' hκ i n c ka kn kc _).mono ?_
  rintro e w12 ⟨rfl, hu⟩
  clear x0 x1 x2 x3 x4 y0 y1 y2 y3 y4 y5
  have hs := HS11.out.kept hu
  clear hu
  have HS12 := Lib.hid hs
  obtain ⟨x0, x1, x2, x3, x4⟩ := box_cells hs.x
  obtain ⟨y0, y1, y2, y3, y4, y5⟩ := cells6_of hs.d
  clear hs
  simp only []
  go_wp2_with fail
  refine (arrive_run' Aa Ra Ac Rc arr R o1 a1 f1 d1 _ (HA.out.kept HS12.out.u) (HR.out.kept HS12.out.u) HL.out HAL.out hRl hAl).mono ?_
  rintro e w13 ⟨g, c2, hg, rfl, hO, hu⟩
  clear x0 x1 x2 x3 x4 y0 y1 y2 y3 y4 y5
  have hs := HS12.out.kept hu
  have hg2 : w.heap.size + 5 ≤ g := by have := lt_of_heap HS12.out.v; omega
  clear hu hg
  have HS13 := Lib.hid hs
  clear hs
  have HOO := Lib.hid hO
  clear hO
  simp only []
  go_step
  refine wpList_store_mid rfl 69 (.tmp 3) (.tmp 63) rfl (w.heap.size + 1) 0 [.slice (some ⟨g, 0, none⟩) arr.length c2, .slice none 0 0, .int .i64 o1, .int .i64 a1, .int .i64 f1, .bool d1].toArray rfl rfl (show w13.there (w.heap.size + 1) 0 6 from there_block HS13.out.d) Try.size69q (by simp [Value.oneCell']) ?_
  have hs := HS13.out.setD [.slice (some ⟨g, 0, none⟩) arr.length c2, .slice none 0 0, .int .i64 o1, .int .i64 a1, .int .i64 f1, .bool d1] rfl
  have ho2 : ArrS (w13.setCells (w.heap.size + 1) 0 [.slice (some ⟨g, 0, none⟩) arr.length c2, .slice none 0 0, .int .i64 o1, .int .i64 a1, .int .i64 f1, .bool d1]) (some ⟨g, 0, none⟩) c2 ((List.range arr.length).map fun i => arriveL (fun _ => true) i R 0 (arr.getD i []) false) := ownsRow_any HOO.out (upd_setCells w13 (w.heap.size + 1) 0 _) (fun k hk e => by simp [Value.ownBlock] at hk; omega)
  have HO5 := Lib.hid ho2
  clear ho2 HOO
  refine (?_ : wpList _ _ _ _ _ (w13.setCells (w.heap.size + 1) 0 [.slice (some ⟨g, 0, none⟩) arr.length c2, .slice none 0 0, .int .i64 o1, .int .i64 a1, .int .i64 f1, .bool d1]))
  generalize w13.setCells (w.heap.size + 1) 0 [.slice (some ⟨g, 0, none⟩) arr.length c2, .slice none 0 0, .int .i64 o1, .int .i64 a1, .int .i64 f1, .bool d1] = w14 at *
  have HS14 := Lib.hid hs
  obtain ⟨x0, x1, x2, x3, x4⟩ := box_cells hs.x
  obtain ⟨y0, y1, y2, y3, y4, y5⟩ := cells6_of hs.d
  clear hs
  go_upto_region 23 with fail
  have hA : SRd w w14.drew k i n c ka kn kc [.slice (some ⟨g, 0, none⟩) arr.length c2, .slice none 0 0, .int .i64 o1, .int .i64 a1, .int .i64 f1, .bool d1] zb := (HS14.out.kept (Upd.refl _ w14).drew).rd
  clear x0 x1 x2 x3 x4 y0 y1 y2 y3 y4 y5
  refine wp_region_G 5 (fun W => SRd w W k i n c ka kn kc [.slice (some ⟨g, 0, none⟩) arr.length c2, .slice none 0 0, .int .i64 o1, .int .i64 a1, .int .i64 f1, .bool d1] zb) [false, false, false, false, false, false] rfl (by kernel_rfl) ?_
  have HS15 := Lib.hid (HS14.out.kept (Upd.refl _ w14).drew)
  refine wpG_take (i := 0) (v := .agg [.slice (some ⟨g, 0, none⟩) arr.length c2, .slice none 0 0, .int .i64 o1, .int .i64 a1, .int .i64 f1, .bool d1].toArray) rfl (by kernel_rfl) (fun _ _ _ h => h) hA (.inl ⟨rfl, fun w9 q1 => ?_⟩) ?_
  · exact run_load_mid' rfl rfl [.slice (some ⟨g, 0, none⟩) arr.length c2, .slice none 0 0, .int .i64 o1, .int .i64 a1, .int .i64 f1, .bool d1] (rangeAt_block (b := w.heap.size + 1) (cs := [.slice (some ⟨g, 0, none⟩) arr.length c2, .slice none 0 0, .int .i64 o1, .int .i64 a1, .int .i64 f1, .bool d1]) q1.d) Try.underlying69 rfl Try.size69q
  simp only [Act.put, List.setIfInBounds_toArray, List.set]
  refine wpG_take (i := 1) (v := .agg (bcells zb).toArray) rfl (by kernel_rfl) (fun _ _ _ h => h) hA (.inl ⟨rfl, fun w9 q1 => ?_⟩) ?_
  · exact run_load_mid' rfl rfl (bcells zb) (rangeAt_block (b := w.heap.size + 1 + 1 + 1 + 1) (cs := (bcells zb)) q1.v) Try.underlying56 rfl (by rw [Try.info56p, bcells_length, HBL.out])
  simp only [Act.put, List.setIfInBounds_toArray, List.set]
  refine wpG_take (i := 2) (v := .int .i64 0) rfl (by kernel_rfl) (fun _ _ _ h => h) hA (.inl ⟨rfl, fun w9 q1 => ?_⟩) ?_
  · go_simp
  simp only [Act.put, List.setIfInBounds_toArray, List.set]
  obtain ⟨ot1, ot2, ot3, ot4⟩ := HS15.out.out [.slice (some ⟨g, 0, none⟩) arr.length c2, .slice none 0 0, .int .i64 o1, .int .i64 a1, .int .i64 f1, .bool d1] rfl zb HBL.out
  have HO1 := Lib.hid ot1; have HO2 := Lib.hid ot2; have HO3 := Lib.hid ot3; have HO4 := Lib.hid ot4
  have u1 : Upd (fun j => j = w.heap.size + 1 + 1 ∨ j = w.heap.size + 1 + 1 + 1) w14.drew (w14.drew.setCells (w.heap.size + 1 + 1) 0 [.slice (some ⟨g, 0, none⟩) arr.length c2, .slice none 0 0, .int .i64 o1, .int .i64 a1, .int .i64 f1, .bool d1]) := (upd_setCells w14.drew (w.heap.size + 1 + 1) 0 [.slice (some ⟨g, 0, none⟩) arr.length c2, .slice none 0 0, .int .i64 o1, .int .i64 a1, .int .i64 f1, .bool d1]).mono (fun j _ e => .inl e)
  have u2 : Upd (fun j => j = w.heap.size + 1 + 1 ∨ j = w.heap.size + 1 + 1 + 1) (w14.drew.setCells (w.heap.size + 1 + 1) 0 [.slice (some ⟨g, 0, none⟩) arr.length c2, .slice none 0 0, .int .i64 o1, .int .i64 a1, .int .i64 f1, .bool d1]) ((w14.drew.setCells (w.heap.size + 1 + 1) 0 [.slice (some ⟨g, 0, none⟩) arr.length c2, .slice none 0 0, .int .i64 o1, .int .i64 a1, .int .i64 f1, .bool d1]).setCells (w.heap.size + 1 + 1 + 1) 0 (bcells zb)) := (upd_setCells (w14.drew.setCells (w.heap.size + 1 + 1) 0 [.slice (some ⟨g, 0, none⟩) arr.length c2, .slice none 0 0, .int .i64 o1, .int .i64 a1, .int .i64 f1, .bool d1]) (w.heap.size + 1 + 1 + 1) 0 (bcells zb)).mono (fun j _ e => .inr e)
  have hA1 := hA.off u1
  have hA2 := hA1.off u2
  have ht1 : w14.drew.there (w.heap.size + 1 + 1) 0 6 := there_block HS15.out.r
  have ht2 : (w14.drew.setCells (w.heap.size + 1 + 1) 0 [.slice (some ⟨g, 0, none⟩) arr.length c2, .slice none 0 0, .int .i64 o1, .int .i64 a1, .int .i64 f1, .bool d1]).there (w.heap.size + 1 + 1 + 1) 0 (bcells zb).toArray.size := by
    have := there_block (((upd_setCells w14.drew (w.heap.size + 1 + 1) 0 [.slice (some ⟨g, 0, none⟩) arr.length c2, .slice none 0 0, .int .i64 o1, .int .i64 a1, .int .i64 f1, .bool d1]).block _ (lt_of_heap HS15.out.b) (by omega)).trans HS15.out.b)
    rwa [show (bcells zblk).toArray.size = (bcells zb).toArray.size by simp [bcells_length, HBL.out, zblk]] at this
  clear ot1 ot2 ot3 ot4
  refine wpG_do (i := 3) rfl (by kernel_rfl) rfl (fun K hK => ?_)
  have HK := Lib.hid hK
  clear hK
  refine wp_store_mid 69 (.tmp 4) (.tmp 89) rfl (w.heap.size + 1 + 1) 0 [.slice (some ⟨g, 0, none⟩) arr.length c2, .slice none 0 0, .int .i64 o1, .int .i64 a1, .int .i64 f1, .bool d1].toArray rfl rfl ht1 Try.size69q (by simp [Value.oneCell']) ?_
  refine HK.out _ _ hA1 ?_
  clear HK
  simp only [Act.put, List.setIfInBounds_toArray, List.set]
  refine wpG_do (i := 4) rfl (by kernel_rfl) rfl (fun K hK => ?_)
  have HK := Lib.hid hK
  clear hK
  refine wp_store_mid 56 (.tmp 5) (.tmp 90) rfl (w.heap.size + 1 + 1 + 1) 0 (bcells zb).toArray rfl rfl ht2 (by rw [Try.info56p]; simp [bcells_length, HBL.out]) (all_oneCell_toArray (bcells_one _)) ?_
  refine HK.out _ _ hA2 ?_
  clear HK
  simp only [Act.put, List.setIfInBounds_toArray, List.set]
  refine wpG_tail_lit (k := 5) rfl rfl (by kernel_rfl) ?_
  simp only [List.drop]
  refine (?_ : wpList _ _ _ _ _ ((w14.drew.setCells (w.heap.size + 1 + 1) 0 [.slice (some ⟨g, 0, none⟩) arr.length c2, .slice none 0 0, .int .i64 o1, .int .i64 a1, .int .i64 f1, .bool d1]).setCells (w.heap.size + 1 + 1 + 1) 0 (bcells zb)))
  clear hA hA1 hA2 u1 u2 ht1 ht2
  generalize ((w14.drew.setCells (w.heap.size + 1 + 1) 0 [.slice (some ⟨g, 0, none⟩) arr.length c2, .slice none 0 0, .int .i64 o1, .int .i64 a1, .int .i64 f1, .bool d1]).setCells (w.heap.size + 1 + 1 + 1) 0 (bcells zb)) = wf at *
  go_wp2
  refine says_fin HO1.out rfl HO2.out HBL.out rfl rfl ⟨g, c2, by omega, rfl, ?_, HO4.out⟩
  exact ownsRow_any HO5.out HO3.out.undrew (fun k hk e => by simp [Value.ownBlock] at hk; omega)

end Go.Proofs.Ytbimkhdiplnbfaa
end

section
namespace Go.Proofs.Ytbimkhdiplnbfaa
open Go.RowKit Go.Deep

/-- A history lies in block g from off on. -/
def HisAt (w : World) (g off cap : Nat) (bs : List (List Int)) : Prop :=
  ∃ cur, w.heap[g]? = some (.cells cur 56 (0, 0)) ∧ bs.length ≤ cap ∧ cap ≤ maxLen ∧ cur.size = off + cap * 64 ∧ (bs.flatMap bcells).length = bs.length * 64 ∧ (cur.toList.drop off).take (bs.length * 64) = bs.flatMap bcells

theorem HisAt.kept {w w' : World} {g off cap : Nat} {bs : List (List Int)} {G : Nat → Prop} (h : HisAt w g off cap bs) (hu : Upd G w w') (hg : ¬ G g) : HisAt w' g off cap bs := by
  obtain ⟨cur, h1, h2⟩ := h
  exact ⟨cur, (hu.block g (lt_of_heap h1) hg).trans h1, h2⟩

theorem HisAt.lt {w : World} {g off cap : Nat} {bs : List (List Int)} (h : HisAt w g off cap bs) : g < w.heap.size := lt_of_heap h.choose_spec.1

theorem HisAt.at {w : World} {g off cap : Nat} {bs : List (List Int)} (h : HisAt w g off cap bs) (hl : ∀ b ∈ bs, b.length = 64) {i : Nat} {b : List Int} (hb : bs[i]? = some b) :
    w.rangeAt g (off + i * 64) (bcells b) := by
  obtain ⟨cur, h1, h2, h3, h4, h5, h6⟩ := h
  have hi := (List.getElem?_eq_some_iff.1 hb).1
  have hfl := flat_at bcells 64 bs i b hb (fun y hy => by rw [bcells_length]; exact hl y hy)
  rw [← h6] at hfl
  intro j u hj
  have hj64 : j < 64 := by have := (List.getElem?_eq_some_iff.1 hj).1; rw [bcells_length, hl b (List.mem_of_getElem? hb)] at this; exact this
  rw [← hfl] at hj
  rw [List.getElem?_take, if_pos hj64, List.getElem?_drop, List.getElem?_take] at hj
  split at hj
  · rw [List.getElem?_drop] at hj
    rw [cell_of_heap h1, ← Array.getElem?_toList, ← hj]
    congr 1
    omega
  · cases hj

theorem HisAt.tail {w : World} {g off cap : Nat} {bs : List (List Int)} (h : HisAt w g off cap bs) (hl : ∀ b ∈ bs, b.length = 64) {b : List Int} (hb : bs[bs.length - 1]? = some b) :
    HisAt w g (off + (bs.length - 1) * 64) (cap - (bs.length - 1)) [b] := by
  have hp : 0 < bs.length := by have := (List.getElem?_eq_some_iff.1 hb).1; omega
  obtain ⟨cur, h1, h2, h3, h4, h5, h6⟩ := h
  have hbl := hl b (List.mem_of_getElem? hb)
  refine ⟨cur, h1, by simp; omega, by omega, ?_, by simp [bcells_length, hbl], ?_⟩
  · rw [h4, Nat.add_assoc, ← Nat.add_mul]
    congr 2; omega
  · have hfl := flat_at bcells 64 bs (bs.length - 1) b hb (fun y hy => by rw [bcells_length]; exact hl y hy)
    rw [← h6, List.drop_take, List.drop_drop] at hfl
    simp only [List.flatMap_cons, List.flatMap_nil, List.append_nil, List.length_cons, List.length_nil, Nat.zero_add, Nat.one_mul]
    rw [← hfl, List.take_take]
    congr 1
    have : bs.length * 64 - (bs.length - 1) * 64 = 64 := by rw [← Nat.sub_mul]; rw [show bs.length - (bs.length - 1) = 1 by omega]
    omega

theorem hisAt_one {w : World} {g : Nat} {b : List Int} (hb : b.length = 64) (h : w.heap[g]? = some (.cells (bcells b).toArray 56 (0, 0))) : HisAt w g 0 1 [b] := by
  refine ⟨_, h, by simp, by unfold maxLen; omega, by simp [bcells_length, hb], by simp [bcells_length, hb], ?_⟩
  simp only [List.drop_zero, List.flatMap_cons, List.flatMap_nil, List.append_nil, List.length_cons, List.length_nil, Nat.zero_add, Nat.one_mul]
  rw [List.take_of_length_le (by simp [bcells_length, hb])]

theorem Try.info56h : (Try.prog.info? 56).map (fun i => (i.zero, i.size, i.bytes)) = some (some (.agg (bcells zblk).toArray), 64, 64) := by kernel_rfl

theorem run_append_room_off {P : Program} (w : World) (t ty e : TypeId) (i : TypeInfo) (ht : P.underlying t = some (.slice e)) (hi : P.info? e = some i)
    (g off sLen sCap : Nat) (cur : Array Value) (hg : w.heap[g]? = some (.cells cur e (0, 0)))
    (a : Addr) (m c : Nat) (news : List Value) (hl : news.length = m * i.size) (hnews : ∀ j u, news[j]? = some u → w.cell? (a.add j) = some u) (h1 : ∀ u ∈ news, u.oneCell' = true)
    (hroom : sLen + m ≤ sCap) (hfit : off + sLen * i.size + news.length ≤ cur.size) :
    (Builtin.append_ #[t, t] ty #[.slice (some ⟨g, off, none⟩) sLen sCap, .slice (some a) m c]).run P w =
      .ok (.slice (some ⟨g, off, none⟩) (sLen + m) sCap) (w.setRow g (cur.toList.take (off + sLen * i.size) ++ news ++ cur.toList.drop (off + sLen * i.size + news.length)).toArray) := by
  have hf := run_firstCells_some (P := P) w i.size m a m c news hl hnews
  have hst := run_storeCells_at P g (off + sLen * i.size) e news 0 cur w hg (by simpa using hfit) h1
  simp only [Nat.add_zero] at hst
  have ha : (⟨g, off, none⟩ : Addr).add (sLen * i.size) = ⟨g, off + sLen * i.size, none⟩ := by unfold Addr.add; split <;> simp_all
  simp [Builtin.append_, run_underlying ht, sizeOf, typeInfo, hi, Builtin.lenOf, hroom, hf, ha, hst]

/-- A block is appended to a history. -/
theorem his_append (w : World) (ty : TypeId) {g off cap : Nat} {bs : List (List Int)} (h : HisAt w g off cap bs) (hbl : bs.length ≤ 1000000) {s : Nat} {b : List Int} (hb : b.length = 64) (hs : w.heap[s]? = some (.cells (bcells b).toArray 56 (0, 0))) :
    ∃ g' off' cap' w', (Builtin.append_ #[66, 66] ty #[.slice (some ⟨g, off, none⟩) bs.length cap, .slice (some ⟨s, 0, none⟩) 1 1]).run Try.prog w = .ok (.slice (some ⟨g', off', none⟩) (bs.length + 1) cap') w' ∧
      HisAt w' g' off' cap' (bs ++ [b]) ∧ (g' = g ∨ w.heap.size ≤ g') ∧ Upd (fun k => k = g) w w' := by
  obtain ⟨i0, hi0, hz0, hz1, hz2⟩ := info_parts Try.info56h
  obtain ⟨cur, h1, h2, h3, h4, h5, h6⟩ := h
  have hbc : (bcells b).length = 64 := by rw [bcells_length, hb]
  have hnews : ∀ j u, (bcells b)[j]? = some u → w.cell? ((⟨s, 0, none⟩ : Addr).add j) = some u := fun j u hj => by
    rw [Addr.add_lit, cell_of_heap hs]; simpa using hj
  have hfl : ((bs ++ [b]).flatMap bcells) = bs.flatMap bcells ++ bcells b := by simp
  by_cases hc : bs.length + 1 ≤ cap
  · refine ⟨g, off, cap, _, run_append_room_off w 66 ty 56 i0 Try.underlying66 hi0 g off bs.length cap cur h1 ⟨s, 0, none⟩ 1 1 (bcells b) (by rw [hbc, hz1]) hnews (bcells_one b) hc (by rw [h4, hbc, hz1]; omega), ?_, .inl rfl, Upd.setRow (F := fun k => k = g) (Upd.refl _ w) (.inl rfl) _⟩
    rw [hz1, hbc]
    have hsz : cur.toList.length = off + cap * 64 := by simpa using h4
    generalize cur.toList = C at *
    refine ⟨_, setRow_at h1, by simpa using hc, h3, ?_, ?_, ?_⟩
    · rw [List.size_toArray, List.length_append, List.length_append, List.length_take, List.length_drop, hbc, hsz]
      omega
    · rw [hfl, List.length_append, h5, hbc, List.length_append, List.length_cons, List.length_nil]
      omega
    · have e1 : (C.take (off + bs.length * 64)).drop off = bs.flatMap bcells := by
        rw [List.drop_take, ← h6, show off + bs.length * 64 - off = bs.length * 64 by omega]
      have hl2 : (bs.flatMap bcells ++ bcells b).length = (bs.length + 1) * 64 := by rw [List.length_append, h5, hbc]; omega
      simp only []
      rw [hfl, List.append_assoc, List.drop_append_of_le_length (by rw [List.length_take, hsz]; omega), e1, ← List.append_assoc]
      simp only [List.length_append, List.length_cons, List.length_nil]
      rw [List.take_append_of_le_length (by rw [hl2]; omega), List.take_of_length_le (by rw [hl2]; omega)]
  · have holds : ∀ j v, (bs.flatMap bcells)[j]? = some v → w.cell? ((⟨g, off, none⟩ : Addr).add j) = some v := fun j v hj => by
      have ha : (⟨g, off, none⟩ : Addr).add j = ⟨g, off + j, none⟩ := by unfold Addr.add; split <;> simp_all
      rw [ha, cell_of_heap h1, ← Array.getElem?_toList, ← List.getElem?_drop]
      rw [← h6, List.getElem?_take] at hj
      split at hj
      · exact hj
      · cases hj
    have hcap : bs.length = cap := by omega
    have hfit : Builtin.nextslicecap (bs.length + 1) cap * i0.bytes ≤ 281474976710656 := by
      rw [hz2]
      exact growslice_fits (by omega) (by omega)
    have hrun := run_append_grow (P := Try.prog) w 66 ty 56 i0 _ Try.underlying66 hi0 hz0 ⟨g, off, none⟩ bs.length cap (bs.flatMap bcells) (by rw [h5, hz1]) holds ⟨s, 0, none⟩ 1 1 (bcells b) (by rw [hbc, hz1]) hnews (by omega) (by omega) hfit
    have hgc : bs.length + 1 ≤ grownCap w (bs.length + 1) cap 56 ∧ grownCap w (bs.length + 1) cap 56 ≤ maxLen := ⟨grownCap_ge w (bs.length + 1) cap 56, grownCap_le_maxLen w (bs.length + 1) cap 56 (by unfold maxLen; omega)⟩
    refine ⟨w.heap.size, 0, grownCap w (bs.length + 1) cap 56, _, hrun, ?_, .inr (Nat.le_refl _), ((Upd.refl _ w).drew).alloc _⟩
    refine ⟨_, alloc_at rfl, by simpa using hgc.1, hgc.2, ?_, by simp [hfl, h5, hbc]; omega, ?_⟩
    · have hzc : (Value.agg (bcells zblk).toArray).cells.size = 64 := by show (bcells zblk).toArray.size = 64; simp [bcells, zblk]
      rw [Array.size_append, Array.size_append, size_zeroCells, hzc, List.size_toArray, List.size_toArray, h5, hbc]
      have := hgc.1
      omega
    · rw [hfl]
      have hl2 : (bs.flatMap bcells ++ bcells b).length = (bs.length + 1) * 64 := by rw [List.length_append, h5, hbc]; omega
      simp only [List.drop_zero, Array.toList_append, List.length_append, List.length_cons, List.length_nil]
      rw [List.take_append_of_le_length (by rw [hl2]; omega), List.take_of_length_le (by rw [hl2]; omega)]

end Go.Proofs.Ytbimkhdiplnbfaa
end

section
namespace Go.Proofs.Ytbimkhdiplnbfaa
open Go.RowKit Go.Deep

theorem fold66 (cs : List Value) (Z : Array Value) (hc : cs.length = 64) (hz : Z.size = 64) : List.foldl (fun (cs : Array Value) (x : Value × Nat) => cs.setIfInBounds x.snd x.fst) Z cs.zipIdx = cs.toArray := by
  apply Array.toList_inj.1
  have h := splice_fold cs 0 0 Z (by simp [hz, hc])
  simp only [Nat.zero_add] at h
  rw [h]
  have e : Z.toList.drop 64 = [] := by rw [List.drop_eq_nil_iff]; simp [hz]
  simp [hc, e]

theorem run_buildSlice66 (cs : List Value) (w : World) (hc : cs.length = 64) :
    (Instr.buildSlice 66 1 #[(0, .agg cs.toArray)]).run Try.prog w = .ok (.slice (some ⟨w.heap.size, 0, none⟩) 1 1) (w.alloc (.cells cs.toArray 56)) := by
  simp [Instr.buildSlice, go_sem]
  rw [fold66 cs _ hc (by simp)]
  simp [hc]

/-- The table of histories lies in block hb; the first k of them are there. -/
structure HTab (w : World) (hb N k : Nat) (Hs : Nat → List (List Int)) (F : Nat → Prop) (g off cap : Nat → Nat) : Prop where
  blk : w.heap[hb]? = some (.cells ((List.range N).map fun i => if i < k then Value.slice (some ⟨g i, off i, none⟩) (Hs i).length (cap i) else .slice none 0 0).toArray 66 (0, 0))
  his : ∀ i, i < k → HisAt w (g i) (off i) (cap i) (Hs i)
  lens : ∀ i, i < k → ∀ b ∈ Hs i, b.length = 64
  ne : ∀ i, i < k → g i ≠ hb
  inj : ∀ i j, i < k → j < k → g i = g j → i = j
  apart : ∀ i, i < k → ¬ F (g i)
  hbF : ¬ F hb

theorem HTab.kept {w w' : World} {hb N k : Nat} {Hs : Nat → List (List Int)} {F : Nat → Prop} {g off cap : Nat → Nat} (h : HTab w hb N k Hs F g off cap) (hu : Upd F w w') : HTab w' hb N k Hs F g off cap :=
  ⟨(hu.block hb (lt_of_heap h.blk) h.hbF).trans h.blk, fun i hi => (h.his i hi).kept hu (h.apart i hi), h.lens, h.ne, h.inj, h.apart, h.hbF⟩

theorem HTab.turn {w w' : World} {hb N k : Nat} {Hs : Nat → List (List Int)} {F F' : Nat → Prop} {g off cap : Nat → Nat} (h : HTab w hb N k Hs F g off cap) (hu : Upd F w w') (hF : ∀ j, F' j → F j ∨ w.heap.size ≤ j) : HTab w' hb N k Hs F' g off cap := by
  have h0 := h.kept hu
  refine ⟨h0.blk, h0.his, h0.lens, h0.ne, h0.inj, fun i hi e => ?_, fun e => ?_⟩
  · rcases hF _ e with e | e
    · exact h.apart i hi e
    · have := (h.his i hi).lt; omega
  · rcases hF _ e with e | e
    · exact h.hbF e
    · have := lt_of_heap h.blk; omega

theorem HTab.cell {w : World} {hb N k : Nat} {Hs : Nat → List (List Int)} {F : Nat → Prop} {g off cap : Nat → Nat} (h : HTab w hb N k Hs F g off cap) {i : Nat} (hi : i < k) (hN : i < N) :
    w.cell? ⟨hb, i, none⟩ = some (.slice (some ⟨g i, off i, none⟩) (Hs i).length (cap i)) := by
  rw [cell_of_heap h.blk]; simp [hN, hi]

theorem HTab.more {w : World} {hb N k : Nat} {Hs Hs' : Nat → List (List Int)} {F : Nat → Prop} {g off cap : Nat → Nat} (h : HTab w hb N k Hs F g off cap) (he : ∀ i, i < k → Hs' i = Hs i) : HTab w hb N k Hs' F g off cap := by
  refine ⟨?_, fun i hi => by rw [he i hi]; exact h.his i hi, fun i hi => by rw [he i hi]; exact h.lens i hi, h.ne, h.inj, h.apart, h.hbF⟩
  rw [h.blk]
  congr 3
  apply List.map_congr_left
  intro i _
  split
  · rw [he i (by assumption)]
  · rfl

theorem slot_set {N i : Nat} (f f' : Nat → Value) (v : Value) (hv : f' i = v) (ho : ∀ j, j ≠ i → f' j = f j) : (((List.range N).map f).toArray.setIfInBounds i v) = ((List.range N).map f').toArray := by
  apply Array.toList_inj.1
  apply List.ext_getElem
  · simp
  · intro j h1 h2
    simp only [Array.toList_setIfInBounds, List.getElem_set, List.getElem_map, List.getElem_range]
    by_cases e : i = j
    · subst e; simp [hv]
    · rw [if_neg e, ho j (Ne.symm e)]

/-- A history more is there. -/
theorem HTab.step {w W : World} {hb N k : Nat} {Hs : Nat → List (List Int)} {F : Nat → Prop} {g off cap : Nat → Nat} (h : HTab w hb N k Hs F g off cap) {s : Nat} {b : List Int} (hH : Hs k = [b]) (hb64 : b.length = 64)
    (hu : Upd (fun _ => False) w W) (hs : W.heap[s]? = some (.cells (bcells b).toArray 56 (0, 0))) (hsw : w.heap.size ≤ s) (hFw : ∀ j, F j → j < w.heap.size) :
    HTab (W.setCell ⟨hb, k, none⟩ (.slice (some ⟨s, 0, none⟩) 1 1)) hb N (k + 1) Hs F (fun j => if j = k then s else g j) (fun j => if j = k then 0 else off j) (fun j => if j = k then 1 else cap j) := by
  have hbl := lt_of_heap h.blk
  have hW := (hu.block hb hbl (fun e => e)).trans h.blk
  have hus := upd_own W hb k (.slice (some ⟨s, 0, none⟩) 1 1)
  refine ⟨?_, fun i hi => ?_, fun i hi => ?_, fun i hi => ?_, fun i j hi hj e => ?_, fun i hi e => ?_, h.hbF⟩
  · rw [blk_set hW]
    congr 2
    refine slot_set _ _ _ ?_ (fun j hj => ?_)
    · simp [hH]
    · simp only [if_neg hj]
      by_cases h1 : j < k
      · rw [if_pos h1, if_pos (by omega)]
      · rw [if_neg h1, if_neg (by omega)]
  · by_cases h1 : i = k
    · subst h1
      simp only [hH]
      exact (hisAt_one hb64 hs).kept hus (by omega)
    · simp only [if_neg h1]
      exact ((h.his i (by omega)).kept hu (fun e => e)).kept hus (h.ne i (by omega))
  · by_cases h1 : i = k
    · subst h1; rw [hH]; intro x hx; simp at hx; rw [hx]; exact hb64
    · exact h.lens i (by omega)
  · by_cases h1 : i = k
    · simp only [if_pos h1]; omega
    · simp only [if_neg h1]; exact h.ne i (by omega)
  · by_cases h1 : i = k <;> by_cases h2 : j = k
    · omega
    · simp only [if_pos h1, if_neg h2] at e; have := (h.his j (by omega)).lt; omega
    · simp only [if_neg h1, if_pos h2] at e; have := (h.his i (by omega)).lt; omega
    · simp only [if_neg h1, if_neg h2] at e; exact h.inj i j (by omega) (by omega) e
  · by_cases h1 : i = k
    · simp only [if_pos h1] at e; have := hFw _ e; omega
    · simp only [if_neg h1] at e; exact h.apart i (by omega) e

/-- A history is another one. -/
theorem HTab.put {w W : World} {hb N : Nat} {Hs : Nat → List (List Int)} {F : Nat → Prop} {g off cap : Nat → Nat} (h : HTab w hb N N Hs F g off cap) {i : Nat} (hi : i < N) {g' off' cap' : Nat} {bs : List (List Int)}
    (hu : Upd (fun j => j = g i) w W) (hW : HisAt W g' off' cap' bs) (hl : ∀ b ∈ bs, b.length = 64) (hg : g' = g i ∨ w.heap.size ≤ g') (hFw : ∀ j, F j → j < w.heap.size) :
    HTab (W.setCell ⟨hb, i, none⟩ (.slice (some ⟨g', off', none⟩) bs.length cap')) hb N N (fun j => if j = i then bs else Hs j) F (fun j => if j = i then g' else g j) (fun j => if j = i then off' else off j) (fun j => if j = i then cap' else cap j) := by
  have hbl := lt_of_heap h.blk
  have hWb := (hu.block hb hbl (fun e => h.ne i hi e.symm)).trans h.blk
  have hus := upd_own W hb i (.slice (some ⟨g', off', none⟩) bs.length cap')
  have hgl := (h.his i hi).lt
  have hne' : g' ≠ hb := by
    rcases hg with e | e
    · rw [e]; exact h.ne i hi
    · omega
  refine ⟨?_, fun j hj => ?_, fun j hj => ?_, fun j hj => ?_, fun j k hj hk e => ?_, fun j hj e => ?_, h.hbF⟩
  · rw [blk_set hWb]
    congr 2
    refine slot_set _ _ _ ?_ (fun j hj => ?_)
    · simp [hi]
    · simp only [if_neg hj]
  · by_cases h1 : j = i
    · simp only [if_pos h1]
      exact hW.kept hus hne'
    · simp only [if_neg h1]
      exact ((h.his j hj).kept hu (fun e => h1 (h.inj j i hj hi e))).kept hus (h.ne j hj)
  · by_cases h1 : j = i
    · simp only [if_pos h1]; exact hl
    · simp only [if_neg h1]; exact h.lens j hj
  · by_cases h1 : j = i
    · simp only [if_pos h1]; exact hne'
    · simp only [if_neg h1]; exact h.ne j hj
  · have hdis : ∀ m, m < N → m ≠ i → g' ≠ g m := fun m hm hmi e => by
      rcases hg with e2 | e2
      · exact hmi (h.inj m i hm hi (e.symm.trans e2))
      · have := (h.his m hm).lt; omega
    by_cases h1 : j = i <;> by_cases h2 : k = i
    · omega
    · simp only [if_pos h1, if_neg h2] at e; exact absurd e (hdis k hk h2)
    · simp only [if_neg h1, if_pos h2] at e; exact absurd e.symm (hdis j hj h1)
    · simp only [if_neg h1, if_neg h2] at e; exact h.inj j k hj hk e
  · by_cases h1 : j = i
    · simp only [if_pos h1] at e
      rcases hg with e2 | e2
      · rw [e2] at e; exact h.apart i hi e
      · have := hFw _ e; omega
    · simp only [if_neg h1] at e; exact h.apart j hj e

end Go.Proofs.Ytbimkhdiplnbfaa
end

