/- Walks: a batch as bytes, whole. -/
import Derived.Test.YtbimkhdiplnbfaaGreatF18
import Derived.Test.YtbimkhdiplnbfaaGreatF20
import Derived.Laws.OwnMore
set_option linter.unusedVariables false
set_option linter.unusedSimpArgs false

section
namespace Go.Proofs.YtbimkhdiplnbfaaGreat
set_option maxRecDepth 100000
open Go.RowKit Go.Shelf

theorem two_in (w : World) (x y : Int) : BytesIn (w.alloc (.cells #[.int .u8 x, .int .u8 y] 5)) (.slice (some ⟨w.heap.size, 0, none⟩) 2 2) [x, y] := by
 refine .inr ⟨⟨w.heap.size, 0, none⟩, 2, rfl, by simp, by unfold maxLen; omega, fun i u hi => ?_⟩
 rw [Addr.add_mid, Nat.zero_add, cell_of_heap (alloc_at rfl)]
 simpa [bcells] using hi

theorem put64_any {v : Value} {bs : List Int} {x : Int} (w : World) (hl : bs.length ≤ 1099511627700) (hv : BytesIn w v bs) (hx : 0 ≤ x ∧ x ≤ 18446744073709551615) :
  Calls Tryz.prog 144 #[v, .int .u64 x] w fun e w' => ∃ u, e = .returned u ∧ OwnB w' w.heap.size u (bs ++ layF x 64) ∧ Upd (fun _ => False) w w' := by
 have HC := Lib.hid (lay_any (nb := 8) w hl hv hx (by omega))
 clear hv
 go_enter Tryz.func144, Tryz.ntmps144
 go_wp2_with (go_at_call 180; fail)
 refine HC.out.mono ?_
 rintro e w1 ⟨u1, rfl, ho, hu⟩
 have HO := Lib.hid ho; have HU := Lib.hid hu
 clear ho hu HC
 simp only []
 go_wp2
 go_ret
 exact ⟨_, rfl, HO.out, HU.out⟩

theorem setF_length {x : SetV} (h : x.right = true) : (setF x).length ≤ 6031 := by
 simp only [SetV.right, decide_eq_true_eq] at h
 simp [setF, maybeF, numsOf_length, layF_length]
 omega
theorem setsF_length : ∀ {l : List SetV}, (∀ x ∈ l, x.right = true) → (setsF l).length ≤ 6031 * l.length
 | [], _ => by simp [setsF]
 |x :: l, h => by
  have h1 := setF_length (h x (by simp))
  have h2 := setsF_length (l := l) fun y hy => h y (by simp [hy])
  simp only [setsF, List.flatMap_cons, List.length_append, List.length_cons] at h2 ⊢
  omega

set_option maxHeartbeats 8000000 in
theorem encoded_any {c : Nat} {a : Option Addr} {B : BatchV} (w : World) (hs : SetsIn w a B.sets) (hr : B.right = true) (hk : B.Ok) :
  Calls Tryz.prog 82 #[batchV B a c] w fun e w' => ∃ u, e = .returned u ∧ OwnB w' w.heap.size u (encF B) ∧ Upd (fun _ => False) w w' := by
 have hsl : B.sets.length ≤ 48 := by
  simp only [BatchV.right, Bool.and_eq_true, decide_eq_true_eq] at hr
  exact hr.1.1.2
 have HS := Lib.hid hs; have HR := Lib.hid hr; have HEP := Lib.hid hk.epoch
 obtain ⟨ns, hns⟩ : ∃ ns, ns = (B.sets.length : Int) % 256 := ⟨_, rfl⟩
 have hcv8 : IntKind.u8.wrap (B.sets.length : Int) = ns := by rw [IntKind.wrap_u8, hns]
 have HNS := Lib.hid hns
 obtain ⟨w1, hw1⟩ : ∃ w1, w1 = w.alloc (.cells #[.int .u64 B.epoch, .bool B.large, .slice a B.sets.length c] 56) := ⟨_, rfl⟩
 have hu1 : Upd (fun _ => False) w w1 := by rw [hw1]; exact (Upd.refl _ w).alloc _
 have hx1 : w1.heap[w.heap.size]? = some (.cells #[.int .u64 B.epoch, .bool B.large, .slice a B.sets.length c] 56 (0, 0)) := by rw [hw1]; exact alloc_at rfl
 have hA : w1.drew.heap[w.heap.size]? = some (.cells #[.int .u64 B.epoch, .bool B.large, .slice a B.sets.length c] 56 (0, 0)) := hx1
 have HU := Lib.hid hu1.drew
 have HW1 := Lib.hid hw1; have HX1 := Lib.hid hx1
 clear hs hr hk hns hw1 hu1 hx1
 unfold batchV
 go_enter Tryz.func82, Tryz.ntmps82
 go_upto_region 1 with fail
 rw [← HW1.out]
 go_cut [3] from 7 to 50 (fun x wx => ∃ bo, x = .pointer (some ⟨bo, 0, none⟩) ∧ EncAt w wx bo (layF B.epoch 64 ++ [flagF B.large, ns]) ∧ wx.heap[w.heap.size]? = some (.cells #[.int .u64 B.epoch, .bool B.large, .slice a B.sets.length c] 56 (0, 0)))
 case first =>
  refine wp_region_G 13 (fun W => W.heap[w.heap.size]? = some (.cells #[.int .u64 B.epoch, .bool B.large, .slice a B.sets.length c] 56 (0, 0))) [false, false, false, false, false, false, false, false, false, false, false, false, false, false] rfl (by kernel_rfl) ?_
  generalize w1.drew = wd at hA HU ⊢
  refine wpG_tq 0 (.pointer (some ⟨w.heap.size, 0, none⟩)) [11, 2, 1] rfl (by kernel_rfl) (fun _ _ _ h => h) hA rfl (fun w5 q1 => ?_) ?_
  ·go_simp
  simp only [Act.put, List.setIfInBounds_toArray, List.set]
  refine wpG_tq 1 (.int .u64 B.epoch) [11, 2] rfl (by kernel_rfl) (fun _ _ _ h => h) hA rfl (fun w5 q1 => ?_) ?_
  ·obtain ⟨c0, c1, c2⟩ := cells3_of q1
   go_simp
  simp only [Act.put, List.setIfInBounds_toArray, List.set]
  refine wpG_tq 3 (.pointer (some ⟨w.heap.size, 1, none⟩)) [11, 5, 4] rfl (by kernel_rfl) (fun _ _ _ h => h) hA rfl (fun w5 q1 => ?_) ?_
  ·go_simp
  simp only [Act.put, List.setIfInBounds_toArray, List.set]
  refine wpG_tq 4 (.bool B.large) [11, 5] rfl (by kernel_rfl) (fun _ _ _ h => h) hA rfl (fun w5 q1 => ?_) ?_
  ·obtain ⟨c0, c1, c2⟩ := cells3_of q1
   go_simp
  simp only [Act.put, List.setIfInBounds_toArray, List.set]
  refine wpG_tq 6 (.pointer (some ⟨w.heap.size, 2, none⟩)) [11, 10, 9, 8, 7] rfl (by kernel_rfl) (fun _ _ _ h => h) hA rfl (fun w5 q1 => ?_) ?_
  ·go_simp
  simp only [Act.put, List.setIfInBounds_toArray, List.set]
  refine wpG_tq 7 (.slice a B.sets.length c) [11, 10, 9, 8] rfl (by kernel_rfl) (fun _ _ _ h => h) hA rfl (fun w5 q1 => ?_) ?_
  ·obtain ⟨c0, c1, c2⟩ := cells3_of q1
   go_simp
  simp only [Act.put, List.setIfInBounds_toArray, List.set]
  refine wpG_tq 8 (.int .i64 B.sets.length) [11, 10, 9] rfl (by kernel_rfl) (fun _ _ _ h => h) hA rfl (fun w5 q1 => ?_) ?_
  ·go_simp
  simp only [Act.put, List.setIfInBounds_toArray, List.set]
  refine wpG_tq 9 (.int .u8 ns) [11, 10] rfl (by kernel_rfl) (fun _ _ _ h => h) hA rfl (fun w5 q1 => ?_) ?_
  ·go_simp
  simp only [Act.put, List.setIfInBounds_toArray, List.set]
  refine wpG_do2 (i := 2) (j := 12) rfl rfl (by kernel_rfl) rfl rfl (fun K hK => ?_) (fun K hK => ?_)
  ·have HKK := Lib.hid hK
   clear hK
   go_step
   refine (put64_any (v := .slice none 0 0) (bs := []) (x := B.epoch) _ (by simp) (.inl ⟨rfl, rfl⟩) HEP.out).mono ?_
   rintro e WA ⟨u, rfl, g1, g2⟩
   have hA := (g2.block _ (lt_of_heap hA) (fun e => e)).trans hA
   have HO := Lib.hid (OwnB.mono g1 HU.out.size)
   have HU := Lib.hid (HU.out.trans g2)
   clear g1 g2
   simp only []
   refine HKK.out _ _ hA ?_
   clear HKK
   simp only [Act.put, List.setIfInBounds_toArray, List.set]
   refine wpG_do2 (i := 5) (j := 12) rfl rfl (by kernel_rfl) rfl rfl (fun K hK => ?_) (fun K hK => ?_)
   ·have HKK := Lib.hid hK
    clear hK
    go_step
    refine (flagv_any B.large _).mono ?_
    rintro e wf ⟨rfl, rfl⟩
    simp only []
    refine HKK.out _ _ hA ?_
    clear HKK
    simp only [Act.put, List.setIfInBounds_toArray, List.set]
    refine wpG_do2 (i := 10) (j := 12) rfl rfl (by kernel_rfl) rfl rfl (fun K hK => ?_) (fun K hK => ?_)
    ·have HKK := Lib.hid hK
     clear hK
     go_step
     have ub : Upd (fun _ => False) WA (WA.alloc (.cells #[.int .u8 (flagF B.large), .int .u8 ns] 5)) := (Upd.refl _ _).alloc _
     have HB1 := Lib.hid (two_in WA (flagF B.large) ns)
     have hA := (ub.block _ (lt_of_heap hA) (fun e => e)).trans hA
     have HU := Lib.hid (HU.out.trans ub); have HO := Lib.hid (OwnB.keptF HO.out ub (fun _ _ e => e))
     generalize hWB : WA.alloc (.cells #[.int .u8 (flagF B.large), .int .u8 ns] 5) = WB at HB1 hA HU HO ub ⊢
     clear ub hWB
     refine HKK.out _ _ hA ?_
     clear HKK
     simp only [Act.put, List.setIfInBounds_toArray, List.set]
     refine wpG_do2 (i := 11) (j := 12) rfl rfl (by kernel_rfl) rfl rfl (fun K hK => ?_) (fun K hK => ?_)
     ·have HKK := Lib.hid hK
      clear hK
      refine wp_appB (.tmp 9) (.tmp 17) rfl rfl HO.out rfl HB1.out (by simp [layF_length]) HU.out.size ?_
      intro v1 w1 g1 g2
      have hA := (g2.block _ (lt_of_heap hA) (fun e => own_apart HO.out hA (by decide) _ e rfl)).trans hA
      have HU := Lib.hid (HU.out.step g2 (fun j hj e => by have := (HO.out.lt j e).1; omega)); have HO := Lib.hid g1
      obtain ⟨ta, tm, tc, ht3⟩ := g1.bytesAt.1.slice'
      subst ht3
      clear g1 g2 HB1
      refine HKK.out _ _ hA ?_
      clear HKK
      simp only [Act.put, List.setIfInBounds_toArray, List.set]
      refine wpG_do (i := 12) rfl (by kernel_rfl) rfl (fun K hK => ?_)
      have HKK := Lib.hid hK
      clear hK
      go_step
      have ua : Upd (fun _ => False) w1 (w1.alloc (.cells #[.slice none 0 0] 39)) := (Upd.refl _ _).alloc _
      have HB6 := Lib.hid HU.out.size
      have HX := Lib.hid (alloc_at (w := w1) (o := .cells #[.slice none 0 0] 39) rfl)
      have hA := (ua.block _ (lt_of_heap hA) (fun e => e)).trans hA
      have HU := Lib.hid (HU.out.trans ua)
      have HO := Lib.hid (OwnB.keptF HO.out ua (fun _ _ e => e))
      clear ua
      refine HKK.out _ _ hA ?_
      clear HKK
      simp only [Act.put, List.setIfInBounds_toArray, List.set]
      generalize w1.alloc (.cells #[.slice none 0 0] 39) = w1X at HX hA HU HO ⊢
      generalize w1.heap.size = bo at HX HB6 ⊢
      refine wpG_tail_lit (k := 13) rfl rfl (by kernel_rfl) ?_
      simp only [List.drop]
      have HNE := Lib.hid (own_apart HO.out HX.out (by decide))
      have c0 := cells1_of HX.out
      have f0 : w1X.frozen? ⟨_, 0, none⟩ = false := frozen_of_heap HX.out
      go_wp2
      go_meet
      case rel =>
       have hu9 := upd_own w1X bo 0 (.slice ta tm tc)
       refine ⟨_, rfl, ⟨.slice ta tm tc, ?_, OwnB.keptF HO.out hu9 (fun k hk e => HNE.out k hk e), HNE.out, HB6.out, HU.out.step hu9 (fun j hj e => by have := HB6.out; omega)⟩, ?_⟩
       ·have := blk_set (i := 0) (v := .slice ta tm tc) HX.out
        simpa using this
       ·refine (hu9.block _ (lt_of_heap hA) (fun e => ?_)).trans hA
        have e1 := HX.out
        rw [← e, hA] at e1
        injection e1 with e1
        injection e1 with _ e2 _
        exact absurd e2 (by decide)
     ·have HKK := Lib.hid hK
      clear hK
      go_step
      have ua : Upd (fun _ => False) WB (WB.alloc (.cells #[.slice none 0 0] 39)) := (Upd.refl _ _).alloc _
      have HB6 := Lib.hid HU.out.size
      have HX := Lib.hid (alloc_at (w := WB) (o := .cells #[.slice none 0 0] 39) rfl)
      have hA := (ua.block _ (lt_of_heap hA) (fun e => e)).trans hA
      have HU := Lib.hid (HU.out.trans ua)
      have HO := Lib.hid (OwnB.keptF HO.out ua (fun _ _ e => e))
      have HB1 := Lib.hid (HB1.out.kept ua)
      clear ua
      refine HKK.out _ _ hA ?_
      clear HKK
      simp only [Act.put, List.setIfInBounds_toArray, List.set]
      generalize WB.alloc (.cells #[.slice none 0 0] 39) = WBX at HX hA HU HO HB1 ⊢
      generalize WB.heap.size = bo at HX HB6 ⊢
      refine wpG_do (i := 11) rfl (by kernel_rfl) rfl (fun K hK => ?_)
      have HKK := Lib.hid hK
      clear hK
      refine wp_appB (.tmp 9) (.tmp 17) rfl rfl HO.out rfl HB1.out (by simp [layF_length]) HU.out.size ?_
      intro v1 w1 g1 g2
      have hA := (g2.block _ (lt_of_heap hA) (fun e => own_apart HO.out hA (by decide) _ e rfl)).trans hA
      have HX := Lib.hid ((g2.block _ (lt_of_heap HX.out) (fun e => own_apart HO.out HX.out (by decide) _ e rfl)).trans HX.out)
      have HU := Lib.hid (HU.out.step g2 (fun j hj e => by have := (HO.out.lt j e).1; omega)); have HO := Lib.hid g1
      obtain ⟨ta, tm, tc, ht3⟩ := g1.bytesAt.1.slice'
      subst ht3
      clear g1 g2 HB1
      refine HKK.out _ _ hA ?_
      clear HKK
      simp only [Act.put, List.setIfInBounds_toArray, List.set]
      refine wpG_tail_lit (k := 13) rfl rfl (by kernel_rfl) ?_
      simp only [List.drop]
      have HNE := Lib.hid (own_apart HO.out HX.out (by decide))
      have c0 := cells1_of HX.out
      have f0 : w1.frozen? ⟨_, 0, none⟩ = false := frozen_of_heap HX.out
      go_wp2
      go_meet
      case rel =>
       have hu9 := upd_own w1 bo 0 (.slice ta tm tc)
       refine ⟨_, rfl, ⟨.slice ta tm tc, ?_, OwnB.keptF HO.out hu9 (fun k hk e => HNE.out k hk e), HNE.out, HB6.out, HU.out.step hu9 (fun j hj e => by have := HB6.out; omega)⟩, ?_⟩
       ·have := blk_set (i := 0) (v := .slice ta tm tc) HX.out
        simpa using this
       ·refine (hu9.block _ (lt_of_heap hA) (fun e => ?_)).trans hA
        have e1 := HX.out
        rw [← e, hA] at e1
        injection e1 with e1
        injection e1 with _ e2 _
        exact absurd e2 (by decide)
    ·have HKK := Lib.hid hK
     clear hK
     go_step
     have ua : Upd (fun _ => False) WA (WA.alloc (.cells #[.slice none 0 0] 39)) := (Upd.refl _ _).alloc _
     have HB6 := Lib.hid HU.out.size
     have HX := Lib.hid (alloc_at (w := WA) (o := .cells #[.slice none 0 0] 39) rfl)
     have hA := (ua.block _ (lt_of_heap hA) (fun e => e)).trans hA
     have HU := Lib.hid (HU.out.trans ua)
     have HO := Lib.hid (OwnB.keptF HO.out ua (fun _ _ e => e))
     clear ua
     refine HKK.out _ _ hA ?_
     clear HKK
     simp only [Act.put, List.setIfInBounds_toArray, List.set]
     generalize WA.alloc (.cells #[.slice none 0 0] 39) = WAX at HX hA HU HO ⊢
     generalize WA.heap.size = bo at HX HB6 ⊢
     refine wpG_do (i := 10) rfl (by kernel_rfl) rfl (fun K hK => ?_)
     have HKK := Lib.hid hK
     clear hK
     go_step
     have ub : Upd (fun _ => False) WAX (WAX.alloc (.cells #[.int .u8 (flagF B.large), .int .u8 ns] 5)) := (Upd.refl _ _).alloc _
     have HB1 := Lib.hid (two_in WAX (flagF B.large) ns)
     have hA := (ub.block _ (lt_of_heap hA) (fun e => e)).trans hA
     have HX := Lib.hid ((ub.block _ (lt_of_heap HX.out) (fun e => e)).trans HX.out)
     have HU := Lib.hid (HU.out.trans ub); have HO := Lib.hid (OwnB.keptF HO.out ub (fun _ _ e => e))
     generalize hWB : WAX.alloc (.cells #[.int .u8 (flagF B.large), .int .u8 ns] 5) = WB at HB1 hA HU HO HX ub ⊢
     clear ub hWB
     refine HKK.out _ _ hA ?_
     clear HKK
     simp only [Act.put, List.setIfInBounds_toArray, List.set]
     refine wpG_do (i := 11) rfl (by kernel_rfl) rfl (fun K hK => ?_)
     have HKK := Lib.hid hK
     clear hK
     refine wp_appB (.tmp 9) (.tmp 17) rfl rfl HO.out rfl HB1.out (by simp [layF_length]) HU.out.size ?_
     intro v1 w1 g1 g2
     have hA := (g2.block _ (lt_of_heap hA) (fun e => own_apart HO.out hA (by decide) _ e rfl)).trans hA
     have HX := Lib.hid ((g2.block _ (lt_of_heap HX.out) (fun e => own_apart HO.out HX.out (by decide) _ e rfl)).trans HX.out)
     have HU := Lib.hid (HU.out.step g2 (fun j hj e => by have := (HO.out.lt j e).1; omega)); have HO := Lib.hid g1
     obtain ⟨ta, tm, tc, ht3⟩ := g1.bytesAt.1.slice'
     subst ht3
     clear g1 g2 HB1
     refine HKK.out _ _ hA ?_
     clear HKK
     simp only [Act.put, List.setIfInBounds_toArray, List.set]
     refine wpG_tail_lit (k := 13) rfl rfl (by kernel_rfl) ?_
     simp only [List.drop]
     have HNE := Lib.hid (own_apart HO.out HX.out (by decide))
     have c0 := cells1_of HX.out
     have f0 : w1.frozen? ⟨_, 0, none⟩ = false := frozen_of_heap HX.out
     go_wp2
     go_meet
     case rel =>
      have hu9 := upd_own w1 bo 0 (.slice ta tm tc)
      refine ⟨_, rfl, ⟨.slice ta tm tc, ?_, OwnB.keptF HO.out hu9 (fun k hk e => HNE.out k hk e), HNE.out, HB6.out, HU.out.step hu9 (fun j hj e => by have := HB6.out; omega)⟩, ?_⟩
      ·have := blk_set (i := 0) (v := .slice ta tm tc) HX.out
       simpa using this
      ·refine (hu9.block _ (lt_of_heap hA) (fun e => ?_)).trans hA
       have e1 := HX.out
       rw [← e, hA] at e1
       injection e1 with e1
       injection e1 with _ e2 _
       exact absurd e2 (by decide)
   ·have HKK := Lib.hid hK
    clear hK
    go_step
    have ua : Upd (fun _ => False) WA (WA.alloc (.cells #[.slice none 0 0] 39)) := (Upd.refl _ _).alloc _
    have HB6 := Lib.hid HU.out.size
    have HX := Lib.hid (alloc_at (w := WA) (o := .cells #[.slice none 0 0] 39) rfl)
    have hA := (ua.block _ (lt_of_heap hA) (fun e => e)).trans hA
    have HU := Lib.hid (HU.out.trans ua)
    have HO := Lib.hid (OwnB.keptF HO.out ua (fun _ _ e => e))
    clear ua
    refine HKK.out _ _ hA ?_
    clear HKK
    simp only [Act.put, List.setIfInBounds_toArray, List.set]
    generalize WA.alloc (.cells #[.slice none 0 0] 39) = WAX at HX hA HU HO ⊢
    generalize WA.heap.size = bo at HX HB6 ⊢
    refine wpG_do (i := 5) rfl (by kernel_rfl) rfl (fun K hK => ?_)
    have HKK := Lib.hid hK
    clear hK
    go_step
    refine (flagv_any B.large _).mono ?_
    rintro e wf ⟨rfl, rfl⟩
    simp only []
    refine HKK.out _ _ hA ?_
    clear HKK
    simp only [Act.put, List.setIfInBounds_toArray, List.set]
    refine wpG_do (i := 10) rfl (by kernel_rfl) rfl (fun K hK => ?_)
    have HKK := Lib.hid hK
    clear hK
    go_step
    have ub : Upd (fun _ => False) WAX (WAX.alloc (.cells #[.int .u8 (flagF B.large), .int .u8 ns] 5)) := (Upd.refl _ _).alloc _
    have HB1 := Lib.hid (two_in WAX (flagF B.large) ns)
    have hA := (ub.block _ (lt_of_heap hA) (fun e => e)).trans hA
    have HX := Lib.hid ((ub.block _ (lt_of_heap HX.out) (fun e => e)).trans HX.out)
    have HU := Lib.hid (HU.out.trans ub); have HO := Lib.hid (OwnB.keptF HO.out ub (fun _ _ e => e))
    generalize hWB : WAX.alloc (.cells #[.int .u8 (flagF B.large), .int .u8 ns] 5) = WB at HB1 hA HU HO HX ub ⊢
    clear ub hWB
    refine HKK.out _ _ hA ?_
    clear HKK
    simp only [Act.put, List.setIfInBounds_toArray, List.set]
    refine wpG_do (i := 11) rfl (by kernel_rfl) rfl (fun K hK => ?_)
    have HKK := Lib.hid hK
    clear hK
    refine wp_appB (.tmp 9) (.tmp 17) rfl rfl HO.out rfl HB1.out (by simp [layF_length]) HU.out.size ?_
    intro v1 w1 g1 g2
    have hA := (g2.block _ (lt_of_heap hA) (fun e => own_apart HO.out hA (by decide) _ e rfl)).trans hA
    have HX := Lib.hid ((g2.block _ (lt_of_heap HX.out) (fun e => own_apart HO.out HX.out (by decide) _ e rfl)).trans HX.out)
    have HU := Lib.hid (HU.out.step g2 (fun j hj e => by have := (HO.out.lt j e).1; omega)); have HO := Lib.hid g1
    obtain ⟨ta, tm, tc, ht3⟩ := g1.bytesAt.1.slice'
    subst ht3
    clear g1 g2 HB1
    refine HKK.out _ _ hA ?_
    clear HKK
    simp only [Act.put, List.setIfInBounds_toArray, List.set]
    refine wpG_tail_lit (k := 13) rfl rfl (by kernel_rfl) ?_
    simp only [List.drop]
    have HNE := Lib.hid (own_apart HO.out HX.out (by decide))
    have c0 := cells1_of HX.out
    have f0 : w1.frozen? ⟨_, 0, none⟩ = false := frozen_of_heap HX.out
    go_wp2
    go_meet
    case rel =>
     have hu9 := upd_own w1 bo 0 (.slice ta tm tc)
     refine ⟨_, rfl, ⟨.slice ta tm tc, ?_, OwnB.keptF HO.out hu9 (fun k hk e => HNE.out k hk e), HNE.out, HB6.out, HU.out.step hu9 (fun j hj e => by have := HB6.out; omega)⟩, ?_⟩
     ·have := blk_set (i := 0) (v := .slice ta tm tc) HX.out
      simpa using this
     ·refine (hu9.block _ (lt_of_heap hA) (fun e => ?_)).trans hA
      have e1 := HX.out
      rw [← e, hA] at e1
      injection e1 with e1
      injection e1 with _ e2 _
      exact absurd e2 (by decide)
  ·have HKK := Lib.hid hK
   clear hK
   go_step
   have ua : Upd (fun _ => False) wd (wd.alloc (.cells #[.slice none 0 0] 39)) := (Upd.refl _ _).alloc _
   have HB6 := Lib.hid HU.out.size
   have HX := Lib.hid (alloc_at (w := wd) (o := .cells #[.slice none 0 0] 39) rfl)
   have hA := (ua.block _ (lt_of_heap hA) (fun e => e)).trans hA
   have HU := Lib.hid (HU.out.trans ua)
   clear ua
   refine HKK.out _ _ hA ?_
   clear HKK
   simp only [Act.put, List.setIfInBounds_toArray, List.set]
   generalize wd.alloc (.cells #[.slice none 0 0] 39) = wdX at HX hA HU ⊢
   generalize wd.heap.size = bo at HX HB6 ⊢
   refine wpG_do (i := 2) rfl (by kernel_rfl) rfl (fun K hK => ?_)
   have HKK := Lib.hid hK
   clear hK
   go_step
   refine (put64_any (v := .slice none 0 0) (bs := []) (x := B.epoch) _ (by simp) (.inl ⟨rfl, rfl⟩) HEP.out).mono ?_
   rintro e WA ⟨u, rfl, g1, g2⟩
   have hA := (g2.block _ (lt_of_heap hA) (fun e => e)).trans hA
   have HX := Lib.hid ((g2.block _ (lt_of_heap HX.out) (fun e => e)).trans HX.out)
   have HO := Lib.hid (OwnB.mono g1 HU.out.size)
   have HU := Lib.hid (HU.out.trans g2)
   clear g1 g2
   simp only []
   refine HKK.out _ _ hA ?_
   clear HKK
   simp only [Act.put, List.setIfInBounds_toArray, List.set]
   refine wpG_do (i := 5) rfl (by kernel_rfl) rfl (fun K hK => ?_)
   have HKK := Lib.hid hK
   clear hK
   go_step
   refine (flagv_any B.large _).mono ?_
   rintro e wf ⟨rfl, rfl⟩
   simp only []
   refine HKK.out _ _ hA ?_
   clear HKK
   simp only [Act.put, List.setIfInBounds_toArray, List.set]
   refine wpG_do (i := 10) rfl (by kernel_rfl) rfl (fun K hK => ?_)
   have HKK := Lib.hid hK
   clear hK
   go_step
   have ub : Upd (fun _ => False) WA (WA.alloc (.cells #[.int .u8 (flagF B.large), .int .u8 ns] 5)) := (Upd.refl _ _).alloc _
   have HB1 := Lib.hid (two_in WA (flagF B.large) ns)
   have hA := (ub.block _ (lt_of_heap hA) (fun e => e)).trans hA
   have HX := Lib.hid ((ub.block _ (lt_of_heap HX.out) (fun e => e)).trans HX.out)
   have HU := Lib.hid (HU.out.trans ub); have HO := Lib.hid (OwnB.keptF HO.out ub (fun _ _ e => e))
   generalize hWB : WA.alloc (.cells #[.int .u8 (flagF B.large), .int .u8 ns] 5) = WB at HB1 hA HU HO HX ub ⊢
   clear ub hWB
   refine HKK.out _ _ hA ?_
   clear HKK
   simp only [Act.put, List.setIfInBounds_toArray, List.set]
   refine wpG_do (i := 11) rfl (by kernel_rfl) rfl (fun K hK => ?_)
   have HKK := Lib.hid hK
   clear hK
   refine wp_appB (.tmp 9) (.tmp 17) rfl rfl HO.out rfl HB1.out (by simp [layF_length]) HU.out.size ?_
   intro v1 w1 g1 g2
   have hA := (g2.block _ (lt_of_heap hA) (fun e => own_apart HO.out hA (by decide) _ e rfl)).trans hA
   have HX := Lib.hid ((g2.block _ (lt_of_heap HX.out) (fun e => own_apart HO.out HX.out (by decide) _ e rfl)).trans HX.out)
   have HU := Lib.hid (HU.out.step g2 (fun j hj e => by have := (HO.out.lt j e).1; omega)); have HO := Lib.hid g1
   obtain ⟨ta, tm, tc, ht3⟩ := g1.bytesAt.1.slice'
   subst ht3
   clear g1 g2 HB1
   refine HKK.out _ _ hA ?_
   clear HKK
   simp only [Act.put, List.setIfInBounds_toArray, List.set]
   refine wpG_tail_lit (k := 13) rfl rfl (by kernel_rfl) ?_
   simp only [List.drop]
   have HNE := Lib.hid (own_apart HO.out HX.out (by decide))
   have c0 := cells1_of HX.out
   have f0 : w1.frozen? ⟨_, 0, none⟩ = false := frozen_of_heap HX.out
   go_wp2
   go_meet
   case rel =>
    have hu9 := upd_own w1 bo 0 (.slice ta tm tc)
    refine ⟨_, rfl, ⟨.slice ta tm tc, ?_, OwnB.keptF HO.out hu9 (fun k hk e => HNE.out k hk e), HNE.out, HB6.out, HU.out.step hu9 (fun j hj e => by have := HB6.out; omega)⟩, ?_⟩
    ·have := blk_set (i := 0) (v := .slice ta tm tc) HX.out
     simpa using this
    ·refine (hu9.block _ (lt_of_heap hA) (fun e => ?_)).trans hA
     have e1 := HX.out
     rw [← e, hA] at e1
     injection e1 with e1
     injection e1 with _ e2 _
     exact absurd e2 (by decide)
 case rest =>
  obtain ⟨bo, rfl, hE, hX⟩ := hcut
  have HE := Lib.hid hE
  obtain ⟨z0, z1, z2⟩ := cells3_of hX
  have hszl : w.heap.size < wc.heap.size := lt_of_heap hX
  clear hE hX HX1 HW1 hA HU
  have hall : ∀ x ∈ B.sets, x.right = true := by
   have := HR.out
   simp only [BatchV.right, Bool.and_eq_true, decide_eq_true_eq, List.all_eq_true] at this
   exact this.1.2
  have HALL := Lib.hid hall
  obtain ⟨hd, hhd⟩ : ∃ hd, hd = layF B.epoch 64 ++ [flagF B.large, ns] := ⟨_, rfl⟩
  have hhl : hd.length = 10 := by rw [hhd]; simp [layF_length]
  rw [← hhd] at HE
  have HHD := Lib.hid hhd; have HHL := Lib.hid hhl
  clear hall hhd hhl
  go_upto_region 4 with fail
  go_loopg [23] B.sets.length (fun gk i wr => ∃ k : Nat, k ≤ B.sets.length ∧ gk = B.sets.length - k ∧ i = .int .i64 k ∧ EncAt w wr bo (hd ++ setsF (B.sets.take k)))
  case atStart => exact ⟨0, Nat.zero_le _, rfl, rfl, by simpa [setsF] using HE.out⟩
  case round =>
   obtain ⟨k, hk, rfl, rfl, he⟩ := hrel
   have HE := Lib.hid he
   clear he
   by_cases hkn : k < B.sets.length
   ·have hkni : (k : Int) < B.sets.length := by omega
    obtain ⟨x, hx⟩ : ∃ x, B.sets[k]? = some x := ⟨_, List.getElem?_eq_getElem hkn⟩
    obtain ⟨g1, g2, g3, b, o, ea, oa, oc, na, nc, h0, h1, h2, h3, h4, h5, h6, h7, h8⟩ := HS.out k x hx
    have hxr := HALL.out x (List.mem_of_getElem? hx)
    simp only [SetV.right, decide_eq_true_eq] at hxr
    obtain ⟨r1, r2, r3, r4, _, _⟩ := hxr
    have hts : setsF (B.sets.take (k + 1)) = setsF (B.sets.take k) ++ setF x := by
     have hxx : B.sets[k] = x := by rw [List.getElem?_eq_getElem hkn] at hx; injection hx
     rw [List.take_succ_eq_append_getElem hkn, hxx]
     simp [setsF]
    have hlen : (hd ++ setsF (B.sets.take k)).length ≤ 300000 := by
     have := setsF_length (l := B.sets.take k) fun y hy => HALL.out y (List.mem_of_mem_take hy)
     have h10 := HHL.out
     rw [List.length_append]
     simp only [List.length_take] at this
     have : 6031 * min k B.sets.length ≤ 6031 * 48 := Nat.mul_le_mul_left _ (by omega)
     omega
    subst ea
    obtain ⟨v0, e1, e2, e3, e4, e5⟩ := HE.out
    have kc : ∀ {o : Nat} {v : Value}, w.cell? ⟨b, o, none⟩ = some v → wr.cell? ⟨b, o, none⟩ = some v := fun h => cell_keptF e5 (fun e => e) h
    have q0 := kc h0; have q1 := kc h1; have q2 := kc h2; have q3 := kc h3; have q4 := kc h4
    obtain ⟨out, hout⟩ : ∃ out, out = hd ++ setsF (B.sets.take k) := ⟨_, rfl⟩
    rw [← hout] at e2 hlen
    have H5 := Lib.hid h5; have H6 := Lib.hid h6; have HTS := Lib.hid hts; have HOUT := Lib.hid hout; have HLEN := Lib.hid hlen
    have HB0 := Lib.hid e4
    have hcn : IntKind.u8.wrap (x.name.size : Int) = x.name.size := by rw [IntKind.wrap_u8]; omega
    obtain ⟨nl, hnl⟩ : ∃ nl : Int, nl = (x.name.size : Int) := ⟨_, rfl⟩
    have HNL := Lib.hid hnl
    rw [← hnl] at hcn
    have hcn : IntKind.u8.wrap (x.name.size : Int) = nl := by rw [← hnl]; exact hcn
    have hA0 := e1
    have HU0 := Lib.hid e5; have HO0 := Lib.hid e2
    clear hx h0 h1 h2 h3 h4 h5 h6 kc hts hlen hout e1 e2 e3 e5 e4 hnl
    go_upto_region 6 with fail
    obtain ⟨b6, hb6⟩ : ∃ b6, b6 = wr.heap.size := ⟨_, rfl⟩
    obtain ⟨w3, hw3⟩ : ∃ w3, w3 = wr.alloc (.cells #[.string x.name, .bool x.was, .bool x.is, .slice oa x.old.length oc, .slice na x.new.length nc] 73) := ⟨_, rfl⟩
    rw [← hw3, ← hb6]
    have hu3 : Upd (fun _ => False) wr w3 := by rw [hw3]; exact (Upd.refl _ wr).alloc _
    have hx3 : w3.heap[b6]? = some (.cells #[.string x.name, .bool x.was, .bool x.is, .slice oa x.old.length oc, .slice na x.new.length nc] 73 (0, 0)) := by rw [hw3]; exact alloc_at hb6
    have hA : w3.drew.heap[bo]? = some (.cells #[v0] 39 (0, 0)) ∧ w3.drew.heap[b6]? = some (.cells #[.string x.name, .bool x.was, .bool x.is, .slice oa x.old.length oc, .slice na x.new.length nc] 73 (0, 0)) := ⟨(hu3.block _ (lt_of_heap hA0) (fun e => e)).trans hA0, hx3⟩
    have HU := Lib.hid ((HU0.out.trans hu3).drew)
    have HO := Lib.hid (show OwnB w3.drew w.heap.size v0 out from OwnB.keptF HO0.out hu3.drew (fun _ _ e => e))
    have hbl : bo < b6 := by rw [hb6]; exact lt_of_heap hA0
    clear hw3 hb6 hu3 hx3 hA0 q0 q1 q2 q3 q4 z0 z1
    refine wp_region_G 10 (fun W => W.heap[bo]? = some (.cells #[v0] 39 (0, 0)) ∧ W.heap[b6]? = some (.cells #[.string x.name, .bool x.was, .bool x.is, .slice oa x.old.length oc, .slice na x.new.length nc] 73 (0, 0))) [false, false, false, false, false, false, false, false, false, false, false] rfl (by kernel_rfl) ?_
    generalize w3.drew = wd at hA HU HO ⊢
    refine wpG_tq 0 (v0) [9, 6] rfl (by kernel_rfl) (fun _ _ _ h => h) hA rfl (fun w5 q1 => ?_) ?_
    ·have c0 := cells1_of q1.1
     go_simp
    simp only [Act.put, List.setIfInBounds_toArray, List.set]
    refine wpG_tq 1 (.pointer (some ⟨b6, 0, none⟩)) [9, 6, 5, 4, 3, 2] rfl (by kernel_rfl) (fun _ _ _ h => h) hA rfl (fun w5 q1 => ?_) ?_
    ·go_simp
    simp only [Act.put, List.setIfInBounds_toArray, List.set]
    refine wpG_tq 2 (.string x.name) [9, 6, 5, 4, 3] rfl (by kernel_rfl) (fun _ _ _ h => h) hA rfl (fun w5 q1 => ?_) ?_
    ·obtain ⟨x0, x1, x2, x3, x4⟩ := cells5_of q1.2
     go_simp
    simp only [Act.put, List.setIfInBounds_toArray, List.set]
    refine wpG_tq 3 (.int .i64 x.name.size) [9, 6, 5, 4] rfl (by kernel_rfl) (fun _ _ _ h => h) hA rfl (fun w5 q1 => ?_) ?_
    ·go_simp
    simp only [Act.put, List.setIfInBounds_toArray, List.set]
    refine wpG_tq 4 (.int .u8 nl) [9, 6, 5] rfl (by kernel_rfl) (fun _ _ _ h => h) hA rfl (fun w5 q1 => ?_) ?_
    ·go_simp
    simp only [Act.put, List.setIfInBounds_toArray, List.set]
    refine wpG_tq 7 (.pointer (some ⟨b6, 0, none⟩)) [9, 8] rfl (by kernel_rfl) (fun _ _ _ h => h) hA rfl (fun w5 q1 => ?_) ?_
    ·go_simp
    simp only [Act.put, List.setIfInBounds_toArray, List.set]
    refine wpG_tq 8 (.string x.name) [9] rfl (by kernel_rfl) (fun _ _ _ h => h) hA rfl (fun w5 q1 => ?_) ?_
    ·obtain ⟨x0, x1, x2, x3, x4⟩ := cells5_of q1.2
     go_simp
    simp only [Act.put, List.setIfInBounds_toArray, List.set]
    refine wpG_do (i := 5) rfl (by kernel_rfl) rfl (fun K hK => ?_)
    have HKK := Lib.hid hK
    clear hK
    go_step
    have ua : Upd (fun _ => False) wd (wd.alloc (.cells #[.int .u8 nl] 5)) := (Upd.refl _ _).alloc _
    have HB1 := Lib.hid (one_in wd nl)
    have hA := And.intro ((ua.block _ (lt_of_heap hA.1) (fun e => e)).trans hA.1) ((ua.block _ (lt_of_heap hA.2) (fun e => e)).trans hA.2)
    have HU := Lib.hid (HU.out.trans ua); have HO := Lib.hid (OwnB.keptF HO.out ua (fun _ _ e => e))
    refine HKK.out _ _ hA ?_
    generalize wd.alloc (.cells #[.int .u8 nl] 5) = we at HB1 hA HU HO ⊢
    clear ua
    clear HKK
    simp only [Act.put, List.setIfInBounds_toArray, List.set]
    refine wpG_do (i := 6) rfl (by kernel_rfl) rfl (fun K hK => ?_)
    have HKK := Lib.hid hK
    clear hK
    refine wp_appB (.tmp 27) (.tmp 32) rfl rfl HO.out rfl HB1.out (by have := HLEN.out; simp; omega) HU.out.size ?_
    intro v1 w4 g1 g2
    have hA := And.intro ((g2.block _ (lt_of_heap hA.1) (fun e => own_apart HO.out hA.1 (by decide) _ e rfl)).trans hA.1) ((g2.block _ (lt_of_heap hA.2) (fun e => own_apart HO.out hA.2 (by decide) _ e rfl)).trans hA.2)
    have HU := Lib.hid (HU.out.step g2 (fun j hj e => by have := (HO.out.lt j e).1; omega)); have HO := Lib.hid g1
    refine HKK.out _ _ hA ?_
    clear g1 g2
    clear HKK
    simp only [Act.put, List.setIfInBounds_toArray, List.set]
    refine wpG_do (i := 9) rfl (by kernel_rfl) rfl (fun K hK => ?_)
    have HKK := Lib.hid hK
    clear hK
    refine wp_appS (.tmp 33) (.tmp 35) rfl rfl HO.out rfl (by have := HLEN.out; simp; omega) HU.out.size ?_
    intro v2 w5 g1 g2
    have hA := And.intro ((g2.block _ (lt_of_heap hA.1) (fun e => own_apart HO.out hA.1 (by decide) _ e rfl)).trans hA.1) ((g2.block _ (lt_of_heap hA.2) (fun e => own_apart HO.out hA.2 (by decide) _ e rfl)).trans hA.2)
    have HU := Lib.hid (HU.out.step g2 (fun j hj e => by have := (HO.out.lt j e).1; omega)); have HO := Lib.hid g1
    obtain ⟨ta, tm, tc, ht3⟩ := g1.bytesAt.1.slice'
    refine HKK.out _ _ hA ?_
    clear g1 g2
    subst ht3
    clear HKK
    simp only [Act.put, List.setIfInBounds_toArray, List.set]
    refine wpG_tail_lit (k := 10) rfl rfl (by kernel_rfl) ?_
    simp only [List.drop]
    have HNE := Lib.hid (own_apart HO.out hA.1 (by decide))
    have c0 := cells1_of hA.1
    have f0 : w5.frozen? ⟨bo, 0, none⟩ = false := frozen_of_heap hA.1
    have HA := Lib.hid hA
    clear hA
    go_upto_region 7 with fail
    obtain ⟨w6, hw6⟩ : ∃ w6, w6 = w5.setCell ⟨bo, 0, none⟩ (.slice ta tm tc) := ⟨_, rfl⟩
    rw [← hw6]
    have hu6 : Upd (fun k => k = bo) w5 w6 := by rw [hw6]; exact upd_own w5 bo 0 _
    have hE6 : EncAt w w6 bo (out ++ [nl] ++ numsOf x.name) := by
     refine ⟨.slice ta tm tc, ?_, OwnB.keptF HO.out hu6 (fun k hk e => HNE.out k hk e), HNE.out, HB0.out, HU.out.step hu6 (fun j hj e => by have := HB0.out; omega)⟩
     rw [hw6]
     have := blk_set (i := 0) (v := .slice ta tm tc) HA.out.1
     simpa using this
    have hx6 : w6.heap[b6]? = some (.cells #[.string x.name, .bool x.was, .bool x.is, .slice oa x.old.length oc, .slice na x.new.length nc] 73 (0, 0)) := (hu6.block _ (lt_of_heap HA.out.2) (by omega)).trans HA.out.2
    obtain ⟨x0, x1, x2, x3, x4⟩ := cells5_of hx6
    have HE6 := Lib.hid hE6; have HX6 := Lib.hid hx6
    clear hw6 hu6 hE6 hx6 c0 f0 HA HO HU HNE
    go_wp2_with (go_at_call 146; fail)
    refine (maybe1_any w w6 HE6.out H5.out (by omega) (by have := HLEN.out; simp [numsOf_length]; omega)).mono ?_
    rintro e w7 ⟨⟨vv, rfl⟩, g5, g6⟩
    have hx7 := g6 _ _ HX6.out
    obtain ⟨x0, x1, x2, x3, x4⟩ := cells5_of hx7
    have HE7 := Lib.hid g5
    clear g5 g6 hx7
    simp only []
    go_wp2_with (go_at_call 146; fail)
    refine (maybe1_any w w7 HE7.out H6.out (by omega) (by have := HLEN.out; simp [numsOf_length, maybeF, layF_length]; omega)).mono ?_
    rintro e w8 ⟨⟨vv2, rfl⟩, g5, g6⟩
    have HE8 := Lib.hid g5
    clear g5 g6 x0 x1 x2 x3 x4
    simp only []
    go_wp2
    go_roundg (B.sets.length - (k + 1))
    case measure => omega
    case rel =>
     refine ⟨k + 1, by omega, rfl, congrArg _ (by omega), ?_⟩
     have e8 := HE8.out
     have : hd ++ setsF (B.sets.take (k + 1)) = out ++ [nl] ++ numsOf x.name ++ maybeF x.was x.old ++ maybeF x.is x.new := by
      rw [HTS.out, ← List.append_assoc, ← HOUT.out]
      have : setF x = nl :: (numsOf x.name ++ (maybeF x.was x.old ++ maybeF x.is x.new)) := by
       rw [HNL.out]
       simp only [setF]
       congr 1
       omega
      rw [this]
      simp
     rw [this]
     exact e8
   ·obtain rfl : k = B.sets.length := by omega
    have he := HE.out
    rw [List.take_of_length_le (Nat.le_refl _)] at he
    obtain ⟨v0, e1, e2, e3, e4, e5⟩ := he
    have c0 := cells1_of e1
    obtain ⟨va, vm, vc, rfl⟩ := e2.bytesAt.1.slice'
    have E2 := Lib.hid e2; have E5 := Lib.hid e5
    clear e1 e2 e3 e4 e5
    go_wp2
    go_ret
    have hh := HHD.out
    refine ⟨_, rfl, ?_, E5.out⟩
    have : encF B = hd ++ setsF B.sets := by rw [hh, HNS.out]; simp [encF]
    rw [this]
    exact E2.out
end Go.Proofs.YtbimkhdiplnbfaaGreat
end

section
namespace Go.Proofs.YtbimkhdiplnbfaaGreat
set_option maxRecDepth 100000
open Go.RowKit Go.Shelf

end Go.Proofs.YtbimkhdiplnbfaaGreat
end

section
namespace Go.Proofs.YtbimkhdiplnbfaaGreat
set_option maxRecDepth 100000
open Go.RowKit Go.Shelf

end Go.Proofs.YtbimkhdiplnbfaaGreat
end

section
namespace Go.Proofs.YtbimkhdiplnbfaaGreat
set_option maxRecDepth 100000
open Go.RowKit Go.Shelf

end Go.Proofs.YtbimkhdiplnbfaaGreat
end

section
namespace Go.Proofs.YtbimkhdiplnbfaaGreat
set_option maxRecDepth 100000
open Go.RowKit Go.Shelf

theorem elem54 : Tryz.prog.underlying 54 = some (.slice (Tryz.prog.elem 54)) := by kernel_rfl
theorem size54e (W : World) : (sizeOf (Tryz.prog.elem 54)).run Tryz.prog W = .ok 5 W := by kernel_rfl
theorem toList_eq (s t : ByteArray) : (s.toList == t.toList) = decide (s = t) := by
 have h : ∀ u : ByteArray, u.toList = Lib.bytesOf (numsOf u) := fun u => by rw [← Lib.strOfNums_toList, strOf_numsOf]
 rw [Bool.eq_iff_iff, beq_iff_eq, decide_eq_true_eq]
 refine ⟨fun e => ?_, fun e => by rw [e]⟩
 rw [h s, h t] at e
 exact numsOf_inj (bytesOf_inj (numsOf_bytes s) (numsOf_bytes t) e)

end Go.Proofs.YtbimkhdiplnbfaaGreat
end

section
namespace Go.Proofs.YtbimkhdiplnbfaaGreat
set_option maxRecDepth 100000
open Go.RowKit Go.Shelf

end Go.Proofs.YtbimkhdiplnbfaaGreat
end

section
namespace Go.Proofs.YtbimkhdiplnbfaaGreat
set_option maxRecDepth 100000
open Go.RowKit Go.Shelf

theorem Addr.add_zero' (a : Addr) : a.add 0 = a := by cases a; rfl
end Go.Proofs.YtbimkhdiplnbfaaGreat
end

