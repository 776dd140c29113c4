/- Walks of the reference: Send. -/
import Derived.Test.YtbimkhdiplnbfaaU15
import Derived.Laws.AppendOwnNone

namespace Go.Proofs.Ytbimkhdiplnbfaa
open Go.RowKit Go.Deep

theorem oper_val {P : Program} {o : Oper} {a : Act} {w w' : World} {v : Value} {K : Act → World → Prop} {Q : Exit → Act → World → Prop} (hr : (execOp a.eval o).run P w = .ok (.value v) w') (hK : K (a.put o.dst v) w') : o.wp P a w K Q := by
  unfold Oper.wp; rw [hr]; exact hK

theorem World.grownBy_refl' (w : World) (row : Option Nat) : w.grownBy w row := ⟨rfl, rfl, rfl, Nat.le_refl _, fun _ _ _ => rfl⟩

theorem append_row {o : Oper} {a : Act} {K : Act → World → Prop} {Q : Exit → Act → World → Prop} {W : World} {B ge : Nat} {Ra : Option Addr} {Rc : Nat} {R : List (Nat × List Int × Int)} (ho : o.op = .call { callee := .builtin .append, args := #[.tmp 7, .tmp 9], argTypes := #[67, 67] })
    (hs : a.eval (.tmp 7) = .slice (some ⟨ge, 0, none⟩) 0 0) (hx : a.eval (.tmp 9) = .slice Ra R.length Rc) (hown : W.ownsRow B 150 65 (.slice (some ⟨ge, 0, none⟩) 0 0) 0 []) (hR : RowR W Ra Rc R) (hl : ∀ x ∈ R, x.2.1.length = 64) (hRl : R.length ≤ 1000000) (hB : B ≤ W.heap.size)
    (h : ∀ v' W', W'.ownsRow B 150 65 v' R.length (R.flatMap sentC) → W.grownBy W' (some ge) → K (a.put o.dst v') W') : o.wp Try.prog a W K Q := by
  obtain ⟨i0, hi0, hz0, hz1, hz2⟩ := info_parts Try.info150p
  unfold RowR at hR
  have hR2 := hR
  rcases hR.2 with ⟨e, h0⟩ | ⟨g, cap, cur, e, _⟩
  · have hR0 : R = [] := List.length_eq_zero_iff.1 h0
    subst hR0
    simp only [Value.slice.injEq] at e
    obtain ⟨rfl, _, rfl⟩ := e
    have hrun := run_append_owned_none (P := Try.prog) (w := W) B 67 o.type 150 i0 65 Try.underlying67 hi0 _ 0 [] hown
    have hx' : a.eval (.tmp 9) = .slice none 0 0 := hx
    unfold Oper.wp
    simp [execOp, ho, resolve, invoke, builtin, hs, hx', hrun, Result.andThen]
    exact h _ _ hown (World.grownBy_refl' W _)
  · simp only [Value.slice.injEq, true_and] at e
    obtain ⟨rfl, rfl⟩ := e
    refine wp_append_own W (.tmp 7) (.tmp 9) 67 ho B 150 i0 (.agg Z150) 65 72 Try.underlying67 hi0 hz0 hz1 hz2 Z150_size (by omega) _ 0 [] hs hown ⟨g, 0, none⟩ R.length Rc (R.flatMap sentC) hx hR2.1 (World.ownsRow.cells hR2 rfl) (by
      intro u hu
      obtain ⟨y, _, hy⟩ := List.mem_flatMap.1 hu
      exact sentC_one y u hy) (by unfold maxLen; omega) (by omega) hB ?_
    intro v' W' h1 h2 _
    rw [Nat.zero_add, List.nil_append] at h1
    exact h v' W' h1 h2

set_option maxRecDepth 100000 in
set_option maxHeartbeats 4000000 in
theorem refSend_run (Aa Ra : Option Addr) (An Ac Rc : Nat) (R : List (Nat × List Int × Int)) (o ar fl : Int) (dd : Bool) (i : Nat) (b : List Int) (hb : b.length = 64) (nth : Int) (w : World) (hR : RowR w Ra Rc R) (hl : ∀ x ∈ R, x.2.1.length = 64) (hRl : R.length ≤ 1000000) :
    Calls Try.prog 94 #[.agg #[.slice Aa An Ac, .slice Ra R.length Rc, .int .i64 o, .int .i64 ar, .int .i64 fl, .bool dd], .int .i64 i, .agg (bcells b).toArray] w fun e w' =>
      ∃ g c, w.heap.size ≤ g ∧ e = .returned (.agg #[.slice Aa An Ac, .slice (some ⟨g, 0, none⟩) (R.length + 1) c, .int .i64 o, .int .i64 ar, .int .i64 fl, .bool dd]) ∧ RowR w' (some ⟨g, 0, none⟩) c (R ++ [(i, b, nth)]) ∧ Upd (fun _ => False) w w' := by
  have HR := Lib.hid hR; have HL := Lib.hid hl
  have HBL : RowKit.Hid ((bcells b).length = 64) := Lib.hid (by rw [bcells_length]; exact hb)
  have hi5 : (Try.prog.info? 56).map (·.size) = some (bcells b).length := by rw [Try.info56p, bcells_length, hb]
  have HI5 := Lib.hid hi5
  clear hR hl hi5
  go_enter Try.func94, Try.ntmps94
  go_upto_region 1 with fail
  obtain ⟨w1, hw1⟩ : ∃ w1, w1 = (((w.alloc (.cells #[.slice Aa An Ac, .slice Ra R.length Rc, .int .i64 o, .int .i64 ar, .int .i64 fl, .bool dd] 69)).alloc (.cells (bcells b).toArray 56)).alloc (.cells #[.slice none 0 0, .slice none 0 0, .int .i64 0, .int .i64 0, .int .i64 0, .bool false] 69)) := ⟨_, rfl⟩
  rw [← hw1]
  have hA : w1.drew.heap[w.heap.size]? = some (.cells #[.slice Aa An Ac, .slice Ra R.length Rc, .int .i64 o, .int .i64 ar, .int .i64 fl, .bool dd] 69 (0, 0)) ∧ w1.drew.heap[w.heap.size + 1]? = some (.cells (bcells b).toArray 56 (0, 0)) := by
    rw [hw1]
    exact ⟨(alloc_lt (by simp; omega)).trans ((alloc_lt (by simp)).trans (alloc_at rfl)), (alloc_lt (by simp)).trans (alloc_at (by simp))⟩
  have HRS : RowKit.Hid (w1.drew.heap[w.heap.size + 1 + 1]? = some (.cells #[.slice none 0 0, .slice none 0 0, .int .i64 0, .int .i64 0, .int .i64 0, .bool false] 69 (0, 0))) := Lib.hid (by rw [hw1]; exact alloc_at (by simp))
  have HU : RowKit.Hid (Upd (fun _ => False) w w1.drew) := Lib.hid (by rw [hw1]; exact ((((Upd.refl _ w).alloc _).alloc _).alloc _).drew)
  clear hw1
  refine wp_region_G 10 (fun W => W.heap[w.heap.size]? = some (.cells #[.slice Aa An Ac, .slice Ra R.length Rc, .int .i64 o, .int .i64 ar, .int .i64 fl, .bool dd] 69 (0, 0)) ∧ W.heap[w.heap.size + 1]? = some (.cells (bcells b).toArray 56 (0, 0))) [false, false, false, false, false, false, false, false, false, false, false] rfl (by kernel_rfl) ?_
  generalize w1.drew = wd at *
  refine wpG_takeT (i := 1) (v := .pointer (some ⟨w.heap.size, 1, none⟩)) rfl (fun L hc h => hc.waits (n := 10) (i := 1) (by kernel_rfl) h) (by kernel_rfl) (fun _ _ _ h => h) hA (.inl ⟨rfl, fun w5 q1 => ?_⟩) ?_
  · go_simp
  simp only [Act.put, List.setIfInBounds_toArray, List.set]
  refine wpG_takeT (i := 2) (v := .slice Ra R.length Rc) rfl (fun L hc h => hc.waits (n := 10) (i := 2) (by kernel_rfl) h) (by kernel_rfl) (fun _ _ _ h => h) hA (.inl ⟨rfl, fun w5 q1 => ?_⟩) ?_
  · have q2 : w5.cell? ⟨w.heap.size, 1, none⟩ = some (.slice Ra R.length Rc) := by rw [cell_of_heap q1.1]; rfl
    go_simp
  simp only [Act.put, List.setIfInBounds_toArray, List.set]
  refine wpG_takeT (i := 4) (v := .int .i64 (i : Int)) rfl (fun L hc h => hc.waits (n := 10) (i := 4) (by kernel_rfl) h) (by kernel_rfl) (fun _ _ _ h => h) hA (.inl ⟨rfl, fun w5 q1 => ?_⟩) ?_
  · go_simp
  simp only [Act.put, List.setIfInBounds_toArray, List.set]
  refine wpG_takeT (i := 5) (v := .agg (bcells b).toArray) rfl (fun L hc h => hc.waits (n := 10) (i := 5) (by kernel_rfl) h) (by kernel_rfl) (fun _ _ _ h => h) hA (.inl ⟨rfl, fun w5 q1 => ?_⟩) ?_
  · exact run_load_mid' rfl rfl (bcells b) (rangeAt_block q1.2) Try.underlying56 rfl HI5.out
  simp only [Act.put, List.setIfInBounds_toArray, List.set]
  refine wpG_takeT (i := 6) (v := .agg (Value.int .i64 (i : Int) :: bcells b).toArray) rfl (fun L hc h => hc.waits (n := 10) (i := 6) (by kernel_rfl) h) (by kernel_rfl) (fun _ _ _ h => h) hA (.inl ⟨rfl, fun w5 q1 => ?_⟩) ?_
  · exact run_exec_build (run_build150 (i : Int) (bcells b) w5 HBL.out) rfl (by simp [Act.eval])
  simp only [Act.put, List.setIfInBounds_toArray, List.set]
  have hBw : w.heap.size + 2 < wd.heap.size := lt_of_heap HRS.out
  have hsl : (Value.int .i64 (i : Int) :: bcells b).length = 65 := by simp [HBL.out]
  refine wpG_do2 (i := 0) (j := 7) rfl rfl (by kernel_rfl) rfl rfl (fun K hK => ?_) (fun K hK => ?_)
  · have HK := Lib.hid hK
    clear hK
    go_step
    have u1 : Upd (fun _ => False) wd (wd.alloc (.cells #[] 150)) := (Upd.refl _ _).alloc _
    have hA1 := And.intro ((u1.block _ (lt_of_heap hA.1) (fun e => e)).trans hA.1) ((u1.block _ (lt_of_heap hA.2) (fun e => e)).trans hA.2)
    have o0 : (wd.alloc (.cells #[] 150)).ownsRow wd.heap.size 150 65 (.slice (some ⟨wd.heap.size, 0, none⟩) 0 0) 0 [] := ⟨by simp, .inr ⟨wd.heap.size, 0, #[], rfl, Nat.le_refl _, alloc_at rfl, Nat.le_refl _, Nat.zero_le _, rfl, rfl⟩⟩
    refine HK.out _ _ hA1 ?_
    clear HK
    simp only [List.setIfInBounds_toArray, List.set]
    refine wpG_do2 (i := 3) (j := 7) rfl rfl (by kernel_rfl) rfl rfl (fun K hK => ?_) (fun K hK => ?_)
    · have HK := Lib.hid hK
      clear hK
      refine append_row rfl rfl rfl o0 (HR.out.kept (HU.out.trans u1)) HL.out hRl (by simp) ?_
      intro v2 w2 h1 h2
      have u2 : Upd (fun _ => False) wd w2 := (u1.step (Upd.of_grown (F := fun k => k = wd.heap.size) h2 (fun k hk => (Option.some.inj hk).symm)) (fun k hk e => by omega))
      have hA2 := And.intro ((u2.block _ (lt_of_heap hA.1) (fun e => e)).trans hA.1) ((u2.block _ (lt_of_heap hA.2) (fun e => e)).trans hA.2)
      refine HK.out _ _ hA2 ?_
      clear HK
      simp only [Act.put, List.setIfInBounds_toArray, List.set]
      refine wpG_do (i := 7) rfl (by kernel_rfl) rfl (fun K hK => ?_)
      have HK := Lib.hid hK
      clear hK
      refine oper_val (run_exec_buildSlice (run_buildSlice67 (Value.int .i64 (i : Int) :: bcells b) w2 hsl) rfl (by simp [Act.eval])) ?_
      have u3 : Upd (fun _ => False) wd (w2.alloc (.cells (Value.int .i64 (i : Int) :: bcells b).toArray 150)) := u2.alloc _
      have hA3 := And.intro ((u3.block _ (lt_of_heap hA.1) (fun e => e)).trans hA.1) ((u3.block _ (lt_of_heap hA.2) (fun e => e)).trans hA.2)
      refine HK.out _ _ hA3 ?_
      clear HK
      simp only [Act.put, List.setIfInBounds_toArray, List.set]
      have rs3 := (u3.block _ (lt_of_heap HRS.out) (fun e => e)).trans HRS.out
      refine wpG_do (i := 8) rfl (by kernel_rfl) rfl (fun K hK => ?_)
      have HK := Lib.hid hK
      clear hK
      obtain ⟨i0, hi0, hz0, hz1, hz2⟩ := info_parts Try.info150p
      refine wp_append_own (w2.alloc (.cells (Value.int .i64 (i : Int) :: bcells b).toArray 150)) (.tmp 10) (.tmp 14) 67 rfl wd.heap.size 150 i0 (.agg Z150) 65 72 Try.underlying67 hi0 hz0 hz1 hz2 Z150_size (by omega) _ R.length _ rfl (h1.alloc (.cells (Value.int .i64 (i : Int) :: bcells b).toArray 150)) ⟨w2.heap.size, 0, none⟩ 1 1 (Value.int .i64 (i : Int) :: bcells b) rfl (by rw [hsl]) (by
        intro j u hj
        rw [Addr.add_mid, Nat.zero_add, cell_of_heap (alloc_at (w := w2) rfl)]
        simpa using hj) (sentC_one (i, b, nth)) (by unfold maxLen; omega) (by omega) u3.size ?_
      intro v4 w4 h3 h4 _
      have u4 : Upd (fun _ => False) wd w4 := u3.step (Upd.of_grown (F := fun k => wd.heap.size ≤ k) h4 (fun k hk => (World.ownsRow.lt (h1.alloc (.cells (Value.int .i64 (i : Int) :: bcells b).toArray 150)) k hk).1)) (fun k hk e => by omega)
      have hA4 := And.intro ((u4.block _ (lt_of_heap hA.1) (fun e => e)).trans hA.1) ((u4.block _ (lt_of_heap hA.2) (fun e => e)).trans hA.2)
      have rs4 := (u4.block _ (lt_of_heap HRS.out) (fun e => e)).trans HRS.out
      obtain ⟨g4, c4, hv4⟩ : ∃ g4 c4, v4 = .slice (some ⟨g4, 0, none⟩) (R.length + 1) c4 := by
        rcases h3.2 with ⟨_, e0⟩ | ⟨g4, c4, _, e4, _⟩
        · omega
        · exact ⟨g4, c4, e4⟩
      subst hv4
      refine HK.out _ _ hA4 ?_
      clear HK
      simp only [Act.put, List.setIfInBounds_toArray, List.set]
      refine wpG_takeT (i := 9) (v := .pointer (some ⟨w.heap.size, 1, none⟩)) rfl (fun L hc h => hc.waits (n := 10) (i := 9) (by kernel_rfl) h) (by kernel_rfl) (fun _ _ _ h => h) hA4 (.inl ⟨rfl, fun w5 q1 => ?_⟩) ?_
      · go_simp
      simp only [Act.put, List.setIfInBounds_toArray, List.set]
      refine wpG_tail_lit (k := 10) rfl rfl (by kernel_rfl) ?_
      simp only [List.drop]
      have z := cells6_of hA4.1
      have fz : ∀ k, w4.frozen? ⟨w.heap.size, k, none⟩ = false := fun k => frozen_of_heap hA4.1
      have y := cells6_of rs4
      have fy : ∀ k, w4.frozen? ⟨w.heap.size + 1 + 1, k, none⟩ = false := fun k => frozen_of_heap rs4
      have H3 := Lib.hid h3; have U4 := Lib.hid u4; have A4 := Lib.hid hA4; have RS4 := Lib.hid rs4
      clear h3 h4 u4 hA4 rs4 hA1 hA2 hA3 u1 u2 u3 o0 h1 h2 rs3 hi0 hz0 hz1 hz2 hA HR HL
      obtain ⟨z0, z1, z2, z3, z4, z5⟩ := z
      obtain ⟨y0, y1, y2, y3, y4, y5⟩ := y
      go_wp2
      exact send_fin H3.out RS4.out (HU.out.trans U4.out) hBw rfl
    · skip
      have HK := Lib.hid hK
      clear hK
      refine oper_val (run_exec_buildSlice (run_buildSlice67 (Value.int .i64 (i : Int) :: bcells b) (wd.alloc (.cells #[] 150)) hsl) rfl (by simp [Act.eval])) ?_
      have u2 : Upd (fun _ => False) wd ((wd.alloc (.cells #[] 150)).alloc (.cells (Value.int .i64 (i : Int) :: bcells b).toArray 150)) := u1.alloc _
      have hA2 := And.intro ((u2.block _ (lt_of_heap hA.1) (fun e => e)).trans hA.1) ((u2.block _ (lt_of_heap hA.2) (fun e => e)).trans hA.2)
      have hg2 : ((wd.alloc (.cells #[] 150)).alloc (.cells (Value.int .i64 (i : Int) :: bcells b).toArray 150)).heap[(wd.alloc (.cells #[] 150)).heap.size]? = some (.cells (Value.int .i64 (i : Int) :: bcells b).toArray 150 (0, 0)) := alloc_at rfl
      refine HK.out _ _ hA2 ?_
      clear HK
      simp only [Act.put, List.setIfInBounds_toArray, List.set]
      refine wpG_do (i := 3) rfl (by kernel_rfl) rfl (fun K hK => ?_)
      have HK := Lib.hid hK
      clear hK
      refine append_row rfl rfl rfl (o0.alloc _) (HR.out.kept (HU.out.trans u2)) HL.out hRl (by simp; omega) ?_
      intro v3 w3 h1 h2
      have u3 : Upd (fun _ => False) wd w3 := u2.step (Upd.of_grown (F := fun k => k = wd.heap.size) h2 (fun k hk => (Option.some.inj hk).symm)) (fun k hk e => by omega)
      have hA3 := And.intro ((u3.block _ (lt_of_heap hA.1) (fun e => e)).trans hA.1) ((u3.block _ (lt_of_heap hA.2) (fun e => e)).trans hA.2)
      have hg3 := (h2.block _ (lt_of_heap hg2) (fun e => by have := Option.some.inj e; simp at this)).trans hg2
      refine HK.out _ _ hA3 ?_
      clear HK
      simp only [Act.put, List.setIfInBounds_toArray, List.set]
      have rs3 := (u3.block _ (lt_of_heap HRS.out) (fun e => e)).trans HRS.out
      refine wpG_do (i := 8) rfl (by kernel_rfl) rfl (fun K hK => ?_)
      have HK := Lib.hid hK
      clear hK
      obtain ⟨i0, hi0, hz0, hz1, hz2⟩ := info_parts Try.info150p
      refine wp_append_own w3 (.tmp 10) (.tmp 14) 67 rfl wd.heap.size 150 i0 (.agg Z150) 65 72 Try.underlying67 hi0 hz0 hz1 hz2 Z150_size (by omega) _ R.length _ rfl h1 ⟨(wd.alloc (.cells #[] 150)).heap.size, 0, none⟩ 1 1 (Value.int .i64 (i : Int) :: bcells b) rfl (by rw [hsl]) (by
        intro j u hj
        rw [Addr.add_mid, Nat.zero_add, cell_of_heap hg3]
        simpa using hj) (sentC_one (i, b, nth)) (by unfold maxLen; omega) (by omega) u3.size ?_
      intro v4 w4 h3 h4 _
      have u4 : Upd (fun _ => False) wd w4 := u3.step (Upd.of_grown (F := fun k => wd.heap.size ≤ k) h4 (fun k hk => (World.ownsRow.lt h1 k hk).1)) (fun k hk e => by omega)
      have hA4 := And.intro ((u4.block _ (lt_of_heap hA.1) (fun e => e)).trans hA.1) ((u4.block _ (lt_of_heap hA.2) (fun e => e)).trans hA.2)
      have rs4 := (u4.block _ (lt_of_heap HRS.out) (fun e => e)).trans HRS.out
      obtain ⟨g4, c4, hv4⟩ : ∃ g4 c4, v4 = .slice (some ⟨g4, 0, none⟩) (R.length + 1) c4 := by
        rcases h3.2 with ⟨_, e0⟩ | ⟨g4, c4, _, e4, _⟩
        · omega
        · exact ⟨g4, c4, e4⟩
      subst hv4
      refine HK.out _ _ hA4 ?_
      clear HK
      simp only [Act.put, List.setIfInBounds_toArray, List.set]
      refine wpG_takeT (i := 9) (v := .pointer (some ⟨w.heap.size, 1, none⟩)) rfl (fun L hc h => hc.waits (n := 10) (i := 9) (by kernel_rfl) h) (by kernel_rfl) (fun _ _ _ h => h) hA4 (.inl ⟨rfl, fun w5 q1 => ?_⟩) ?_
      · go_simp
      simp only [Act.put, List.setIfInBounds_toArray, List.set]
      refine wpG_tail_lit (k := 10) rfl rfl (by kernel_rfl) ?_
      simp only [List.drop]
      have z := cells6_of hA4.1
      have fz : ∀ k, w4.frozen? ⟨w.heap.size, k, none⟩ = false := fun k => frozen_of_heap hA4.1
      have y := cells6_of rs4
      have fy : ∀ k, w4.frozen? ⟨w.heap.size + 1 + 1, k, none⟩ = false := fun k => frozen_of_heap rs4
      have H3 := Lib.hid h3; have U4 := Lib.hid u4; have A4 := Lib.hid hA4; have RS4 := Lib.hid rs4
      clear h3 h4 u4 hA4 rs4 hA1 hA2 hA3 u1 u2 u3 o0 h1 h2 rs3 hi0 hz0 hz1 hz2 hA HR HL
      obtain ⟨z0, z1, z2, z3, z4, z5⟩ := z
      obtain ⟨y0, y1, y2, y3, y4, y5⟩ := y
      go_wp2
      exact send_fin H3.out RS4.out (HU.out.trans U4.out) hBw rfl
  · skip
    have HK := Lib.hid hK
    clear hK
    refine oper_val (run_exec_buildSlice (run_buildSlice67 (Value.int .i64 (i : Int) :: bcells b) wd hsl) rfl (by simp [Act.eval])) ?_
    have u1 : Upd (fun _ => False) wd (wd.alloc (.cells (Value.int .i64 (i : Int) :: bcells b).toArray 150)) := (Upd.refl _ _).alloc _
    have hA1 := And.intro ((u1.block _ (lt_of_heap hA.1) (fun e => e)).trans hA.1) ((u1.block _ (lt_of_heap hA.2) (fun e => e)).trans hA.2)
    have hg1 : (wd.alloc (.cells (Value.int .i64 (i : Int) :: bcells b).toArray 150)).heap[wd.heap.size]? = some (.cells (Value.int .i64 (i : Int) :: bcells b).toArray 150 (0, 0)) := alloc_at rfl
    refine HK.out _ _ hA1 ?_
    clear HK
    simp only [Act.put, List.setIfInBounds_toArray, List.set]
    refine wpG_do (i := 0) rfl (by kernel_rfl) rfl (fun K hK => ?_)
    have HK := Lib.hid hK
    clear hK
    go_step
    have u2 : Upd (fun _ => False) wd ((wd.alloc (.cells (Value.int .i64 (i : Int) :: bcells b).toArray 150)).alloc (.cells #[] 150)) := u1.alloc _
    have hA2 := And.intro ((u2.block _ (lt_of_heap hA.1) (fun e => e)).trans hA.1) ((u2.block _ (lt_of_heap hA.2) (fun e => e)).trans hA.2)
    have hg2 := (alloc_lt (o := .cells #[] 150) (lt_of_heap hg1)).trans hg1
    have o0 : ((wd.alloc (.cells (Value.int .i64 (i : Int) :: bcells b).toArray 150)).alloc (.cells #[] 150)).ownsRow wd.heap.size 150 65 (.slice (some ⟨wd.heap.size + 1, 0, none⟩) 0 0) 0 [] := ⟨by simp, .inr ⟨wd.heap.size + 1, 0, #[], rfl, by omega, alloc_at (by simp), Nat.le_refl _, Nat.zero_le _, rfl, rfl⟩⟩
    refine HK.out _ _ hA2 ?_
    clear HK
    simp only [List.setIfInBounds_toArray, List.set]
    refine wpG_do (i := 3) rfl (by kernel_rfl) rfl (fun K hK => ?_)
    have HK := Lib.hid hK
    clear hK
    refine append_row rfl rfl rfl o0 (HR.out.kept (HU.out.trans u2)) HL.out hRl (by simp; omega) ?_
    intro v3 w3 h1 h2
    have u3 : Upd (fun _ => False) wd w3 := u2.step (Upd.of_grown (F := fun k => k = wd.heap.size + 1) h2 (fun k hk => (Option.some.inj hk).symm)) (fun k hk e => by omega)
    have hA3 := And.intro ((u3.block _ (lt_of_heap hA.1) (fun e => e)).trans hA.1) ((u3.block _ (lt_of_heap hA.2) (fun e => e)).trans hA.2)
    have hg3 := (h2.block _ (lt_of_heap hg2) (fun e => by have := Option.some.inj e; omega)).trans hg2
    refine HK.out _ _ hA3 ?_
    clear HK
    simp only [Act.put, List.setIfInBounds_toArray, List.set]
    have rs3 := (u3.block _ (lt_of_heap HRS.out) (fun e => e)).trans HRS.out
    refine wpG_do (i := 8) rfl (by kernel_rfl) rfl (fun K hK => ?_)
    have HK := Lib.hid hK
    clear hK
    obtain ⟨i0, hi0, hz0, hz1, hz2⟩ := info_parts Try.info150p
    refine wp_append_own w3 (.tmp 10) (.tmp 14) 67 rfl wd.heap.size 150 i0 (.agg Z150) 65 72 Try.underlying67 hi0 hz0 hz1 hz2 Z150_size (by omega) _ R.length _ rfl h1 ⟨wd.heap.size, 0, none⟩ 1 1 (Value.int .i64 (i : Int) :: bcells b) rfl (by rw [hsl]) (by
      intro j u hj
      rw [Addr.add_mid, Nat.zero_add, cell_of_heap hg3]
      simpa using hj) (sentC_one (i, b, nth)) (by unfold maxLen; omega) (by omega) u3.size ?_
    intro v4 w4 h3 h4 _
    have u4 : Upd (fun _ => False) wd w4 := u3.step (Upd.of_grown (F := fun k => wd.heap.size ≤ k) h4 (fun k hk => (World.ownsRow.lt h1 k hk).1)) (fun k hk e => by omega)
    have hA4 := And.intro ((u4.block _ (lt_of_heap hA.1) (fun e => e)).trans hA.1) ((u4.block _ (lt_of_heap hA.2) (fun e => e)).trans hA.2)
    have rs4 := (u4.block _ (lt_of_heap HRS.out) (fun e => e)).trans HRS.out
    obtain ⟨g4, c4, hv4⟩ : ∃ g4 c4, v4 = .slice (some ⟨g4, 0, none⟩) (R.length + 1) c4 := by
      rcases h3.2 with ⟨_, e0⟩ | ⟨g4, c4, _, e4, _⟩
      · omega
      · exact ⟨g4, c4, e4⟩
    subst hv4
    refine HK.out _ _ hA4 ?_
    clear HK
    simp only [Act.put, List.setIfInBounds_toArray, List.set]
    refine wpG_takeT (i := 9) (v := .pointer (some ⟨w.heap.size, 1, none⟩)) rfl (fun L hc h => hc.waits (n := 10) (i := 9) (by kernel_rfl) h) (by kernel_rfl) (fun _ _ _ h => h) hA4 (.inl ⟨rfl, fun w5 q1 => ?_⟩) ?_
    · go_simp
    simp only [Act.put, List.setIfInBounds_toArray, List.set]
    refine wpG_tail_lit (k := 10) rfl rfl (by kernel_rfl) ?_
    simp only [List.drop]
    have z := cells6_of hA4.1
    have fz : ∀ k, w4.frozen? ⟨w.heap.size, k, none⟩ = false := fun k => frozen_of_heap hA4.1
    have y := cells6_of rs4
    have fy : ∀ k, w4.frozen? ⟨w.heap.size + 1 + 1, k, none⟩ = false := fun k => frozen_of_heap rs4
    have H3 := Lib.hid h3; have U4 := Lib.hid u4; have A4 := Lib.hid hA4; have RS4 := Lib.hid rs4
    clear h3 h4 u4 hA4 rs4 hA1 hA2 hA3 u1 u2 u3 o0 h1 h2 rs3 hi0 hz0 hz1 hz2 hA HR HL
    obtain ⟨z0, z1, z2, z3, z4, z5⟩ := z
    obtain ⟨y0, y1, y2, y3, y4, y5⟩ := y
    go_wp2
    exact send_fin H3.out RS4.out (HU.out.trans U4.out) hBw rfl

end Go.Proofs.Ytbimkhdiplnbfaa
