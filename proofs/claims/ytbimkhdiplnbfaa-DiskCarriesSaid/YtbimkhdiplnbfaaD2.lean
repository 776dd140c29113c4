/- Walks of the disk: Copy, the walk. -/
import Derived.Test.YtbimkhdiplnbfaaD1
namespace Go.Proofs.Ytbimkhdiplnbfaa
open Go.RowKit Go.Deep

theorem CopyAt.start (w : World) (D : Dk) : CopyAt w
    (((w.alloc (mainObj (w.heap.size + 1) D.arr.length D.sent D.ops D.arm D.fail D.dead)).alloc (.cells (madeCells #[.slice none 0 0] D.arr.length) 131))) D 0 (fun _ => 0) (fun _ => 0) := by
  refine ⟨((Upd.refl _ w).alloc _).alloc _, by simp, (alloc_lt (by simp)).trans (alloc_at rfl), ?_, fun i hi => by omega, fun i hi => by omega, fun i j hi => by omega⟩
  rw [alloc_at (by simp)]
  congr 2
  apply Array.toList_inj.1
  rw [toList_madeCells_one]
  simp [List.map_const']

set_option maxRecDepth 8000 in
set_option maxHeartbeats 4000000 in
theorem copy_run {p : Nat} {D : Dk} {F : Nat → Prop} (w : World) (h : Dsk w p D F) (hok : D.Ok 1099511627774) :
    Calls Try.prog 47 #[.pointer (some ⟨p, 0, none⟩)] w fun e w' => e = .returned (.pointer (some ⟨w.heap.size, 0, none⟩)) ∧ ∃ g c, CopyAt w w' D D.arr.length g c := by
  obtain ⟨s, g0, c0, hD, hF⟩ := h
  have hm := hD.main
  obtain ⟨m0, m1, m2, m3, m4, m5⟩ := cells6_of hm
  have lp := lt_of_heap hm
  have hn := hok.len
  have hmk := run_make_row' (P := Try.prog) 126 131 (.slice none 0 0) 24 Try.underlying126 Try.info131 rfl .i64 .i64 D.arr.length (by omega) (by omega)
  have HD := Lib.hid hD; have HO := Lib.hid hok; have HN := Lib.hid hn
  clear hD hok hn hF hm
  go_enter Try.func47, Try.ntmps47
  go_upto_region 5 with fail
  clear hmk
  go_wp2
  clear m0 m1 m2 m3 m4 m5 lp
  go_loopg [23] D.arr.length (fun gk i wr => ∃ k : Nat, k ≤ D.arr.length ∧ gk = D.arr.length - k ∧ i = .int .i64 k ∧ ∃ g c, CopyAt w wr D k g c)
  case atStart => exact ⟨0, Nat.zero_le _, rfl, rfl, _, _, CopyAt.start w D⟩
  case round =>
    obtain ⟨k, hk, rfl, rfl, g, c, hC⟩ := hrel
    have hDr := HD.out.kept (G := fun _ => False) hC.upd (fun _ _ e => e)
    have hcs : k < D.arr.length → wr.cell? ⟨s, k, none⟩ = some (.slice (some ⟨g0 k, 0, none⟩) (D.vers k).length (c0 k)) := fun h => by
      rw [cell_of_heap hDr.sec]; simp [h]
    have HC := Lib.hid hC; have HDR := Lib.hid hDr
    clear hC hDr
    go_upto_region 8 with fail
    · have hlt : k < D.arr.length := by assumption
      have hl1 := vers_length_le D k
      have hl2 := HO.out.rowlen
      have hcl := clone_run wr.drew (HDR.out.rows k hlt) (List.length_pos_iff.2 (vers_ne D k)) (by omega) (by
        intro u hu
        obtain ⟨v, _, hv⟩ := List.mem_flatMap.1 hu
        exact vcells_one v u hv)
      have HCL := Lib.hid hcl
      clear hcl hcs hl1 hl2
      have hA : wr.drew.cell? ⟨w.heap.size, 0, none⟩ = some (.slice (some ⟨w.heap.size + 1, 0, none⟩) D.arr.length D.arr.length) := (cells6_of HC.out.main).1
      refine wp_region_G 5 (fun W' => W'.cell? ⟨w.heap.size, 0, none⟩ = some (.slice (some ⟨w.heap.size + 1, 0, none⟩) D.arr.length D.arr.length)) [false, false, false, false, false, false, false] rfl (by kernel_rfl) ?_
      refine wpG_take (i := 0) (v := .pointer (some ⟨w.heap.size, 0, none⟩)) rfl (by kernel_rfl) (fun _ _ _ h => h) hA (.inl ⟨rfl, fun w5 q1 => ?_⟩) ?_
      · go_simp
      simp only [Act.put, List.setIfInBounds_toArray, List.set]
      refine wpG_take (i := 1) (v := .slice (some ⟨w.heap.size + 1, 0, none⟩) D.arr.length D.arr.length) rfl (by kernel_rfl) (fun _ _ _ h => h) hA (.inl ⟨rfl, fun w5 q1 => ?_⟩) ?_
      · go_simp
      simp only [Act.put, List.setIfInBounds_toArray, List.set]
      refine wpG_take (i := 2) (v := .int .i64 (k : Int)) rfl (by kernel_rfl) (fun _ _ _ h => h) hA (.inl ⟨rfl, fun w5 q1 => ?_⟩) ?_
      · go_simp
      simp only [Act.put, List.setIfInBounds_toArray, List.set]
      refine wpG_take (i := 3) (v := .slice (some ⟨g0 k, 0, none⟩) (D.vers k).length (c0 k)) rfl (by kernel_rfl) (fun _ _ _ h => h) hA (.inl ⟨rfl, fun w5 q1 => ?_⟩) ?_
      · go_simp
      simp only [Act.put, List.setIfInBounds_toArray, List.set]
      refine wpG_do (i := 4) rfl (by kernel_rfl) rfl (fun K hK => ?_)
      have HK := Lib.hid hK
      clear hK
      go_step
      refine HCL.out.mono ?_
      rintro e w' ⟨g', cap', rfl, h1, h2, h3⟩
      have hu : Upd (fun _ => False) wr w' := h3.undrew
      have hA2 : w'.cell? ⟨w.heap.size, 0, none⟩ = some (.slice (some ⟨w.heap.size + 1, 0, none⟩) D.arr.length D.arr.length) := (cells6_of ((hu.block _ (lt_of_heap HC.out.main) (fun e => e)).trans HC.out.main)).1
      have hs2 := (hu.block _ (lt_of_heap HC.out.sec) (fun e => e)).trans HC.out.sec
      have cs2 : w'.cell? ⟨w.heap.size + 1, k, none⟩ = some (.slice none 0 0) := by rw [cell_of_heap hs2]; simp [hlt]
      have fs2 : w'.frozen? ⟨w.heap.size + 1, k, none⟩ = false := frozen_of_heap hs2
      have HNX := Lib.hid (HC.out.step hlt hu h1 h2)
      simp only []
      refine HK.out _ _ hA2 ?_
      clear HK h2 h3 hu hs2 hA2 hA HCL
      simp only [List.setIfInBounds_toArray, List.set]
      refine wpG_tail_lit (k := 5) rfl rfl (by kernel_rfl) ?_
      simp only [List.drop]
      go_wp2
      go_roundg (D.arr.length - (k + 1))
      case measure => omega
      case rel =>
        have := HN.out.2
        exact ⟨k + 1, by omega, rfl, congrArg _ ((IntWalk.wrap64_in _ (by omega)).trans (by omega)), _, _, HNX.out⟩
    · have hkn : k = D.arr.length := by omega
      subst hkn
      go_ret
      exact ⟨rfl, g, c, HC.out⟩

set_option maxHeartbeats 400000 in
theorem copy_nil (w : World) : Calls Try.prog 47 #[.pointer none] w fun e w' => e = .returned (.pointer none) ∧ w = w' := by
  go_enter Try.func47, Try.ntmps47
  go_wp2
  go_ret
  exact ⟨rfl, rfl⟩

end Go.Proofs.Ytbimkhdiplnbfaa
