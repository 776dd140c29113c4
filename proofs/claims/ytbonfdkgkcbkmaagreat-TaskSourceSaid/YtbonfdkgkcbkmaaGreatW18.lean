/- Walks: a source's next record (turn.read). -/
import Derived.Test.YtbonfdkgkcbkmaaGreatW4
import Derived.Test.YtbonfdkgkcbkmaaGreatW11
import Derived.Test.YtbonfdkgkcbkmaaGreatW17
set_option linter.unusedVariables false
set_option linter.unusedSimpArgs false

section
namespace Go.Proofs.YtbonfdkgkcbkmaaGreat
set_option maxRecDepth 100000
open Go.RowKit Go.Shelf

attribute [local go_sem] Oper.semAt_some
theorem sizeOff8 : (Tryz.prog.info? 43).map (·.size) = some 8 := by kernel_rfl
/-- A turn with other offsets. -/
def TnV.offd (T : TnV) (o : List Int) : TnV := { T with t := { T.t with offs := o } }
/-- The element that ends. -/
def endEl : ElV := ⟨3, ⟨0, 0, 0⟩, 0⟩
/-- What read answers. -/
def ReadA (T : TnV) (w0 : World) (p : Nat) (e : Ending) (w' : World) : Prop :=
  ((NextR T.t.inp T.t.offs T.s.2 T.o.width).2.2.1 = false → e = .returned (.int .i64 (emitR T.out endEl T.rooms T.ems T.out).2.2) ∧ ∃ eA eC, TnAt w' w0.heap.size p (T.ended.emit (emitR T.out endEl T.rooms T.ems T.out).1 (emitR T.out endEl T.rooms T.ems T.out).2.1 eA eC)) ∧
  ((NextR T.t.inp T.t.offs T.s.2 T.o.width).2.2.1 = true → e = .returned (.int .i64 (recordR (T.offd (ReadR T.t.inp T.t.offs T.s.2 T.o.width).1) (NextR T.t.inp T.t.offs T.s.2 T.o.width).1).2.2) ∧
    ∃ eA eC, TnAt w' w0.heap.size p ((T.offd (ReadR T.t.inp T.t.offs T.s.2 T.o.width).1).emit (recordR (T.offd (ReadR T.t.inp T.t.offs T.s.2 T.o.width).1) (NextR T.t.inp T.t.offs T.s.2 T.o.width).1).1 (recordR (T.offd (ReadR T.t.inp T.t.offs T.s.2 T.o.width).1) (NextR T.t.inp T.t.offs T.s.2 T.o.width).1).2.1 eA eC))
set_option maxHeartbeats 32000000 in
theorem read_any {w0 : World} {p : Nat} {T : TnV} (w : World) (h : TnAt w w0.heap.size p T) (hp : w0.heap.size ≤ p) (h0 : TkIn w0 T.t) (hu : Upd0 w0 w) (hok : TnOk T) (ht : T.o.tag ≠ 7) :
    Calls Tryz.prog 90 #[.pointer (some ⟨p, 0, none⟩)] w fun e w' => ReadA T w0 p e w' ∧ Upd0 w0 w' := by
  have HNXA := Lib.hid (fun (W : World) (hW : Upd0 w0 W) => knext_any T.t.inp T.t.offs T.s.2 T.o.width W (h0.recs.kept hW) h0.rl h0.o8)
  have HRDA := Lib.hid (fun (W : World) (hW : Upd0 w0 W) => kread_any T.t.inp T.t.offs T.s.2 T.o.width W (h0.recs.kept hW) h0.rl h0.o8)
  have HRL := Lib.hid (ReadR_len (x := T.t.inp) h0.o8 T.s.2 T.o.width)
  obtain ⟨o0, o1, o2, o3, o4, o5, o6, o7, hmap⟩ := eight h.o8
  rw [hmap] at HNXA HRDA
  have HMAP := Lib.hid hmap
  have H1 := Lib.hid h; have HU1 := Lib.hid hu; have HP := Lib.hid hp; have HOK := Lib.hid hok; have HTK := Lib.hid h0; have HTG := Lib.hid ht
  have HRA := Lib.hid (fun (e : Ending) (w' : World) => show ReadA T w0 p e w' = (((NextR T.t.inp T.t.offs T.s.2 T.o.width).2.2.1 = false → e = .returned (.int .i64 (emitR T.out endEl T.rooms T.ems T.out).2.2) ∧ ∃ eA eC, TnAt w' w0.heap.size p (T.ended.emit (emitR T.out endEl T.rooms T.ems T.out).1 (emitR T.out endEl T.rooms T.ems T.out).2.1 eA eC)) ∧
  ((NextR T.t.inp T.t.offs T.s.2 T.o.width).2.2.1 = true → e = .returned (.int .i64 (recordR (T.offd (ReadR T.t.inp T.t.offs T.s.2 T.o.width).1) (NextR T.t.inp T.t.offs T.s.2 T.o.width).1).2.2) ∧
    ∃ eA eC, TnAt w' w0.heap.size p ((T.offd (ReadR T.t.inp T.t.offs T.s.2 T.o.width).1).emit (recordR (T.offd (ReadR T.t.inp T.t.offs T.s.2 T.o.width).1) (NextR T.t.inp T.t.offs T.s.2 T.o.width).1).1 (recordR (T.offd (ReadR T.t.inp T.t.offs T.s.2 T.o.width).1) (NextR T.t.inp T.t.offs T.s.2 T.o.width).1).2.1 eA eC))) from rfl)
  obtain ⟨nx, hnx⟩ : ∃ nx, nx = NextR T.t.inp T.t.offs T.s.2 T.o.width := ⟨_, rfl⟩
  rw [← hnx] at HNXA HRA
  obtain ⟨rd, hrd⟩ : ∃ rd, rd = ReadR T.t.inp T.t.offs T.s.2 T.o.width := ⟨_, rfl⟩
  rw [← hrd] at HRDA HRA HRL
  obtain ⟨⟨ns, nk, nv⟩, ng, nb, ne⟩ := nx
  simp only at HNXA HRA
  clear h hp h0 hu hok ht hnx hrd hmap
  go_enter Tryz.func90, Tryz.ntmps90
  go_upto_region 1 with fail
  go_cut [3, 4, 5, 6] from 7 to 33 (fun v3 v4 v5 v6 wx => ∃ bn : Nat, v3 = .pointer (some ⟨bn, 0, none⟩) ∧ wx.heap[bn]? = some (.cells #[.int .i64 ns, .int .i64 nk, .int .i64 nv] 36 (0, 0)) ∧ v5 = .bool nb ∧ Upd0 w wx)
  case first =>
    have hA : Upd0 w w.drew := (Upd.refl _ _).drew
    refine wp_region_G 30 (fun W => Upd0 w W) [false, false, false, false, false, false, false, false, false, false, false, false, false, false, false, false, false, false, false, false, false, false, false, false, false, false, false, false, false, false, false] rfl (by kernel_rfl) ?_
    generalize w.drew = we at hA ⊢
    refine wpG_takeT (i := 0) (v := .pointer (some ⟨p, 0, none⟩)) rfl (fun L hc h => (hc.waits (n := 30) (i := 0) (by kernel_rfl) h)) (by kernel_rfl) (fun _ _ _ h => h) hA (.inl ⟨rfl, fun w5 q1 => ?_⟩) ?_
    · go_simp
    simp only [Act.put, List.setIfInBounds_toArray, List.set]
    refine wpG_takeT (i := 1) (v := .pointer (some ⟨p, 0, none⟩)) rfl (fun L hc h => (hc.waits (n := 30) (i := 1) (by kernel_rfl) h)) (by kernel_rfl) (fun _ _ _ h => h) hA (.inl ⟨rfl, fun w5 q1 => ?_⟩) ?_
    · go_simp
    simp only [Act.put, List.setIfInBounds_toArray, List.set]
    refine wpG_takeT (i := 2) (v := .pointer (some ⟨p, 0, none⟩)) rfl (fun L hc h => (hc.waits (n := 30) (i := 2) (by kernel_rfl) h)) (by kernel_rfl) (fun _ _ _ h => h) hA (.inl ⟨rfl, fun w5 q1 => ?_⟩) ?_
    · go_simp
    simp only [Act.put, List.setIfInBounds_toArray, List.set]
    refine wpG_takeT (i := 3) (v := .pointer (some ⟨p, 3, none⟩)) rfl (fun L hc h => (hc.waits (n := 30) (i := 3) (by kernel_rfl) h)) (by kernel_rfl) (fun _ _ _ h => h) hA (.inl ⟨rfl, fun w5 q1 => ?_⟩) ?_
    · go_simp
    simp only [Act.put, List.setIfInBounds_toArray, List.set]
    refine wpG_takeT (i := 4) (v := .agg #[.int .i64 T.t.inp.src, .slice T.t.inp.ra T.t.inp.recs.length T.t.inp.rc]) rfl (fun L hc h => (hc.waits (n := 30) (i := 4) (by kernel_rfl) h)) (by kernel_rfl) (fun _ _ _ h => h) hA (.inl ⟨rfl, fun w5 q1 => ?_⟩) ?_
    · obtain ⟨-, -, -, x3, x4, -, -, -, -, -, -, -, -, -, -, -, -, -, -, -, -, -, -, -, -, -, -, -, -, -, -, -, -, -, -⟩ := TnV.at HMAP.out ((q1.block p (lt_of_heap H1.out.blk) (fun e => e)).trans H1.out.blk)
      go_simp
    simp only [Act.put, List.setIfInBounds_toArray, List.set]
    refine wpG_takeT (i := 5) (v := .pointer (some ⟨p, 0, none⟩)) rfl (fun L hc h => (hc.waits (n := 30) (i := 5) (by kernel_rfl) h)) (by kernel_rfl) (fun _ _ _ h => h) hA (.inl ⟨rfl, fun w5 q1 => ?_⟩) ?_
    · go_simp
    simp only [Act.put, List.setIfInBounds_toArray, List.set]
    refine wpG_takeT (i := 6) (v := .pointer (some ⟨p, 0, none⟩)) rfl (fun L hc h => (hc.waits (n := 30) (i := 6) (by kernel_rfl) h)) (by kernel_rfl) (fun _ _ _ h => h) hA (.inl ⟨rfl, fun w5 q1 => ?_⟩) ?_
    · go_simp
    simp only [Act.put, List.setIfInBounds_toArray, List.set]
    refine wpG_takeT (i := 7) (v := .pointer (some ⟨p, 0, none⟩)) rfl (fun L hc h => (hc.waits (n := 30) (i := 7) (by kernel_rfl) h)) (by kernel_rfl) (fun _ _ _ h => h) hA (.inl ⟨rfl, fun w5 q1 => ?_⟩) ?_
    · go_simp
    simp only [Act.put, List.setIfInBounds_toArray, List.set]
    refine wpG_takeT (i := 8) (v := .pointer (some ⟨p, 5, none⟩)) rfl (fun L hc h => (hc.waits (n := 30) (i := 8) (by kernel_rfl) h)) (by kernel_rfl) (fun _ _ _ h => h) hA (.inl ⟨rfl, fun w5 q1 => ?_⟩) ?_
    · go_simp
    simp only [Act.put, List.setIfInBounds_toArray, List.set]
    refine wpG_takeT (i := 9) (v := .agg #[.int .i64 o0, .int .i64 o1, .int .i64 o2, .int .i64 o3, .int .i64 o4, .int .i64 o5, .int .i64 o6, .int .i64 o7]) rfl (fun L hc h => (hc.waits (n := 30) (i := 9) (by kernel_rfl) h)) (by kernel_rfl) (fun _ _ _ h => h) hA (.inl ⟨rfl, fun w5 q1 => ?_⟩) ?_
    · obtain ⟨-, -, -, -, -, x5, x6, x7, x8, x9, x10, x11, x12, -, -, -, -, -, -, -, -, -, -, -, -, -, -, -, -, -, -, -, -, -, -⟩ := TnV.at HMAP.out ((q1.block p (lt_of_heap H1.out.blk) (fun e => e)).trans H1.out.blk)
      go_simp
    simp only [Act.put, List.setIfInBounds_toArray, List.set]
    refine wpG_takeT (i := 10) (v := .pointer (some ⟨p, 0, none⟩)) rfl (fun L hc h => (hc.waits (n := 30) (i := 10) (by kernel_rfl) h)) (by kernel_rfl) (fun _ _ _ h => h) hA (.inl ⟨rfl, fun w5 q1 => ?_⟩) ?_
    · go_simp
    simp only [Act.put, List.setIfInBounds_toArray, List.set]
    refine wpG_takeT (i := 11) (v := .pointer (some ⟨p, 0, none⟩)) rfl (fun L hc h => (hc.waits (n := 30) (i := 11) (by kernel_rfl) h)) (by kernel_rfl) (fun _ _ _ h => h) hA (.inl ⟨rfl, fun w5 q1 => ?_⟩) ?_
    · go_simp
    simp only [Act.put, List.setIfInBounds_toArray, List.set]
    refine wpG_takeT (i := 12) (v := .pointer (some ⟨p, 29, none⟩)) rfl (fun L hc h => (hc.waits (n := 30) (i := 12) (by kernel_rfl) h)) (by kernel_rfl) (fun _ _ _ h => h) hA (.inl ⟨rfl, fun w5 q1 => ?_⟩) ?_
    · go_simp
    simp only [Act.put, List.setIfInBounds_toArray, List.set]
    refine wpG_takeT (i := 13) (v := .pointer (some ⟨p, 30, none⟩)) rfl (fun L hc h => (hc.waits (n := 30) (i := 13) (by kernel_rfl) h)) (by kernel_rfl) (fun _ _ _ h => h) hA (.inl ⟨rfl, fun w5 q1 => ?_⟩) ?_
    · go_simp
    simp only [Act.put, List.setIfInBounds_toArray, List.set]
    refine wpG_takeT (i := 14) (v := .int .i64 T.s.2) rfl (fun L hc h => (hc.waits (n := 30) (i := 14) (by kernel_rfl) h)) (by kernel_rfl) (fun _ _ _ h => h) hA (.inl ⟨rfl, fun w5 q1 => ?_⟩) ?_
    · obtain ⟨-, -, -, -, -, -, -, -, -, -, -, -, -, -, -, -, -, -, -, -, -, -, -, -, -, -, -, -, -, -, x30, -, -, -, -⟩ := TnV.at HMAP.out ((q1.block p (lt_of_heap H1.out.blk) (fun e => e)).trans H1.out.blk)
      go_simp
    simp only [Act.put, List.setIfInBounds_toArray, List.set]
    refine wpG_takeT (i := 15) (v := .pointer (some ⟨p, 0, none⟩)) rfl (fun L hc h => (hc.waits (n := 30) (i := 15) (by kernel_rfl) h)) (by kernel_rfl) (fun _ _ _ h => h) hA (.inl ⟨rfl, fun w5 q1 => ?_⟩) ?_
    · go_simp
    simp only [Act.put, List.setIfInBounds_toArray, List.set]
    refine wpG_takeT (i := 16) (v := .pointer (some ⟨p, 0, none⟩)) rfl (fun L hc h => (hc.waits (n := 30) (i := 16) (by kernel_rfl) h)) (by kernel_rfl) (fun _ _ _ h => h) hA (.inl ⟨rfl, fun w5 q1 => ?_⟩) ?_
    · go_simp
    simp only [Act.put, List.setIfInBounds_toArray, List.set]
    refine wpG_takeT (i := 17) (v := .pointer (some ⟨p, 24, none⟩)) rfl (fun L hc h => (hc.waits (n := 30) (i := 17) (by kernel_rfl) h)) (by kernel_rfl) (fun _ _ _ h => h) hA (.inl ⟨rfl, fun w5 q1 => ?_⟩) ?_
    · go_simp
    simp only [Act.put, List.setIfInBounds_toArray, List.set]
    refine wpG_takeT (i := 18) (v := .pointer (some ⟨p, 25, none⟩)) rfl (fun L hc h => (hc.waits (n := 30) (i := 18) (by kernel_rfl) h)) (by kernel_rfl) (fun _ _ _ h => h) hA (.inl ⟨rfl, fun w5 q1 => ?_⟩) ?_
    · go_simp
    simp only [Act.put, List.setIfInBounds_toArray, List.set]
    refine wpG_takeT (i := 19) (v := .int .i64 T.o.width) rfl (fun L hc h => (hc.waits (n := 30) (i := 19) (by kernel_rfl) h)) (by kernel_rfl) (fun _ _ _ h => h) hA (.inl ⟨rfl, fun w5 q1 => ?_⟩) ?_
    · obtain ⟨-, -, -, -, -, -, -, -, -, -, -, -, -, -, -, -, -, -, -, -, -, -, -, -, -, x25, -, -, -, -, -, -, -, -, -⟩ := TnV.at HMAP.out ((q1.block p (lt_of_heap H1.out.blk) (fun e => e)).trans H1.out.blk)
      go_simp
    simp only [Act.put, List.setIfInBounds_toArray, List.set]
    refine wpG_do2 (i := 20) (j := 26) rfl rfl (by kernel_rfl) rfl rfl (fun K hK => ?_) (fun K hK => ?_)
    · have HKK := Lib.hid hK
      clear hK
      go_step
      (with_reducible refine (HNXA.out _ (HU1.out.trans hA)).mono ?_)
      rintro e w7 ⟨rfl, hu7⟩
      have hA := hA.trans hu7
      clear hu7
      simp only []
      refine HKK.out _ _ hA ?_
      clear HKK
      simp only [Act.put, List.setIfInBounds_toArray, List.set]
      refine wpG_takeT (i := 21) (v := .tuple #[.agg #[.int .i64 ns, .int .i64 nk, .int .i64 nv], .int .i64 ng, .bool nb, .int .i64 ne]) rfl (fun L hc h => (hc.waits (n := 30) (i := 21) (by kernel_rfl) h)) (by kernel_rfl) (fun _ _ _ h => h) hA (.inl ⟨rfl, fun w5 q1 => ?_⟩) ?_
      · go_simp
      simp only [Act.put, List.setIfInBounds_toArray, List.set]
      refine wpG_takeT (i := 22) (v := .agg #[.int .i64 ns, .int .i64 nk, .int .i64 nv]) rfl (fun L hc h => (hc.waits (n := 30) (i := 22) (by kernel_rfl) h)) (by kernel_rfl) (fun _ _ _ h => h) hA (.inl ⟨rfl, fun w5 q1 => ?_⟩) ?_
      · go_simp
      simp only [Act.put, List.setIfInBounds_toArray, List.set]
      refine wpG_takeT (i := 23) (v := .int .i64 ng) rfl (fun L hc h => (hc.waits (n := 30) (i := 23) (by kernel_rfl) h)) (by kernel_rfl) (fun _ _ _ h => h) hA (.inl ⟨rfl, fun w5 q1 => ?_⟩) ?_
      · go_simp
      simp only [Act.put, List.setIfInBounds_toArray, List.set]
      refine wpG_takeT (i := 24) (v := .bool nb) rfl (fun L hc h => (hc.waits (n := 30) (i := 24) (by kernel_rfl) h)) (by kernel_rfl) (fun _ _ _ h => h) hA (.inl ⟨rfl, fun w5 q1 => ?_⟩) ?_
      · go_simp
      simp only [Act.put, List.setIfInBounds_toArray, List.set]
      refine wpG_takeT (i := 25) (v := .int .i64 ne) rfl (fun L hc h => (hc.waits (n := 30) (i := 25) (by kernel_rfl) h)) (by kernel_rfl) (fun _ _ _ h => h) hA (.inl ⟨rfl, fun w5 q1 => ?_⟩) ?_
      · go_simp
      simp only [Act.put, List.setIfInBounds_toArray, List.set]
      refine wpG_do (i := 26) rfl (by kernel_rfl) rfl (fun K hK => ?_)
      have HKK := Lib.hid hK
      clear hK
      go_step
      have hZ0 := hA.size
      have HX := Lib.hid (alloc_at (w := w7) (o := .cells #[.int .i64 0, .int .i64 0, .int .i64 0] 36) rfl)
      have hA := hA.alloc (.cells #[.int .i64 0, .int .i64 0, .int .i64 0] 36)
      refine HKK.out _ _ hA ?_
      clear HKK
      simp only [Act.put, List.setIfInBounds_toArray, List.set]
      generalize w7.alloc (.cells #[.int .i64 0, .int .i64 0, .int .i64 0] 36) = w7X at HX hA ⊢
      generalize w7.heap.size = bo at HX hZ0 ⊢
      refine wpG_doIf (i := 27) rfl (by kernel_rfl) rfl (fun K hK => ?_)
      have HKK := Lib.hid hK
      clear hK
      refine wp_store_mid 36 (.tmp 3) (.tmp 29) rfl bo 0 #[.int .i64 ns, .int .i64 nk, .int .i64 nv] rfl rfl (by have q := there_block HX.out; exact q) sizeRec (by simp [Value.oneCell']) ?_
      have HY := Lib.hid (setCells_all HX.out (vs := [.int .i64 ns, .int .i64 nk, .int .i64 nv]) rfl)
      have hA := hA.cut (upd_setCells w7X bo 0 [.int .i64 ns, .int .i64 nk, .int .i64 nv]) (fun q hq => by omega)
      refine HKK.out _ _ hA ?_
      clear HKK HX
      simp only [Act.put, List.setIfInBounds_toArray, List.set]
      refine wpG_takeT (i := 28) (v := .int .i64 ng) rfl (fun L hc h => (hc.waits (n := 30) (i := 28) (by kernel_rfl) h)) (by kernel_rfl) (fun _ _ _ h => h) hA (.inl ⟨rfl, fun w5 q1 => ?_⟩) ?_
      · go_simp
      simp only [Act.put, List.setIfInBounds_toArray, List.set]
      refine wpG_takeT (i := 29) (v := .bool nb) rfl (fun L hc h => (hc.waits (n := 30) (i := 29) (by kernel_rfl) h)) (by kernel_rfl) (fun _ _ _ h => h) hA (.inl ⟨rfl, fun w5 q1 => ?_⟩) ?_
      · go_simp
      simp only [Act.put, List.setIfInBounds_toArray, List.set]
      refine wpG_tail_lit (k := 30) rfl rfl (by kernel_rfl) ?_
      simp only [List.drop]
      go_wp2
      go_meet
      case rel => exact ⟨bo, rfl, HY.out, rfl, hA⟩
    · have HKK := Lib.hid hK
      clear hK
      go_step
      have hZ0 := hA.size
      have HX := Lib.hid (alloc_at (w := we) (o := .cells #[.int .i64 0, .int .i64 0, .int .i64 0] 36) rfl)
      have hA := hA.alloc (.cells #[.int .i64 0, .int .i64 0, .int .i64 0] 36)
      refine HKK.out _ _ hA ?_
      clear HKK
      simp only [Act.put, List.setIfInBounds_toArray, List.set]
      generalize we.alloc (.cells #[.int .i64 0, .int .i64 0, .int .i64 0] 36) = weX at HX hA ⊢
      generalize we.heap.size = bo at HX hZ0 ⊢
      refine wpG_do (i := 20) rfl (by kernel_rfl) rfl (fun K hK => ?_)
      have HKK := Lib.hid hK
      clear hK
      go_step
      (with_reducible refine (HNXA.out _ (HU1.out.trans hA)).mono ?_)
      rintro e w7 ⟨rfl, hu7⟩
      have hA := hA.trans hu7
      have HX := Lib.hid ((hu7.block _ (lt_of_heap HX.out) (fun e => e)).trans HX.out)
      clear hu7
      simp only []
      refine HKK.out _ _ hA ?_
      clear HKK
      simp only [Act.put, List.setIfInBounds_toArray, List.set]
      refine wpG_takeT (i := 21) (v := .tuple #[.agg #[.int .i64 ns, .int .i64 nk, .int .i64 nv], .int .i64 ng, .bool nb, .int .i64 ne]) rfl (fun L hc h => (hc.waits (n := 30) (i := 21) (by kernel_rfl) h)) (by kernel_rfl) (fun _ _ _ h => h) hA (.inl ⟨rfl, fun w5 q1 => ?_⟩) ?_
      · go_simp
      simp only [Act.put, List.setIfInBounds_toArray, List.set]
      refine wpG_takeT (i := 22) (v := .agg #[.int .i64 ns, .int .i64 nk, .int .i64 nv]) rfl (fun L hc h => (hc.waits (n := 30) (i := 22) (by kernel_rfl) h)) (by kernel_rfl) (fun _ _ _ h => h) hA (.inl ⟨rfl, fun w5 q1 => ?_⟩) ?_
      · go_simp
      simp only [Act.put, List.setIfInBounds_toArray, List.set]
      refine wpG_takeT (i := 23) (v := .int .i64 ng) rfl (fun L hc h => (hc.waits (n := 30) (i := 23) (by kernel_rfl) h)) (by kernel_rfl) (fun _ _ _ h => h) hA (.inl ⟨rfl, fun w5 q1 => ?_⟩) ?_
      · go_simp
      simp only [Act.put, List.setIfInBounds_toArray, List.set]
      refine wpG_takeT (i := 24) (v := .bool nb) rfl (fun L hc h => (hc.waits (n := 30) (i := 24) (by kernel_rfl) h)) (by kernel_rfl) (fun _ _ _ h => h) hA (.inl ⟨rfl, fun w5 q1 => ?_⟩) ?_
      · go_simp
      simp only [Act.put, List.setIfInBounds_toArray, List.set]
      refine wpG_takeT (i := 25) (v := .int .i64 ne) rfl (fun L hc h => (hc.waits (n := 30) (i := 25) (by kernel_rfl) h)) (by kernel_rfl) (fun _ _ _ h => h) hA (.inl ⟨rfl, fun w5 q1 => ?_⟩) ?_
      · go_simp
      simp only [Act.put, List.setIfInBounds_toArray, List.set]
      refine wpG_doIf (i := 27) rfl (by kernel_rfl) rfl (fun K hK => ?_)
      have HKK := Lib.hid hK
      clear hK
      refine wp_store_mid 36 (.tmp 3) (.tmp 29) rfl bo 0 #[.int .i64 ns, .int .i64 nk, .int .i64 nv] rfl rfl (by have q := there_block HX.out; exact q) sizeRec (by simp [Value.oneCell']) ?_
      have HY := Lib.hid (setCells_all HX.out (vs := [.int .i64 ns, .int .i64 nk, .int .i64 nv]) rfl)
      have hA := hA.cut (upd_setCells w7 bo 0 [.int .i64 ns, .int .i64 nk, .int .i64 nv]) (fun q hq => by omega)
      refine HKK.out _ _ hA ?_
      clear HKK HX
      simp only [Act.put, List.setIfInBounds_toArray, List.set]
      refine wpG_takeT (i := 28) (v := .int .i64 ng) rfl (fun L hc h => (hc.waits (n := 30) (i := 28) (by kernel_rfl) h)) (by kernel_rfl) (fun _ _ _ h => h) hA (.inl ⟨rfl, fun w5 q1 => ?_⟩) ?_
      · go_simp
      simp only [Act.put, List.setIfInBounds_toArray, List.set]
      refine wpG_takeT (i := 29) (v := .bool nb) rfl (fun L hc h => (hc.waits (n := 30) (i := 29) (by kernel_rfl) h)) (by kernel_rfl) (fun _ _ _ h => h) hA (.inl ⟨rfl, fun w5 q1 => ?_⟩) ?_
      · go_simp
      simp only [Act.put, List.setIfInBounds_toArray, List.set]
      refine wpG_tail_lit (k := 30) rfl rfl (by kernel_rfl) ?_
      simp only [List.drop]
      go_wp2
      go_meet
      case rel => exact ⟨bo, rfl, HY.out, rfl, hA⟩
  case rest =>
    obtain ⟨bn, rfl, hn6, rfl, hu6⟩ := hcut
    generalize wc = w6 at hn6 hu6 ⊢
    have HN6 := Lib.hid hn6
    have HU6 := Lib.hid (HU1.out.trans hu6)
    have H6 := Lib.hid (H1.out.kept hu6)
    clear hn6 hu6 HNXA HU1
    cases nb
    · have HE := Lib.hid (end_any endEl w6 H6.out HP.out HU6.out HOK.out HTG.out)
      go_wp2_with (go_at_call 169; fail)
      refine HE.out.mono ?_
      rintro _ w7 ⟨rfl, eA, eC, ht7, hu7⟩
      have HT7 := Lib.hid ht7; have HU7 := Lib.hid hu7
      clear ht7 hu7 HE
      simp only []
      go_wp2
      go_ret
      refine ⟨?_, HU7.out⟩
      rw [HRA.out]
      exact ⟨fun _ => ⟨rfl, eA, eC, HT7.out⟩, fun e => (by cases e)⟩
    · go_upto_region 4 with fail
      have hA : Upd0 w6 w6.drew := (Upd.refl _ _).drew
      have HMAP6 := Lib.hid HMAP.out
      refine wp_region_G 28 (fun W => Upd0 w6 W) [false, false, false, false, false, false, false, false, false, false, false, false, false, false, false, false, false, false, false, false, false, false, false, false, false, false, false, false, false] rfl (by kernel_rfl) ?_
      generalize w6.drew = we at hA ⊢
      refine wpG_takeP (i := 0) (v := .pointer (some ⟨p, 0, none⟩)) rfl (by kernel_rfl) (fun _ _ _ h => h) hA (.inl ⟨rfl, fun w5 q1 => ?_⟩) ?_
      · go_simp
      simp only [Act.put, List.setIfInBounds_toArray, List.set]
      refine wpG_takeP (i := 1) (v := .pointer (some ⟨p, 0, none⟩)) rfl (by kernel_rfl) (fun _ _ _ h => h) hA (.inl ⟨rfl, fun w5 q1 => ?_⟩) ?_
      · go_simp
      simp only [Act.put, List.setIfInBounds_toArray, List.set]
      refine wpG_takeP (i := 2) (v := .pointer (some ⟨p, 0, none⟩)) rfl (by kernel_rfl) (fun _ _ _ h => h) hA (.inl ⟨rfl, fun w5 q1 => ?_⟩) ?_
      · go_simp
      simp only [Act.put, List.setIfInBounds_toArray, List.set]
      refine wpG_takeP (i := 3) (v := .pointer (some ⟨p, 0, none⟩)) rfl (by kernel_rfl) (fun _ _ _ h => h) hA (.inl ⟨rfl, fun w5 q1 => ?_⟩) ?_
      · go_simp
      simp only [Act.put, List.setIfInBounds_toArray, List.set]
      refine wpG_takeP (i := 4) (v := .pointer (some ⟨p, 3, none⟩)) rfl (by kernel_rfl) (fun _ _ _ h => h) hA (.inl ⟨rfl, fun w5 q1 => ?_⟩) ?_
      · go_simp
      simp only [Act.put, List.setIfInBounds_toArray, List.set]
      refine wpG_takeT (i := 5) (v := .agg #[.int .i64 T.t.inp.src, .slice T.t.inp.ra T.t.inp.recs.length T.t.inp.rc]) rfl (fun L hc h => (hc.waits (n := 28) (i := 5) (by kernel_rfl) h)) (by kernel_rfl) (fun _ _ _ h => h) hA (.inl ⟨rfl, fun w5 q1 => ?_⟩) ?_
      · obtain ⟨-, -, -, x3, x4, -, -, -, -, -, -, -, -, -, -, -, -, -, -, -, -, -, -, -, -, -, -, -, -, -, -, -, -, -, -⟩ := TnV.at HMAP.out ((q1.block p (lt_of_heap H6.out.blk) (fun e => e)).trans H6.out.blk)
        go_simp
      simp only [Act.put, List.setIfInBounds_toArray, List.set]
      refine wpG_takeP (i := 6) (v := .pointer (some ⟨p, 0, none⟩)) rfl (by kernel_rfl) (fun _ _ _ h => h) hA (.inl ⟨rfl, fun w5 q1 => ?_⟩) ?_
      · go_simp
      simp only [Act.put, List.setIfInBounds_toArray, List.set]
      refine wpG_takeP (i := 7) (v := .pointer (some ⟨p, 0, none⟩)) rfl (by kernel_rfl) (fun _ _ _ h => h) hA (.inl ⟨rfl, fun w5 q1 => ?_⟩) ?_
      · go_simp
      simp only [Act.put, List.setIfInBounds_toArray, List.set]
      refine wpG_takeP (i := 8) (v := .pointer (some ⟨p, 0, none⟩)) rfl (by kernel_rfl) (fun _ _ _ h => h) hA (.inl ⟨rfl, fun w5 q1 => ?_⟩) ?_
      · go_simp
      simp only [Act.put, List.setIfInBounds_toArray, List.set]
      refine wpG_takeP (i := 9) (v := .pointer (some ⟨p, 5, none⟩)) rfl (by kernel_rfl) (fun _ _ _ h => h) hA (.inl ⟨rfl, fun w5 q1 => ?_⟩) ?_
      · go_simp
      simp only [Act.put, List.setIfInBounds_toArray, List.set]
      refine wpG_takeT (i := 10) (v := .agg #[.int .i64 o0, .int .i64 o1, .int .i64 o2, .int .i64 o3, .int .i64 o4, .int .i64 o5, .int .i64 o6, .int .i64 o7]) rfl (fun L hc h => (hc.waits (n := 28) (i := 10) (by kernel_rfl) h)) (by kernel_rfl) (fun _ _ _ h => h) hA (.inl ⟨rfl, fun w5 q1 => ?_⟩) ?_
      · obtain ⟨-, -, -, -, -, x5, x6, x7, x8, x9, x10, x11, x12, -, -, -, -, -, -, -, -, -, -, -, -, -, -, -, -, -, -, -, -, -, -⟩ := TnV.at HMAP.out ((q1.block p (lt_of_heap H6.out.blk) (fun e => e)).trans H6.out.blk)
        go_simp
      simp only [Act.put, List.setIfInBounds_toArray, List.set]
      refine wpG_takeP (i := 11) (v := .pointer (some ⟨p, 0, none⟩)) rfl (by kernel_rfl) (fun _ _ _ h => h) hA (.inl ⟨rfl, fun w5 q1 => ?_⟩) ?_
      · go_simp
      simp only [Act.put, List.setIfInBounds_toArray, List.set]
      refine wpG_takeP (i := 12) (v := .pointer (some ⟨p, 0, none⟩)) rfl (by kernel_rfl) (fun _ _ _ h => h) hA (.inl ⟨rfl, fun w5 q1 => ?_⟩) ?_
      · go_simp
      simp only [Act.put, List.setIfInBounds_toArray, List.set]
      refine wpG_takeP (i := 13) (v := .pointer (some ⟨p, 29, none⟩)) rfl (by kernel_rfl) (fun _ _ _ h => h) hA (.inl ⟨rfl, fun w5 q1 => ?_⟩) ?_
      · go_simp
      simp only [Act.put, List.setIfInBounds_toArray, List.set]
      refine wpG_takeP (i := 14) (v := .pointer (some ⟨p, 30, none⟩)) rfl (by kernel_rfl) (fun _ _ _ h => h) hA (.inl ⟨rfl, fun w5 q1 => ?_⟩) ?_
      · go_simp
      simp only [Act.put, List.setIfInBounds_toArray, List.set]
      refine wpG_takeT (i := 15) (v := .int .i64 T.s.2) rfl (fun L hc h => (hc.waits (n := 28) (i := 15) (by kernel_rfl) h)) (by kernel_rfl) (fun _ _ _ h => h) hA (.inl ⟨rfl, fun w5 q1 => ?_⟩) ?_
      · obtain ⟨-, -, -, -, -, -, -, -, -, -, -, -, -, -, -, -, -, -, -, -, -, -, -, -, -, -, -, -, -, -, x30, -, -, -, -⟩ := TnV.at HMAP.out ((q1.block p (lt_of_heap H6.out.blk) (fun e => e)).trans H6.out.blk)
        go_simp
      simp only [Act.put, List.setIfInBounds_toArray, List.set]
      refine wpG_takeP (i := 16) (v := .pointer (some ⟨p, 0, none⟩)) rfl (by kernel_rfl) (fun _ _ _ h => h) hA (.inl ⟨rfl, fun w5 q1 => ?_⟩) ?_
      · go_simp
      simp only [Act.put, List.setIfInBounds_toArray, List.set]
      refine wpG_takeP (i := 17) (v := .pointer (some ⟨p, 0, none⟩)) rfl (by kernel_rfl) (fun _ _ _ h => h) hA (.inl ⟨rfl, fun w5 q1 => ?_⟩) ?_
      · go_simp
      simp only [Act.put, List.setIfInBounds_toArray, List.set]
      refine wpG_takeP (i := 18) (v := .pointer (some ⟨p, 24, none⟩)) rfl (by kernel_rfl) (fun _ _ _ h => h) hA (.inl ⟨rfl, fun w5 q1 => ?_⟩) ?_
      · go_simp
      simp only [Act.put, List.setIfInBounds_toArray, List.set]
      refine wpG_takeP (i := 19) (v := .pointer (some ⟨p, 25, none⟩)) rfl (by kernel_rfl) (fun _ _ _ h => h) hA (.inl ⟨rfl, fun w5 q1 => ?_⟩) ?_
      · go_simp
      simp only [Act.put, List.setIfInBounds_toArray, List.set]
      refine wpG_takeT (i := 20) (v := .int .i64 T.o.width) rfl (fun L hc h => (hc.waits (n := 28) (i := 20) (by kernel_rfl) h)) (by kernel_rfl) (fun _ _ _ h => h) hA (.inl ⟨rfl, fun w5 q1 => ?_⟩) ?_
      · obtain ⟨-, -, -, -, -, -, -, -, -, -, -, -, -, -, -, -, -, -, -, -, -, -, -, -, -, x25, -, -, -, -, -, -, -, -, -⟩ := TnV.at HMAP.out ((q1.block p (lt_of_heap H6.out.blk) (fun e => e)).trans H6.out.blk)
        go_simp
      simp only [Act.put, List.setIfInBounds_toArray, List.set]
      refine wpG_doIf (i := 21) rfl (by kernel_rfl) rfl (fun K hK => ?_)
      have HKK := Lib.hid hK
      clear hK
      go_step
      refine (HRDA.out _ (HU6.out.trans hA)).mono ?_
      rintro _ w7 ⟨rfl, hu7⟩
      have hA2 := hA.trans hu7
      clear hu7
      simp only []
      refine HKK.out _ _ hA2 ?_
      clear HKK
      simp only [Act.put, List.setIfInBounds_toArray, List.set]
      refine wpG_takeP (i := 22) (v := .tuple #[.agg (rd.1.map I).toArray, .int .i64 rd.2]) rfl (by kernel_rfl) (fun _ _ _ h => h) hA2 (.inl ⟨rfl, fun w5 q1 => ?_⟩) ?_
      · go_simp
      simp only [Act.put, List.setIfInBounds_toArray, List.set]
      refine wpG_takeP (i := 23) (v := .agg (rd.1.map I).toArray) rfl (by kernel_rfl) (fun _ _ _ h => h) hA2 (.inl ⟨rfl, fun w5 q1 => ?_⟩) ?_
      · go_simp
      simp only [Act.put, List.setIfInBounds_toArray, List.set]
      refine wpG_takeP (i := 24) (v := .int .i64 rd.2) rfl (by kernel_rfl) (fun _ _ _ h => h) hA2 (.inl ⟨rfl, fun w5 q1 => ?_⟩) ?_
      · go_simp
      simp only [Act.put, List.setIfInBounds_toArray, List.set]
      refine wpG_takeP (i := 25) (v := .pointer (some ⟨p, 0, none⟩)) rfl (by kernel_rfl) (fun _ _ _ h => h) hA2 (.inl ⟨rfl, fun w5 q1 => ?_⟩) ?_
      · go_simp
      simp only [Act.put, List.setIfInBounds_toArray, List.set]
      refine wpG_takeP (i := 26) (v := .pointer (some ⟨p, 0, none⟩)) rfl (by kernel_rfl) (fun _ _ _ h => h) hA2 (.inl ⟨rfl, fun w5 q1 => ?_⟩) ?_
      · go_simp
      simp only [Act.put, List.setIfInBounds_toArray, List.set]
      refine wpG_takeP (i := 27) (v := .pointer (some ⟨p, 5, none⟩)) rfl (by kernel_rfl) (fun _ _ _ h => h) hA2 (.inl ⟨rfl, fun w5 q1 => ?_⟩) ?_
      · go_simp
      simp only [Act.put, List.setIfInBounds_toArray, List.set]
      refine wpG_tail_lit (k := 28) rfl rfl (by kernel_rfl) ?_
      simp only [List.drop]
      have hblk := H6.out.blk
      have hblk7 := (hA2.block p (lt_of_heap hblk) (fun e => e)).trans hblk
      have hlen : (T.cells.toArray).size = 51 := by simp [TnV.len H6.out.o8 H6.out.snl.1]
      refine wpList_store_mid rfl 43 (.tmp 65) (.tmp 61) rfl p 5 (rd.1.map I).toArray rfl rfl (there_mid hblk7 (by rw [hlen]; simp [HRL.out])) (by rw [sizeOff8]; simp [HRL.out]) (by simp [Value.oneCell', I]) ?_
      have hly := (H6.out.kept hA2).lay (T' := T.offd rd.1) (A := [.slice T.t.oa T.t.os.length T.t.oc, .int .i64 T.t.sub, .int .i64 T.t.att, .int .i64 T.t.inp.src, .slice T.t.inp.ra T.t.inp.recs.length T.t.inp.rc]) (X := T.t.offs.map I) (Y := rd.1.map I) (C := [.slice T.t.qa T.t.qs.length T.t.qc, .int .u64 T.t.num, .int .u64 T.t.gd, .slice T.t.ta T.t.rows.length T.t.tc, .int .i64 T.t.snk.sub, .int .i64 T.t.snk.att, .int .i64 T.t.snk.ser, .bool T.t.snk.opn, .slice T.t.snk.na T.t.snk.names.length T.t.snk.nc, .int .u64 T.t.done, .bool T.t.fin, .int .i64 T.o.tag, .int .i64 T.o.width, .slice T.o.ia T.o.ins.length T.o.ic, .int .i64 T.o.a, .int .i64 T.o.b, .int .i64 T.s.1, .int .i64 T.s.2, .slice T.outA T.out.length T.outC, .slice T.rmA T.rooms.length T.rmC, .slice T.emA T.ems.length T.emC, .slice T.acA T.acN T.acC] ++ (T.snap ++ [.int .u64 T.num, .bool T.fin])) (n := 5) (by simp [TnV.cells, TkV.cells, TnV.mid]) (by simp [TnV.cells, TkV.cells, TnV.mid, TnV.offd]) (by simp [HRL.out, H6.out.o8]) rfl HRL.out H6.out.snl ⟨rfl, rfl, rfl⟩ ⟨rfl, rfl, rfl⟩ ⟨rfl, rfl, rfl⟩
      have htl : ((rd.1.map I).toArray).toList = rd.1.map I := by simp
      rw [htl]
      generalize hw8 : w7.setCells p 5 (rd.1.map I) = w8 at hly ⊢
      clear hw8 htl
      have HT8 := Lib.hid hly.1
      have HU8 := Lib.hid ((HU6.out.trans hA2).cut hly.2 (fun q hq => by have := HP.out; omega))
      have HN8 := Lib.hid ((hly.2.block bn (lt_of_heap ((hA2.block bn (lt_of_heap HN6.out) (fun e => e)).trans HN6.out)) (fun e => by have h1 := (hA2.block bn (lt_of_heap HN6.out) (fun e => e)).trans HN6.out; rw [e, hblk7] at h1; injection h1 with h1; injection h1 with _ h1; exact absurd h1 (by decide))).trans ((hA2.block bn (lt_of_heap HN6.out) (fun e => e)).trans HN6.out))
      clear hA hA2 hly hblk hblk7 hlen
      have HTK8 := Lib.hid (show TkIn w0 (T.offd rd.1).t from ⟨HTK.out.ops, HTK.out.ol, HTK.out.oc1, HTK.out.oc2, HTK.out.recs, HTK.out.rl, HRL.out, HTK.out.rows, HTK.out.tl, HTK.out.names, HTK.out.nl⟩)
      have HREC := Lib.hid (record_any (T := T.offd rd.1) ⟨ns, nk, nv⟩ w8 HT8.out HP.out HTK8.out HU8.out ⟨HOK.out.len, HOK.out.ol, HOK.out.el, HOK.out.rb⟩)
      obtain ⟨rr, hrr⟩ : ∃ rr, rr = recordR (T.offd rd.1) ⟨ns, nk, nv⟩ := ⟨_, rfl⟩
      rw [← hrr] at HREC HRA
      obtain ⟨c0, c1, c2⟩ := cells3_of HN8.out
      clear hrr
      go_wp2_with (go_at_call 170; fail)
      (with_reducible refine HREC.out.mono ?_)
      rintro _ w9 ⟨rfl, eA, eC, ht9, hu9⟩
      have HT9 := Lib.hid ht9; have HU9 := Lib.hid hu9
      clear ht9 hu9 HREC
      simp only []
      go_wp2
      go_ret
      refine ⟨?_, HU9.out⟩
      rw [HRA.out]
      exact ⟨fun e => (by cases e), fun _ => ⟨rfl, eA, eC, HT9.out⟩⟩
end Go.Proofs.YtbonfdkgkcbkmaaGreat
end

section
namespace Go.Proofs.YtbonfdkgkcbkmaaGreat
set_option maxRecDepth 100000
open Go.RowKit Go.Shelf

attribute [local go_sem] Oper.semAt_some
theorem own_new {w : World} {B : Nat} (e : TypeId) {cs : Array Value} {n s : Nat} (hb : B ≤ w.heap.size) (hm : n ≤ maxLen) (hs : cs.size = n * s) : (w.alloc (.cells cs e)).ownsRow B e s (.slice (some ⟨w.heap.size, 0, none⟩) n n) n cs.toList :=
  ⟨by simp [hs], .inr ⟨w.heap.size, n, cs, rfl, hb, alloc_at rfl, Nat.le_refl _, hm, hs, by rw [← hs]; exact List.take_of_length_le (by simp)⟩⟩
theorem chk_self {t : TkV} (h : chkSrc t = 0) : (selfR t).2.2 = true := by
  unfold chkSrc at h
  split at h
  · cases h
  · rename_i h1
    cases hx : (selfR t).2.2 with
    | true => rfl
    | false => exact absurd (.inl hx) h1
/-- What a source may do. -/
def ChA (t : TkV) (w : World) (e : Ending) (w' : World) : Prop :=
  (t.fin = true → e = .returned (.slice none 0 0)) ∧ (t.fin = false → ∃ a c, e = .returned (.slice a 1 c) ∧ OwnI w' w.heap.size 3 (.slice a 1 c) [0])
set_option maxHeartbeats 32000000 in
theorem choices_any (t : TkV) (w : World) (h : TkIn w t) (hck : chkSrc t = 0) (ht1 : (selfR t).1.tag = 1) : Calls Tryz.prog 27 #[.agg t.cells.toArray] w fun e w' => ChA t w e w' ∧ Upd0 w w' := by
  have hth := chk_self hck
  have HSELF := Lib.hid (fun (W : World) (hW : Upd0 w W) => self_any t W (h.kept hW))
  have HCHK := Lib.hid (fun (W : World) (hW : Upd0 w W) => checksrc_any t W (h.kept hW) (fun _ => ht1))
  have hcl := fun (W : World) (b : Nat) => TkV.at (W := W) (b := b) h.o8
  have hsz := TkV.csize h.o8
  obtain ⟨cs, hcs⟩ : ∃ cs, cs = t.cells.toArray := ⟨_, rfl⟩
  rw [← hcs] at HSELF HCHK hcl hsz ⊢
  rw [hck] at HCHK
  have HCL := Lib.hid hcl; have HSZ := Lib.hid hsz
  obtain ⟨b, hb⟩ : ∃ b, b = w.heap.size := ⟨_, rfl⟩
  obtain ⟨w1, hw1⟩ : ∃ w1, w1 = w.alloc (.cells cs 74) := ⟨_, rfl⟩
  have hu1 : Upd0 w w1 := by rw [hw1]; exact (Upd.refl _ w).alloc _
  have HT := Lib.hid (show w1.heap[b]? = some (.cells cs 74 (0, 0)) by rw [hw1]; exact alloc_at hb)
  have HU := Lib.hid hu1
  obtain ⟨sr, hsr⟩ : ∃ sr, sr = selfR t := ⟨_, rfl⟩
  rw [← hsr] at HSELF ht1 hth
  obtain ⟨o, ⟨s1, s2⟩, th⟩ := sr
  simp only at HSELF ht1 hth
  subst hth
  have HSE := Lib.hid (HSELF.out w1 hu1)
  have HTG := Lib.hid ht1
  have HCA := Lib.hid (fun (e : Ending) (w' : World) => show ChA t w e w' = ((t.fin = true → e = .returned (.slice none 0 0)) ∧ (t.fin = false → ∃ a c, e = .returned (.slice a 1 c) ∧ OwnI w' w.heap.size 3 (.slice a 1 c) [0])) from rfl)
  clear h hcs hcl hsz hu1 hsr ht1 HSELF hck
  go_enter Tryz.func27, Tryz.ntmps27
  go_upto_region 1 with fail
  rw [← hw1, ← hb]
  clear hw1 hb
  iterate 1 go_step
  refine wpList_ldA rfl rfl rfl HT.out Tryz.underlying74 rfl HSZ.out ?_
  go_wp2_with (go_at_call 83; fail)
  (with_reducible refine HSE.out.mono ?_)
  rintro _ w2 ⟨rfl, hu2⟩
  obtain ⟨w3, hw3⟩ : ∃ w3, w3 = (w2.alloc (.cells #[.int .i64 o.tag, .int .i64 o.width, .slice o.ia o.ins.length o.ic, .int .i64 o.a, .int .i64 o.b] 89)).alloc (.cells #[.int .i64 s1, .int .i64 s2] 124) := ⟨_, rfl⟩
  obtain ⟨ob, hob⟩ : ∃ ob, ob = w2.heap.size := ⟨_, rfl⟩
  have hu3 : Upd0 w1 w3 := by rw [hw3]; exact (hu2.alloc _).alloc _
  have HU3 := Lib.hid (HU.out.trans hu3)
  have HT3 := Lib.hid ((hu3.block _ (lt_of_heap HT.out) (fun e => e)).trans HT.out)
  have HP3 := Lib.hid (show w3.heap[ob]? = some (.cells #[.int .i64 o.tag, .int .i64 o.width, .slice o.ia o.ins.length o.ic, .int .i64 o.a, .int .i64 o.b] 89 (0, 0)) by rw [hw3, hob]; exact (alloc_lt (by simp)).trans (alloc_at rfl))
  clear hu2 hu3 HSE HT HU
  simp only []
  go_upto_region 2 with fail
  rw [← hw3, ← hob]
  clear hw3 hob
  iterate 1 go_step
  refine wpList_ldA rfl rfl rfl HT3.out Tryz.underlying74 rfl HSZ.out ?_
  go_wp2_with (go_at_call 87; fail)
  (with_reducible refine (HCHK.out w3 HU3.out).mono ?_)
  rintro _ w4 ⟨rfl, hu4⟩
  have HU4 := Lib.hid (HU3.out.trans hu4)
  have HT4 := Lib.hid ((hu4.block _ (lt_of_heap HT3.out) (fun e => e)).trans HT3.out)
  have HP4 := Lib.hid ((hu4.block _ (lt_of_heap HP3.out) (fun e => e)).trans HP3.out)
  clear hu4 HCHK HT3 HP3 HU3
  obtain ⟨-, -, -, -, -, -, -, -, -, x23⟩ := HCL.out _ _ HT4.out
  obtain ⟨p0, -, -, -, -⟩ := cells5_of HP4.out
  have htg : (o.tag != 1) = false := by simp [HTG.out]
  simp only []
  cases hf : t.fin
  · rw [hf] at x23 HCA
    go_wp2
    go_ret
    refine ⟨?_, by first | exact HU4.out.alloc _ | skip⟩
    rw [HCA.out]
    exact ⟨fun e => (by cases e), fun _ => ⟨_, _, rfl, own_new 3 (cs := #[.int .i64 0]) HU4.out.size (by unfold maxLen; omega) rfl⟩⟩
  · rw [hf] at x23 HCA
    go_wp2
    go_ret
    refine ⟨?_, HU4.out⟩
    rw [HCA.out]
    exact ⟨fun _ => rfl, fun e => (by cases e)⟩
end Go.Proofs.YtbonfdkgkcbkmaaGreat
end

section
namespace Go.Proofs.YtbonfdkgkcbkmaaGreat
set_option maxRecDepth 100000
open Go.RowKit Go.Shelf

attribute [local go_sem] Oper.semAt_some
/-- What a source has done. -/
def deedV (eA : Option Addr) (eC : Nat) (sn : List Value) (n : Nat) (fin : Bool) : List Value := [.slice eA 1 eC, .slice none 0 0] ++ sn ++ [.int .u64 n, .bool fin]
/-- What becomes of a source, and which element goes on. -/
def StpV (t : TkV) : TkV × ElV × Bool := if (NextR t.inp t.offs (selfR t).2.1.2 (selfR t).1.width).2.2.1 = true then ({ t with offs := (ReadR t.inp t.offs (selfR t).2.1.2 (selfR t).1.width).1 }, ⟨1, (NextR t.inp t.offs (selfR t).2.1.2 (selfR t).1.width).1, 0⟩, false) else ({ t with fin := true }, endEl, true)
/-- A source with one channel, and room there. -/
structure Src1 (t : TkV) (c rm : Int) : Prop where
  ck : chkSrc t = 0
  tag : (selfR t).1.tag = 1
  out : (OutR t.os t.sub).1 = [c]
  rm1 : 1 ≤ rm
  rm2 : rm ≤ 9223372036854775807
theorem emit_one (c rm : Int) (el : ElV) (h : 1 ≤ rm) : emitR [c] el [rm] [] [c] = ([rm - 1], [⟨c, el⟩], 0) := by
  have h1 : Lib.idxOf [c] c = 0 := by simp [Lib.idxOf, Lib.idxFrom]
  have h2 : ¬ rm = 0 := by omega
  simp [emitR, h1, h2]
theorem Src1.rooms {t : TkV} {c rm : Int} (h : Src1 t c rm) : roomsB t [rm] = true := by
  have := h.rm1
  simp [roomsB, h.out]; omega
theorem read_src {t : TkV} {c rm : Int} {w0 w' : World} {p : Nat} {e : Ending} {oA rA : Option Addr} {oC rC : Nat} (h : Src1 t c rm)
    (hrt : (NextR t.inp t.offs (selfR t).2.1.2 (selfR t).1.width).2.2.1 = true → RouteR t.os t.sub (NextR t.inp t.offs (selfR t).2.1.2 (selfR t).1.width).1 = ([c], 0))
    (hr : ReadA (turn0 t (selfR t).1 (selfR t).2.1 oA oC (OutR t.os t.sub).1 rA rC [rm]) w0 p e w') :
    e = .returned (.int .i64 0) ∧ ∃ T eA eC, TnAt w' w0.heap.size p T ∧ T.t = (StpV t).1 ∧ T.deed = deedV eA eC zeroSn 0 (StpV t).2.2 ∧ T.ems = [⟨c, (StpV t).2.1⟩] ∧ T.emA = eA ∧ T.emC = eC := by
  obtain ⟨h1, h2⟩ := hr
  rw [h.out] at h1 h2
  simp only [turn0] at h1 h2
  cases hn : (NextR t.inp t.offs (selfR t).2.1.2 (selfR t).1.width).2.2.1 with
  | false =>
    obtain ⟨e1, eA, eC, h3⟩ := h1 hn
    rw [emit_one c rm endEl h.rm1] at e1 h3
    refine ⟨e1, _, eA, eC, h3, ?_⟩
    unfold StpV
    rw [if_neg (by rw [hn]; simp)]
    exact ⟨rfl, rfl, rfl, rfl, rfl⟩
  | true =>
    obtain ⟨e1, eA, eC, h3⟩ := h2 hn
    have hre : ∀ T : TnV, T.t.os = t.os → T.t.sub = t.sub → T.out = [c] → T.rooms = [rm] → T.ems = [] → recordR T (NextR t.inp t.offs (selfR t).2.1.2 (selfR t).1.width).1 = ([rm - 1], [⟨c, ⟨1, (NextR t.inp t.offs (selfR t).2.1.2 (selfR t).1.width).1, 0⟩⟩], 0) := by
      intro T g1 g2 g3 g4 g5
      unfold recordR
      rw [g1, g2, hrt hn, g3, g4, g5, if_neg (by simp), emit_one c rm _ h.rm1]
    rw [hre _ (by rfl) (by rfl) (by rfl) (by rfl) (by rfl)] at e1 h3
    refine ⟨e1, _, eA, eC, h3, ?_⟩
    unfold StpV
    rw [if_pos hn]
    exact ⟨rfl, rfl, rfl, rfl, rfl⟩
set_option maxHeartbeats 32000000 in
theorem tstep_any {ra : Option Addr} {rc : Nat} {c rm : Int} (t : TkV) (w : World) (h : TkIn w t) (hs : Src1 t c rm) (hf : t.fin = false) (hr : IntsIn w ra [rm])
    (hrt : (NextR t.inp t.offs (selfR t).2.1.2 (selfR t).1.width).2.2.1 = true → RouteR t.os t.sub (NextR t.inp t.offs (selfR t).2.1.2 (selfR t).1.width).1 = ([c], 0)) :
    Calls Tryz.prog 28 #[.agg t.cells.toArray, .int .i64 0, .slice ra 1 rc] w fun e w' => ∃ eA eC, e = .returned (.tuple #[.agg (StpV t).1.cells.toArray, .agg (deedV eA eC zeroSn 0 (StpV t).2.2).toArray, .int .i64 0]) ∧
      w'.ownsRow w.heap.size 97 6 (.slice eA 1 eC) 1 (EmV.cells ⟨c, (StpV t).2.1⟩) ∧ Upd0 w w' := by
  have hsz := TkV.csize h.o8
  have h8 := h.o8
  obtain ⟨cs, hcs⟩ : ∃ cs, cs = t.cells.toArray := ⟨_, rfl⟩
  have HBG := Lib.hid (fun (W : World) (hW : Upd0 w W) => show Calls Tryz.prog 70 #[.agg t.cells.toArray, .slice ra 1 rc] W fun e w' => BeginA t [rm] W e w' ∧ Upd0 W w' from begin_any (rc := rc) t W (h.kept hW) (hr.kept hW) (by simp) (fun _ => hs.tag))
  have HCH := Lib.hid (fun (W : World) (hW : Upd0 w W) => choices_any t W (h.kept hW) hs.ck hs.tag)
  rw [← hcs] at HBG HCH hsz ⊢
  have HSZ := Lib.hid hsz; have HS := Lib.hid hs; have HF := Lib.hid hf; have HK := Lib.hid h; have HRT := Lib.hid hrt
  obtain ⟨b, hb⟩ : ∃ b, b = w.heap.size := ⟨_, rfl⟩
  obtain ⟨w1, hw1⟩ : ∃ w1, w1 = ((w.alloc (.cells cs 74)).alloc (.cells #[.slice none 0 0, .int .i64 0, .int .i64 0, .int .i64 0, .slice none 0 0, .int .i64 0, .int .i64 0, .int .i64 0, .int .i64 0, .int .i64 0, .int .i64 0, .int .i64 0, .int .i64 0, .slice none 0 0, .int .u64 0, .int .u64 0, .slice none 0 0, .int .i64 0, .int .i64 0, .int .i64 0, .bool false, .slice none 0 0, .int .u64 0, .bool false] 74)).alloc (.cells #[.slice none 0 0, .slice none 0 0, .int .i64 0, .int .i64 0, .int .i64 0, .bool false, .slice none 0 0, .int .i64 0, .int .i64 0, .int .i64 0, .int .i64 0, .int .i64 0, .int .i64 0, .int .i64 0, .int .i64 0, .slice none 0 0, .int .u64 0, .bool false] 82) := ⟨_, rfl⟩
  have hu1 : Upd0 w w1 := by rw [hw1]; exact (((Upd.refl _ w).alloc _).alloc _).alloc _
  have HT := Lib.hid (show w1.heap[b]? = some (.cells cs 74 (0, 0)) by rw [hw1, hb]; exact (alloc_lt (by simp <;> omega)).trans ((alloc_lt (by simp)).trans (alloc_at rfl)))
  have HX := Lib.hid (show w1.heap[b + 1]? = some (.cells #[.slice none 0 0, .int .i64 0, .int .i64 0, .int .i64 0, .slice none 0 0, .int .i64 0, .int .i64 0, .int .i64 0, .int .i64 0, .int .i64 0, .int .i64 0, .int .i64 0, .int .i64 0, .slice none 0 0, .int .u64 0, .int .u64 0, .slice none 0 0, .int .i64 0, .int .i64 0, .int .i64 0, .bool false, .slice none 0 0, .int .u64 0, .bool false] 74 (0, 0)) by rw [hw1, hb]; exact (alloc_lt (by simp)).trans (alloc_at (by simp)))
  have HY := Lib.hid (show w1.heap[b + 2]? = some (.cells #[.slice none 0 0, .slice none 0 0, .int .i64 0, .int .i64 0, .int .i64 0, .bool false, .slice none 0 0, .int .i64 0, .int .i64 0, .int .i64 0, .int .i64 0, .int .i64 0, .int .i64 0, .int .i64 0, .int .i64 0, .slice none 0 0, .int .u64 0, .bool false] 82 (0, 0)) by rw [hw1, hb]; exact alloc_at (by simp))
  have HU := Lib.hid hu1; have HB := Lib.hid hb
  clear h hr hsz hu1 hcs hs hf hrt h8
  go_enter Tryz.func28, Tryz.ntmps28
  go_upto_region 1 with fail
  rw [← hw1, ← hb]
  clear hw1 hb
  iterate 1 go_step
  refine wpList_ldA rfl rfl rfl HT.out Tryz.underlying74 rfl HSZ.out ?_
  go_wp2_with (go_at_call 70; fail)
  (with_reducible refine (HBG.out w1 HU.out).mono ?_)
  rintro _ w2 ⟨⟨-, -, hb3⟩, hu2⟩
  obtain ⟨p, oA, oC, rA, rC, rfl, hp, hblk, hoo, hor, hap⟩ := hb3 HS.out.ck HS.out.rooms
  have HTN := Lib.hid (show TnAt w2 w1.heap.size p (turn0 t (selfR t).1 (selfR t).2.1 oA oC (OutR t.os t.sub).1 rA rC [rm]) from ⟨hblk, HK.out.o8, ⟨rfl, by intro v hv; simp only [turn0, zeroSn, List.mem_cons, List.not_mem_nil, or_false] at hv; rcases hv with rfl | rfl | rfl | rfl | rfl | rfl | rfl | rfl | rfl | rfl | rfl | rfl | rfl | rfl <;> rfl⟩, hoo, hor, ⟨rfl, .inl ⟨rfl, rfl⟩⟩, hap⟩)
  have HP := Lib.hid hp
  have HU2 := Lib.hid hu2
  have HT2 := Lib.hid ((hu2.block _ (lt_of_heap HT.out) (fun e => e)).trans HT.out)
  clear hb3 hp hblk hoo hor hap hu2 HT HBG
  simp only []
  go_upto_region 4 with fail
  iterate 1 go_step
  refine wpList_ldA rfl rfl rfl HT2.out Tryz.underlying74 rfl HSZ.out ?_
  go_wp2_with (go_at_call 27; fail)
  (with_reducible refine (HCH.out w2 (HU.out.trans HU2.out)).mono ?_)
  rintro _ w3 ⟨⟨-, hc2⟩, hu3⟩
  obtain ⟨ca, cc, rfl, hco⟩ := hc2 HF.out
  have HU3 := Lib.hid (HU2.out.trans hu3)
  have HTN3 := Lib.hid (HTN.out.kept hu3)
  have HCO := Lib.hid (show IntsIn w3 ca [0] from Row.of_ownK (s := 1) (els := [[.int .i64 0]]) (by omega) hco (by simp) rfl)
  clear hc2 hu3 HTN HT2 HCH hco
  simp only []
  go_wp2_with (go_at_call 89; fail)
  refine (show Calls Tryz.prog 89 #[.slice ca 1 cc, .int .i64 0] w3 fun e w' => e = .returned (.bool ([0].contains (0 : Int))) ∧ w3 = w' from contains_in (l := [0]) (c := cc) 0 w3 HCO.out (by simp)).mono ?_
  rintro _ _ ⟨rfl, rfl⟩
  clear HCO
  simp only []
  have hdec : ([0] : List Int).contains 0 = true := rfl
  rw [hdec]
  clear hdec
  obtain ⟨o0, o1, o2, o3, o4, o5, o6, o7, hmap⟩ := eight HTN3.out.o8
  obtain ⟨-, -, -, -, -, -, -, -, -, -, -, -, -, -, -, -, -, -, -, -, -, -, -, -, x24, -, -, -, -, -, -, -, -, -, -⟩ := TnV.at hmap HTN3.out.blk
  replace x24 : w3.cell? ⟨p, 24, none⟩ = some (.int .i64 1) := by
    rw [x24]
    exact congrArg (fun z => some (Value.int .i64 z)) HS.out.tag
  have HRD := Lib.hid (read_any w3 HTN3.out HP.out (HK.out.kept HU.out) HU3.out ⟨by simp [turn0, HS.out.out], by simp [turn0, HS.out.out], by simp [turn0], by intro r hr; simp only [turn0, List.mem_cons, List.not_mem_nil, or_false] at hr; subst hr; have := HS.out.rm1; have := HS.out.rm2; omega⟩ (by show (selfR t).1.tag ≠ 7; rw [HS.out.tag]; decide))
  clear hmap HTN3
  go_wp2_with (go_at_call 90; fail)
  (with_reducible refine HRD.out.mono ?_)
  rintro _ w4 ⟨hra, hu4⟩
  obtain ⟨rfl, T, eA, eC, hT, hTt, hTd, hTe, hTa, hTc⟩ := read_src HS.out HRT.out hra
  have HTN4 := Lib.hid hT; have HTT := Lib.hid hTt; have HTD := Lib.hid hTd
  have HEM := Lib.hid (show w4.ownsRow w.heap.size 97 6 (.slice eA 1 eC) 1 (EmV.cells ⟨c, (StpV t).2.1⟩) from ownsRow_low (by have q := hT.ems; rw [hTe, hTa, hTc] at q; simpa using q) HU.out.size)
  have HU4 := Lib.hid hu4
  have HX4 := Lib.hid ((hu4.block _ (lt_of_heap HX.out) (fun e => e)).trans HX.out)
  have HY4 := Lib.hid ((hu4.block _ (lt_of_heap HY.out) (fun e => e)).trans HY.out)
  clear hra hu4 hT hTt hTd hTe hTa hTc HRD x24
  simp only []
  go_wp2_with (go_at_call 72; fail)
  have hdn := done0_any w4 HTN4.out
  have HST := Lib.hid (show (Tryz.prog.info? 74).map (·.size) = some T.t.cells.length by rw [sizeTk, TkV.clen HTN4.out.o8])
  have HSD := Lib.hid (show (Tryz.prog.info? 82).map (·.size) = some T.deed.length by rw [sizeDd, TnV.deed_len HTN4.out.snl.1])
  have HOT := Lib.hid (TkV.one T.t)
  have HOD := Lib.hid (TnV.deed_one HTN4.out.snl.2)
  have HLT := Lib.hid (TkV.clen HTN4.out.o8)
  have HLD := Lib.hid (TnV.deed_len HTN4.out.snl.1)
  obtain ⟨tc, htc⟩ : ∃ tc, tc = T.t.cells := ⟨_, rfl⟩
  obtain ⟨dc, hdc⟩ : ∃ dc, dc = T.deed := ⟨_, rfl⟩
  have HTC := Lib.hid (htc.trans (congrArg TkV.cells HTT.out))
  have HDC := Lib.hid (hdc.trans HTD.out)
  rw [← htc, ← hdc] at hdn
  rw [← htc] at HST HOT HLT
  rw [← hdc] at HSD HOD HLD
  refine hdn.mono ?_
  rintro _ w6 ⟨rfl, hu6⟩
  have HU6 := Lib.hid (HU4.out.trans hu6)
  have HX6 := Lib.hid ((hu6.block _ (lt_of_heap HX4.out) (fun e => e)).trans HX4.out)
  have HY6 := Lib.hid ((hu6.block _ (lt_of_heap HY4.out) (fun e => e)).trans HY4.out)
  have HEM6 := Lib.hid (ownsRow_any HEM.out hu6 (fun _ _ e => e))
  clear hdn htc hdc hu6 HX4 HY4 HEM HTN4 HTT HTD
  simp only []
  iterate 10 go_step
  have hx6 := HX6.out
  refine wpList_store_mid rfl 74 (.tmp 6) (.tmp 39) rfl (b + 1) 0 tc.toArray rfl rfl (by have q := there_block hx6; simpa [HLT.out] using q) (by simpa using HST.out) (all_oneCell_toArray HOT.out) ?_
  have hq7 := upd_setCells w6 (b + 1) 0 tc
  have hr7 := setCells_all hx6 (vs := tc) (by rw [HLT.out]; rfl)
  have hy7 := (hq7.block (b + 2) (lt_of_heap HY6.out) (by omega)).trans HY6.out
  rw [show tc.toArray.toList = tc from rfl]
  generalize hw7 : w6.setCells (b + 1) 0 tc = w7 at hq7 hr7 hy7 ⊢
  refine wpList_store_mid rfl 82 (.tmp 7) (.tmp 40) rfl (b + 2) 0 dc.toArray rfl rfl (by have q := there_block hy7; simpa [HLD.out] using q) (by simpa using HSD.out) (all_oneCell_toArray HOD.out) ?_
  have hq8 := upd_setCells w7 (b + 2) 0 dc
  have hr8 := setCells_all hy7 (vs := dc) (by rw [HLD.out]; rfl)
  have hx8 := (hq8.block (b + 1) (lt_of_heap hr7) (by omega)).trans hr7
  rw [show dc.toArray.toList = dc from rfl]
  generalize hw8 : w7.setCells (b + 2) 0 dc = w8 at hq8 hr8 hx8 ⊢
  have HQ7 := Lib.hid hq7; have HQ8 := Lib.hid hq8; have HR8 := Lib.hid hr8; have HX8 := Lib.hid hx8
  clear hq7 hr7 hy7 hq8 hr8 hx8 hx6 hw7 hw8
  go_wp2
  refine bodyPost_ret (results_cct (fn := Tryz.f28) rfl rfl (loadA HX8.out Tryz.underlying74 rfl HST.out) rfl (loadA HR8.out Tryz.underlying82 rfl HSD.out)) rfl ?_
  rw [HTC.out, HDC.out]
  refine ⟨eA, eC, rfl, ?_, ?_⟩
  · exact ownsRow_any (ownsRow_any HEM6.out HQ7.out (own_neT HEM6.out HX6.out (by decide))) HQ8.out (own_neT HEM6.out HY6.out (by decide))
  · exact ((HU.out.trans HU6.out).cut HQ7.out (fun q hq => by have := HB.out; omega)).cut HQ8.out (fun q hq => by have := HB.out; omega)
end Go.Proofs.YtbonfdkgkcbkmaaGreat
end

section
namespace Go.Proofs.YtbonfdkgkcbkmaaGreat
set_option maxRecDepth 100000
open Go.RowKit Go.Shelf

attribute [local go_sem] Oper.semAt_some
/-- What triggering a source answers. -/
def TrgA (t : TkV) (c : Int) (n : Nat) (w : World) (e : Ending) (w' : World) : Prop :=
  ∃ D : List Value, D.length = 18 ∧ (∀ v ∈ D, v.oneCell' = true) ∧ e = .returned (.tuple #[.agg ({ t with done := n } : TkV).cells.toArray, .agg D.toArray, .int .i64 0]) ∧
    (t.fin = false → ∃ eA eC na nc, D = deedV eA eC (snapOf { t with done := n } (selfR t).1 (selfR t).2.1 na nc).cells n false ∧ w'.ownsRow w.heap.size 97 6 (.slice eA 1 eC) 1 (EmV.cells ⟨c, ⟨2, ⟨0, 0, 0⟩, n⟩⟩))
set_option maxHeartbeats 32000000 in
theorem trigger_any {ra : Option Addr} {rc : Nat} {c rm : Int} (t : TkV) (n : Nat) (w : World) (h : TkIn w t) (hs : Src1 t c rm) (hr : IntsIn w ra [rm]) (hn1 : 1 ≤ n) (hn2 : n ≤ 4611686018427387904) (hn3 : t.done < n) :
    Calls Tryz.prog 22 #[.agg t.cells.toArray, .int .u64 n, .slice ra 1 rc] w fun e w' => TrgA t c n w e w' ∧ Upd0 w w' := by
  have hsz := TkV.csize h.o8
  have h8 := h.o8
  have hcl := fun (W : World) (b : Nat) => TkV.at (W := W) (b := b) h.o8
  obtain ⟨cs, hcs⟩ : ∃ cs, cs = t.cells.toArray := ⟨_, rfl⟩
  have HBG := Lib.hid (fun (W : World) (hW : Upd0 w W) => show Calls Tryz.prog 70 #[.agg t.cells.toArray, .slice ra 1 rc] W fun e w' => BeginA t [rm] W e w' ∧ Upd0 W w' from begin_any (rc := rc) t W (h.kept hW) (hr.kept hW) (by simp) (fun _ => hs.tag))
  rw [← hcs] at HBG hcl hsz ⊢
  have HSZ := Lib.hid hsz; have HS := Lib.hid hs; have HK := Lib.hid h; have HCL := Lib.hid hcl
  have hi1 : ¬ ((n : Int) < 1) := by omega
  have hi2 : ¬ ((4611686018427387904 : Int) < n) := by omega
  have hi3 : ¬ ((n : Int) ≤ t.done) := by omega
  have HTA := Lib.hid (fun (e : Ending) (w' : World) => show TrgA t c n w e w' = (∃ D : List Value, D.length = 18 ∧ (∀ v ∈ D, v.oneCell' = true) ∧ e = .returned (.tuple #[.agg ({ t with done := n } : TkV).cells.toArray, .agg D.toArray, .int .i64 0]) ∧
    (t.fin = false → ∃ eA eC na nc, D = deedV eA eC (snapOf { t with done := n } (selfR t).1 (selfR t).2.1 na nc).cells n false ∧ w'.ownsRow w.heap.size 97 6 (.slice eA 1 eC) 1 (EmV.cells ⟨c, ⟨2, ⟨0, 0, 0⟩, n⟩⟩))) from rfl)
  obtain ⟨b, hb⟩ : ∃ b, b = w.heap.size := ⟨_, rfl⟩
  obtain ⟨w1, hw1⟩ : ∃ w1, w1 = ((w.alloc (.cells cs 74)).alloc (.cells #[.slice none 0 0, .int .i64 0, .int .i64 0, .int .i64 0, .slice none 0 0, .int .i64 0, .int .i64 0, .int .i64 0, .int .i64 0, .int .i64 0, .int .i64 0, .int .i64 0, .int .i64 0, .slice none 0 0, .int .u64 0, .int .u64 0, .slice none 0 0, .int .i64 0, .int .i64 0, .int .i64 0, .bool false, .slice none 0 0, .int .u64 0, .bool false] 74)).alloc (.cells #[.slice none 0 0, .slice none 0 0, .int .i64 0, .int .i64 0, .int .i64 0, .bool false, .slice none 0 0, .int .i64 0, .int .i64 0, .int .i64 0, .int .i64 0, .int .i64 0, .int .i64 0, .int .i64 0, .int .i64 0, .slice none 0 0, .int .u64 0, .bool false] 82) := ⟨_, rfl⟩
  have hu1 : Upd0 w w1 := by rw [hw1]; exact (((Upd.refl _ w).alloc _).alloc _).alloc _
  have HT := Lib.hid (show w1.heap[b]? = some (.cells cs 74 (0, 0)) by rw [hw1, hb]; exact (alloc_lt (by simp <;> omega)).trans ((alloc_lt (by simp)).trans (alloc_at rfl)))
  have HX := Lib.hid (show w1.heap[b + 1]? = some (.cells #[.slice none 0 0, .int .i64 0, .int .i64 0, .int .i64 0, .slice none 0 0, .int .i64 0, .int .i64 0, .int .i64 0, .int .i64 0, .int .i64 0, .int .i64 0, .int .i64 0, .int .i64 0, .slice none 0 0, .int .u64 0, .int .u64 0, .slice none 0 0, .int .i64 0, .int .i64 0, .int .i64 0, .bool false, .slice none 0 0, .int .u64 0, .bool false] 74 (0, 0)) by rw [hw1, hb]; exact (alloc_lt (by simp)).trans (alloc_at (by simp)))
  have HY := Lib.hid (show w1.heap[b + 2]? = some (.cells #[.slice none 0 0, .slice none 0 0, .int .i64 0, .int .i64 0, .int .i64 0, .bool false, .slice none 0 0, .int .i64 0, .int .i64 0, .int .i64 0, .int .i64 0, .int .i64 0, .int .i64 0, .int .i64 0, .int .i64 0, .slice none 0 0, .int .u64 0, .bool false] 82 (0, 0)) by rw [hw1, hb]; exact alloc_at (by simp))
  have HU := Lib.hid hu1; have HB := Lib.hid hb
  clear h hr hsz hu1 hcs hs h8 hn1 hn2 hn3 hcl
  go_enter Tryz.func22, Tryz.ntmps22
  go_upto_region 1 with fail
  rw [← hw1, ← hb]
  clear hw1 hb
  iterate 1 go_step
  refine wpList_ldA rfl rfl rfl HT.out Tryz.underlying74 rfl HSZ.out ?_
  go_wp2_with (go_at_call 70; fail)
  (with_reducible refine (HBG.out w1 HU.out).mono ?_)
  rintro _ w2 ⟨⟨-, -, hb3⟩, hu2⟩
  obtain ⟨p, oA, oC, rA, rC, rfl, hp, hblk, hoo, hor, hap⟩ := hb3 HS.out.ck HS.out.rooms
  have HTN := Lib.hid (show TnAt w2 w1.heap.size p (turn0 t (selfR t).1 (selfR t).2.1 oA oC (OutR t.os t.sub).1 rA rC [rm]) from ⟨hblk, HK.out.o8, ⟨rfl, by intro v hv; simp only [turn0, zeroSn, List.mem_cons, List.not_mem_nil, or_false] at hv; rcases hv with rfl | rfl | rfl | rfl | rfl | rfl | rfl | rfl | rfl | rfl | rfl | rfl | rfl | rfl <;> rfl⟩, hoo, hor, ⟨rfl, .inl ⟨rfl, rfl⟩⟩, hap⟩)
  have HP := Lib.hid hp
  have HU2 := Lib.hid hu2
  have HT2 := Lib.hid ((hu2.block _ (lt_of_heap HT.out) (fun e => e)).trans HT.out)
  clear hb3 hp hblk hoo hor hap hu2 HT HBG
  obtain ⟨-, -, -, -, -, -, -, -, x22, x23⟩ := HCL.out _ _ HT2.out
  simp only []
  cases hf : t.fin
  · rw [hf] at x23
    obtain ⟨o0, o1, o2, o3, o4, o5, o6, o7, hmap⟩ := eight HTN.out.o8
    obtain ⟨-, -, -, -, -, -, -, -, -, -, -, -, -, -, -, -, -, -, -, -, -, -, -, -, x24, -, -, -, -, -, -, -, -, -, -⟩ := TnV.at hmap HTN.out.blk
    replace x24 : w2.cell? ⟨p, 24, none⟩ = some (.int .i64 1) := by
      rw [x24]
      exact congrArg (fun z => some (Value.int .i64 z)) HS.out.tag
    have HBR := Lib.hid (show Calls Tryz.prog 73 #[.pointer (some ⟨p, 0, none⟩), .agg #[.int .i64 2, .int .i64 0, .int .i64 0, .int .i64 0, .int .u64 n]] w2 fun e w' => BarA (turn0 t (selfR t).1 (selfR t).2.1 oA oC (OutR t.os t.sub).1 rA rC [rm]) ⟨2, ⟨0, 0, 0⟩, n⟩ w1 p e w' ∧ Upd0 w1 w' from barrier_any ⟨2, ⟨0, 0, 0⟩, n⟩ w2 HTN.out HP.out (HK.out.kept HU.out) HU2.out ⟨by simp [turn0, HS.out.out], by simp [turn0, HS.out.out], by simp [turn0], by intro r hr; simp only [turn0, List.mem_cons, List.not_mem_nil, or_false] at hr; subst hr; have := HS.out.rm1; have := HS.out.rm2; omega⟩ (by show (selfR t).1.tag ≠ 7; rw [HS.out.tag]; decide))
    clear hmap HTN
    go_wp2_with (go_at_call 73; fail)
    (with_reducible refine HBR.out.mono ?_)
    rintro _ w4 ⟨hra, hu4⟩
    have hem : emitR (turn0 t (selfR t).1 (selfR t).2.1 oA oC (OutR t.os t.sub).1 rA rC [rm]).out ⟨2, ⟨0, 0, 0⟩, n⟩ (turn0 t (selfR t).1 (selfR t).2.1 oA oC (OutR t.os t.sub).1 rA rC [rm]).rooms (turn0 t (selfR t).1 (selfR t).2.1 oA oC (OutR t.os t.sub).1 rA rC [rm]).ems (turn0 t (selfR t).1 (selfR t).2.1 oA oC (OutR t.os t.sub).1 rA rC [rm]).out = ([rm - 1], [⟨c, ⟨2, ⟨0, 0, 0⟩, n⟩⟩], 0) := by
      simp only [turn0]
      rw [HS.out.out]
      exact emit_one c rm _ HS.out.rm1
    unfold BarA at hra
    rw [hem] at hra
    obtain ⟨rfl, eA, eC, na, nc, hT, -⟩ := hra.2 rfl
    clear hem hra
    obtain ⟨T, hTe⟩ : ∃ T, T = ((turn0 t (selfR t).1 (selfR t).2.1 oA oC (OutR t.os t.sub).1 rA rC [rm]).emit [rm - 1] [⟨c, ⟨2, ⟨0, 0, 0⟩, n⟩⟩] eA eC).tell n na nc := ⟨_, rfl⟩
    have hT' : TnAt w4 w1.heap.size p T := by rw [hTe]; exact hT
    have HTN4 := Lib.hid hT'
    have HTT := Lib.hid (show T.t = { t with done := n } by rw [hTe]; rfl)
    have HTD := Lib.hid (show T.deed = deedV eA eC (snapOf { t with done := n } (selfR t).1 (selfR t).2.1 na nc).cells n false by rw [hTe]; rfl)
    have HEM := Lib.hid (show w4.ownsRow w.heap.size 97 6 (.slice eA 1 eC) 1 (EmV.cells ⟨c, ⟨2, ⟨0, 0, 0⟩, n⟩⟩) from ownsRow_low (by have q := hT'.ems; rw [hTe] at q; simpa [TnV.tell, TnV.emit] using q) HU.out.size)
    have HU4 := Lib.hid hu4
    have HX4 := Lib.hid ((hu4.block _ (lt_of_heap HX.out) (fun e => e)).trans HX.out)
    have HY4 := Lib.hid ((hu4.block _ (lt_of_heap HY.out) (fun e => e)).trans HY.out)
    clear hu4 hT hT' hTe HBR x24 x22 x23
    simp only []
    go_wp2_with (go_at_call 72; fail)
    have hdn := done0_any w4 HTN4.out
    have HST := Lib.hid (show (Tryz.prog.info? 74).map (·.size) = some T.t.cells.length by rw [sizeTk, TkV.clen HTN4.out.o8])
    have HSD := Lib.hid (show (Tryz.prog.info? 82).map (·.size) = some T.deed.length by rw [sizeDd, TnV.deed_len HTN4.out.snl.1])
    have HOT := Lib.hid (TkV.one T.t)
    have HOD := Lib.hid (TnV.deed_one HTN4.out.snl.2)
    have HLT := Lib.hid (TkV.clen HTN4.out.o8)
    have HLD := Lib.hid (TnV.deed_len HTN4.out.snl.1)
    obtain ⟨tc, htc⟩ : ∃ tc, tc = T.t.cells := ⟨_, rfl⟩
    obtain ⟨dc, hdc⟩ : ∃ dc, dc = T.deed := ⟨_, rfl⟩
    have HTC := Lib.hid (htc.trans (congrArg TkV.cells HTT.out))
    have HDC := Lib.hid (hdc.trans HTD.out)
    rw [← htc, ← hdc] at hdn
    rw [← htc] at HST HOT HLT
    rw [← hdc] at HSD HOD HLD
    refine hdn.mono ?_
    rintro _ w6 ⟨rfl, hu6⟩
    have HU6 := Lib.hid (HU4.out.trans hu6)
    have HX6 := Lib.hid ((hu6.block _ (lt_of_heap HX4.out) (fun e => e)).trans HX4.out)
    have HY6 := Lib.hid ((hu6.block _ (lt_of_heap HY4.out) (fun e => e)).trans HY4.out)
    have HEM6 := Lib.hid (ownsRow_any HEM.out hu6 (fun _ _ e => e))
    clear hdn htc hdc hu6 HX4 HY4 HEM HTN4 HTT HTD
    simp only []
    iterate 10 go_step
    have hx6 := HX6.out
    refine wpList_store_mid rfl 74 (.tmp 6) (.tmp 65) rfl (b + 1) 0 tc.toArray rfl rfl (by have q := there_block hx6; simpa [HLT.out] using q) (by simpa using HST.out) (all_oneCell_toArray HOT.out) ?_
    have hq7 := upd_setCells w6 (b + 1) 0 tc
    have hr7 := setCells_all hx6 (vs := tc) (by rw [HLT.out]; rfl)
    have hy7 := (hq7.block (b + 2) (lt_of_heap HY6.out) (by omega)).trans HY6.out
    rw [show tc.toArray.toList = tc from rfl]
    generalize hw7 : w6.setCells (b + 1) 0 tc = w7 at hq7 hr7 hy7 ⊢
    refine wpList_store_mid rfl 82 (.tmp 7) (.tmp 66) rfl (b + 2) 0 dc.toArray rfl rfl (by have q := there_block hy7; simpa [HLD.out] using q) (by simpa using HSD.out) (all_oneCell_toArray HOD.out) ?_
    have hq8 := upd_setCells w7 (b + 2) 0 dc
    have hr8 := setCells_all hy7 (vs := dc) (by rw [HLD.out]; rfl)
    have hx8 := (hq8.block (b + 1) (lt_of_heap hr7) (by omega)).trans hr7
    rw [show dc.toArray.toList = dc from rfl]
    generalize hw8 : w7.setCells (b + 2) 0 dc = w8 at hq8 hr8 hx8 ⊢
    have HQ7 := Lib.hid hq7; have HQ8 := Lib.hid hq8; have HR8 := Lib.hid hr8; have HX8 := Lib.hid hx8
    clear hq7 hr7 hy7 hq8 hr8 hx8 hx6 hw7 hw8
    go_wp2
    refine bodyPost_ret (results_cct (fn := Tryz.f22) rfl rfl (loadA HX8.out Tryz.underlying74 rfl HST.out) rfl (loadA HR8.out Tryz.underlying82 rfl HSD.out)) rfl ?_
    refine ⟨?_, ?_⟩
    · rw [HTA.out]
      refine ⟨dc, HLD.out, HOD.out, by rw [HTC.out]; rfl, fun _ => ⟨eA, eC, na, nc, HDC.out, ?_⟩⟩
      exact ownsRow_any (ownsRow_any HEM6.out HQ7.out (own_neT HEM6.out HX6.out (by decide))) HQ8.out (own_neT HEM6.out HY6.out (by decide))
    · exact ((HU.out.trans HU6.out).cut HQ7.out (fun q hq => by have := HB.out; omega)).cut HQ8.out (fun q hq => by have := HB.out; omega)
  · rw [hf] at x23
    have HTL := Lib.hid (tell_any n w2 HTN.out HP.out (HK.out.kept HU.out) HU2.out)
    clear HTN
    go_wp2_with (go_at_call 71; fail)
    (with_reducible refine HTL.out.mono ?_)
    rintro _ w4 ⟨rfl, na, nc, hT, -, hu4⟩
    obtain ⟨T, hTe⟩ : ∃ T, T = (turn0 t (selfR t).1 (selfR t).2.1 oA oC (OutR t.os t.sub).1 rA rC [rm]).tell n na nc := ⟨_, rfl⟩
    have HTN4 := Lib.hid (show TnAt w4 w1.heap.size p T by rw [hTe]; exact hT)
    have HTT := Lib.hid (show T.t = { t with done := n } by rw [hTe]; rfl)
    have HU4 := Lib.hid hu4
    have HX4 := Lib.hid ((hu4.block _ (lt_of_heap HX.out) (fun e => e)).trans HX.out)
    have HY4 := Lib.hid ((hu4.block _ (lt_of_heap HY.out) (fun e => e)).trans HY.out)
    clear hu4 hT hTe HTL x22 x23
    simp only []
    go_wp2_with (go_at_call 72; fail)
    have hdn := done0_any w4 HTN4.out
    have HST := Lib.hid (show (Tryz.prog.info? 74).map (·.size) = some T.t.cells.length by rw [sizeTk, TkV.clen HTN4.out.o8])
    have HSD := Lib.hid (show (Tryz.prog.info? 82).map (·.size) = some T.deed.length by rw [sizeDd, TnV.deed_len HTN4.out.snl.1])
    have HOT := Lib.hid (TkV.one T.t)
    have HOD := Lib.hid (TnV.deed_one HTN4.out.snl.2)
    have HLT := Lib.hid (TkV.clen HTN4.out.o8)
    have HLD := Lib.hid (TnV.deed_len HTN4.out.snl.1)
    obtain ⟨tc, htc⟩ : ∃ tc, tc = T.t.cells := ⟨_, rfl⟩
    obtain ⟨dc, hdc⟩ : ∃ dc, dc = T.deed := ⟨_, rfl⟩
    have HTC := Lib.hid (htc.trans (congrArg TkV.cells HTT.out))
    rw [← htc, ← hdc] at hdn
    rw [← htc] at HST HOT HLT
    rw [← hdc] at HSD HOD HLD
    refine hdn.mono ?_
    rintro _ w6 ⟨rfl, hu6⟩
    have HU6 := Lib.hid (HU4.out.trans hu6)
    have HX6 := Lib.hid ((hu6.block _ (lt_of_heap HX4.out) (fun e => e)).trans HX4.out)
    have HY6 := Lib.hid ((hu6.block _ (lt_of_heap HY4.out) (fun e => e)).trans HY4.out)
    clear hdn htc hdc hu6 HX4 HY4 HTN4 HTT
    simp only []
    iterate 10 go_step
    have hx6 := HX6.out
    refine wpList_store_mid rfl 74 (.tmp 6) (.tmp 47) rfl (b + 1) 0 tc.toArray rfl rfl (by have q := there_block hx6; simpa [HLT.out] using q) (by simpa using HST.out) (all_oneCell_toArray HOT.out) ?_
    have hq7 := upd_setCells w6 (b + 1) 0 tc
    have hr7 := setCells_all hx6 (vs := tc) (by rw [HLT.out]; rfl)
    have hy7 := (hq7.block (b + 2) (lt_of_heap HY6.out) (by omega)).trans HY6.out
    rw [show tc.toArray.toList = tc from rfl]
    generalize hw7 : w6.setCells (b + 1) 0 tc = w7 at hq7 hr7 hy7 ⊢
    refine wpList_store_mid rfl 82 (.tmp 7) (.tmp 48) rfl (b + 2) 0 dc.toArray rfl rfl (by have q := there_block hy7; simpa [HLD.out] using q) (by simpa using HSD.out) (all_oneCell_toArray HOD.out) ?_
    have hq8 := upd_setCells w7 (b + 2) 0 dc
    have hr8 := setCells_all hy7 (vs := dc) (by rw [HLD.out]; rfl)
    have hx8 := (hq8.block (b + 1) (lt_of_heap hr7) (by omega)).trans hr7
    rw [show dc.toArray.toList = dc from rfl]
    generalize hw8 : w7.setCells (b + 2) 0 dc = w8 at hq8 hr8 hx8 ⊢
    have HQ7 := Lib.hid hq7; have HQ8 := Lib.hid hq8; have HR8 := Lib.hid hr8; have HX8 := Lib.hid hx8
    clear hq7 hr7 hy7 hq8 hr8 hx8 hx6 hw7 hw8
    go_wp2
    refine bodyPost_ret (results_cct (fn := Tryz.f22) rfl rfl (loadA HX8.out Tryz.underlying74 rfl HST.out) rfl (loadA HR8.out Tryz.underlying82 rfl HSD.out)) rfl ?_
    refine ⟨?_, ?_⟩
    · rw [HTA.out]
      exact ⟨dc, HLD.out, HOD.out, by rw [HTC.out]; rfl, fun e => absurd (hf.symm.trans e) (by decide)⟩
    · exact ((HU.out.trans HU6.out).cut HQ7.out (fun q hq => by have := HB.out; omega)).cut HQ8.out (fun q hq => by have := HB.out; omega)
end Go.Proofs.YtbonfdkgkcbkmaaGreat
end

section
namespace Go.Proofs.YtbonfdkgkcbkmaaGreat
set_option maxRecDepth 100000
open Go.RowKit Go.Shelf

attribute [local go_sem] Oper.semAt_some
/-- A task that begins. -/
def newT (oa : Option Addr) (oc : Nat) (os : List OpM) (sub att : Int) (inp : InM) (s : SnV) : TkV := ⟨oa, oc, os, sub, att, inp, s.offs, none, 0, [], 0, 0, s.ta, s.tc, s.rows, ⟨0, 0, 0, false, none, 0, []⟩, 0, s.fin⟩
theorem built_lit2 (x0 x3 x4 x5 x6 x7 x8 x9 x10 x11 x12 x13 : Value) (sub att : Int) (fin : Bool) :
    Tryz.prog.built 74 [(0, .agg #[x0]), (1, .int .i64 sub), (2, .int .i64 att), (3, .agg #[x3, x4]), (4, .agg #[x5, x6, x7, x8, x9, x10, x11, x12]), (6, .agg #[x13]), (9, .bool fin)] = some #[x0, .int .i64 sub, .int .i64 att, x3, x4, x5, x6, x7, x8, x9, x10, x11, x12, .slice none 0 0, .int .u64 0, .int .u64 0, x13, .int .i64 0, .int .i64 0, .int .i64 0, .bool false, .slice none 0 0, .int .u64 0, .bool fin] := by kernel_rfl
def zeroTk : List Value := #[.slice none 0 0, .int .i64 0, .int .i64 0, .int .i64 0, .slice none 0 0, .int .i64 0, .int .i64 0, .int .i64 0, .int .i64 0, .int .i64 0, .int .i64 0, .int .i64 0, .int .i64 0, .slice none 0 0, .int .u64 0, .int .u64 0, .slice none 0 0, .int .i64 0, .int .i64 0, .int .i64 0, .bool false, .slice none 0 0, .int .u64 0, .bool false].toList
theorem zeroTk_one : ∀ v ∈ zeroTk, v.oneCell' = true := by
  intro v hv
  simp only [zeroTk, List.mem_cons, List.not_mem_nil, or_false] at hv
  rcases hv with rfl | rfl | rfl | rfl | rfl | rfl | rfl | rfl | rfl | rfl | rfl | rfl | rfl | rfl | rfl | rfl | rfl | rfl | rfl | rfl | rfl | rfl | rfl | rfl <;> rfl
theorem built_zt : Tryz.prog.built 74 [] = some zeroTk.toArray := by kernel_rfl
/-- What a new task answers, where all but the snapshot and the task itself may be. -/
def NewA (t : TkV) (ok : Bool) (e : Ending) : Prop := e = .returned (if ok then .tuple #[.agg t.cells.toArray, .int .i64 0] else .tuple #[.agg zeroTk.toArray, .int .i64 2])
set_option maxHeartbeats 32000000 in
theorem tnew_any {oa : Option Addr} {os : List OpM} {oc : Nat} (sub att : Int) (inp : InM) (s : SnV) (w : World) (h : TkIn w (newT oa oc os sub att inp s)) (hs : SnIn w s)
    (hck : (chkG os).2 = 0) (hth : (selfR (newT oa oc os sub att inp s)).2.2 = true) (htag : (selfR (newT oa oc os sub att inp s)).1.tag = 1) (ha1 : 1 ≤ att) (ha2 : att ≤ 1048576)
    (h1 : s.op = (selfR (newT oa oc os sub att inp s)).2.1.1) (h2 : s.idx = (selfR (newT oa oc os sub att inp s)).2.1.2) (h3 : s.wd = (selfR (newT oa oc os sub att inp s)).1.width) :
    Calls Tryz.prog 26 #[.agg #[.slice oa os.length oc], .int .i64 sub, .int .i64 att, .agg #[.int .i64 inp.src, .slice inp.ra inp.recs.length inp.rc], .agg s.cells.toArray] w fun e w' => NewA (newT oa oc os sub att inp s) (fitsSn os s && (chkSrc (newT oa oc os sub att inp s) == 0)) e ∧ Upd0 w w' := by
  have hol : os.length ≤ 50 := h.ol
  have hops : OpsIn w oa os := h.ops
  have hoc1 : os.length ≤ oc := h.oc1
  have hoc2 : oc ≤ maxLen := h.oc2
  have HFT := Lib.hid (fun (W : World) (hW : Upd0 w W) => sfits_any (oc := oc) s W (hops.kept hW) hol hoc1 hoc2 (hs.kept hW))
  have HGC := Lib.hid (fun (W : World) (hW : Upd0 w W) => gcheck_any (oc := oc) W (hops.kept hW) (by omega) hoc1 hoc2)
  obtain ⟨g1, hg1⟩ : ∃ g1, g1 = (chkG os).1 := ⟨_, rfl⟩
  rw [show chkG os = (g1, 0) from Prod.ext hg1.symm hck] at HGC
  simp only at HGC
  obtain ⟨t, ht⟩ : ∃ t, t = newT oa oc os sub att inp s := ⟨_, rfl⟩
  have hnc : (newT oa oc os sub att inp s).cells = [.slice oa os.length oc, .int .i64 sub, .int .i64 att, .int .i64 inp.src, .slice inp.ra inp.recs.length inp.rc] ++ s.offs.map I ++ [.slice none 0 0, .int .u64 0, .int .u64 0, .slice s.ta s.rows.length s.tc, .int .i64 0, .int .i64 0, .int .i64 0, .bool false, .slice none 0 0, .int .u64 0, .bool s.fin] := rfl
  rw [← ht] at h hth htag h1 h2 h3 hnc ⊢
  have h8 := h.o8
  have HSELF := Lib.hid (fun (W : World) (hW : Upd0 w W) => self_any t W (h.kept hW))
  have HCHK := Lib.hid (fun (W : World) (hW : Upd0 w W) => checksrc_any t W (h.kept hW) (fun _ => htag))
  have hsz := TkV.csize h8
  have hlen := TkV.clen h8
  have HONE := Lib.hid (TkV.one t)
  obtain ⟨o0, o1, o2, o3, o4, o5, o6, o7, hmap⟩ := eight hs.o8
  have hsl := SnV.lit hmap
  have hbt := built_lit2 (.slice oa os.length oc) (.int .i64 inp.src) (.slice inp.ra inp.recs.length inp.rc) (.int .i64 o0) (.int .i64 o1) (.int .i64 o2) (.int .i64 o3) (.int .i64 o4) (.int .i64 o5) (.int .i64 o6) (.int .i64 o7) (.slice s.ta s.rows.length s.tc) sub att s.fin
  have hm2 : s.offs.map I = [.int .i64 o0, .int .i64 o1, .int .i64 o2, .int .i64 o3, .int .i64 o4, .int .i64 o5, .int .i64 o6, .int .i64 o7] := by
    have := congrArg Array.toList hmap
    simpa using this
  rw [hm2] at hnc
  obtain ⟨cl, hcl⟩ : ∃ cl, cl = t.cells := ⟨_, rfl⟩
  rw [← hcl] at HSELF HCHK hsz hlen HONE hnc
  have hnc2 : #[.slice oa os.length oc, .int .i64 sub, .int .i64 att, .int .i64 inp.src, .slice inp.ra inp.recs.length inp.rc, .int .i64 o0, .int .i64 o1, .int .i64 o2, .int .i64 o3, .int .i64 o4, .int .i64 o5, .int .i64 o6, .int .i64 o7, .slice none 0 0, .int .u64 0, .int .u64 0, .slice s.ta s.rows.length s.tc, .int .i64 0, .int .i64 0, .int .i64 0, .bool false, .slice none 0 0, .int .u64 0, .bool s.fin] = cl.toArray := by rw [hnc]; rfl
  rw [hnc2] at hbt
  have HBT := Lib.hid hbt
  have HSZ := Lib.hid hsz; have HLN := Lib.hid hlen
  rw [hsl] at HFT ⊢
  obtain ⟨zt, hzt⟩ : ∃ zt, zt = zeroTk.toArray := ⟨_, rfl⟩
  have HZT := Lib.hid hzt
  obtain ⟨b, hb⟩ : ∃ b, b = w.heap.size := ⟨_, rfl⟩
  obtain ⟨w1, hw1⟩ : ∃ w1, w1 = (((w.alloc (.cells #[.slice oa os.length oc] 24)).alloc (.cells #[.int .i64 inp.src, .slice inp.ra inp.recs.length inp.rc] 41)).alloc (.cells #[.int .i64 s.op, .int .i64 s.idx, .int .i64 s.wd, .bool s.fin, .slice s.ta s.rows.length s.tc, .int .i64 o0, .int .i64 o1, .int .i64 o2, .int .i64 o3, .int .i64 o4, .int .i64 o5, .int .i64 o6, .int .i64 o7, .slice s.na s.names.length s.nc] 80)).alloc (.cells #[.slice none 0 0, .int .i64 0, .int .i64 0, .int .i64 0, .slice none 0 0, .int .i64 0, .int .i64 0, .int .i64 0, .int .i64 0, .int .i64 0, .int .i64 0, .int .i64 0, .int .i64 0, .slice none 0 0, .int .u64 0, .int .u64 0, .slice none 0 0, .int .i64 0, .int .i64 0, .int .i64 0, .bool false, .slice none 0 0, .int .u64 0, .bool false] 74) := ⟨_, rfl⟩
  have hu1 : Upd0 w w1 := by rw [hw1]; exact ((((Upd.refl _ w).alloc _).alloc _).alloc _).alloc _
  have HX := Lib.hid (show w1.heap[b + 3]? = some (.cells zt 74 (0, 0)) by rw [hw1, hb, hzt]; exact alloc_at (by simp))
  have HGB := Lib.hid (show w1.heap[b]? = some (.cells #[.slice oa os.length oc] 24 (0, 0)) by rw [hw1, hb]; exact (alloc_lt (by simp <;> omega)).trans ((alloc_lt (by simp <;> omega)).trans ((alloc_lt (by simp)).trans (alloc_at rfl))))
  have HIB := Lib.hid (show w1.heap[b + 1]? = some (.cells #[.int .i64 inp.src, .slice inp.ra inp.recs.length inp.rc] 41 (0, 0)) by rw [hw1, hb]; exact (alloc_lt (by simp <;> omega)).trans ((alloc_lt (by simp)).trans (alloc_at (by simp))))
  have HSB := Lib.hid (show w1.heap[b + 2]? = some (.cells #[.int .i64 s.op, .int .i64 s.idx, .int .i64 s.wd, .bool s.fin, .slice s.ta s.rows.length s.tc, .int .i64 o0, .int .i64 o1, .int .i64 o2, .int .i64 o3, .int .i64 o4, .int .i64 o5, .int .i64 o6, .int .i64 o7, .slice s.na s.names.length s.nc] 80 (0, 0)) by rw [hw1, hb]; exact (alloc_lt (by simp)).trans (alloc_at (by simp)))
  have HU := Lib.hid hu1; have HB := Lib.hid hb
  have HNA := Lib.hid (fun (e : Ending) => NewA.eq_1 t (fitsSn os s && (chkSrc t == 0)) e)
  obtain ⟨fs, hfs⟩ : ∃ fs, fs = fitsSn os s := ⟨_, rfl⟩
  obtain ⟨ck, hckk⟩ : ∃ ck, ck = chkSrc t := ⟨_, rfl⟩
  rw [← hfs] at HFT
  rw [← hckk] at HCHK
  rw [← hfs, ← hckk] at HNA ⊢
  rw [← hcl] at HNA
  obtain ⟨sr, hsr⟩ : ∃ sr, sr = selfR t := ⟨_, rfl⟩
  rw [← hsr] at HSELF hth htag h1 h2 h3
  obtain ⟨o, ⟨s1, s2⟩, th⟩ := sr
  simp only at HSELF hth htag h1 h2 h3
  subst hth
  have HO1 := Lib.hid h1; have HO2 := Lib.hid h2; have HO3 := Lib.hid h3; have HTG := Lib.hid htag; have HA1 := Lib.hid ha1; have HA2 := Lib.hid ha2
  clear h1 h2 h3 htag ha1 ha2
  have HZS := Lib.hid (show (Tryz.prog.info? 74).map (·.size) = some zeroTk.length by rw [sizeTk]; rfl)
  clear h hs hck hg1 hops hol hoc1 hoc2 ht hnc hnc2 hbt hsz hlen hm2 hmap hsl hcl hzt hu1 hfs hckk hsr h8
  go_enter Tryz.func26, Tryz.ntmps26
  go_upto_region 1 with fail
  rw [← hw1, ← hb]
  clear hw1 hb
  have c0 := cells1_of HGB.out
  go_wp2_with (go_at_call 82; fail)
  (with_reducible refine (HGC.out w1 HU.out).mono ?_)
  rintro _ w2 ⟨rfl, hu2⟩
  have HU2 := Lib.hid (HU.out.trans hu2)
  have HX2 := Lib.hid ((hu2.block _ (lt_of_heap HX.out) (fun e => e)).trans HX.out)
  have HGB2 := Lib.hid ((hu2.block _ (lt_of_heap HGB.out) (fun e => e)).trans HGB.out)
  have HIB2 := Lib.hid ((hu2.block _ (lt_of_heap HIB.out) (fun e => e)).trans HIB.out)
  have HSB2 := Lib.hid ((hu2.block _ (lt_of_heap HSB.out) (fun e => e)).trans HSB.out)
  clear hu2 HGC HX HGB HIB HSB c0 HU
  have c0 := cells1_of HGB2.out
  obtain ⟨i0, i1⟩ := cells2_of HIB2.out
  obtain ⟨x0, x1, x2, x3, x4, x5, x6, x7, x8, x9, x10, x11, x12, x13⟩ := cells14_of HSB2.out
  simp only []
  go_upto_region 4 with fail
  iterate 31 go_step
  have hbt := HBT.out
  refine wpList_bd (cells := cl.toArray) rfl rfl (by go_simp) ?_
  clear hbt c0 i0 i1 x0 x1 x2 x3 x4 x5 x6 x7 x8 x9 x10 x11 x12 x13
  iterate 3 go_step
  have hz3 := alloc_at (w := w2) (o := .cells #[.slice none 0 0, .int .i64 0, .int .i64 0, .int .i64 0, .slice none 0 0, .int .i64 0, .int .i64 0, .int .i64 0, .int .i64 0, .int .i64 0, .int .i64 0, .int .i64 0, .int .i64 0, .slice none 0 0, .int .u64 0, .int .u64 0, .slice none 0 0, .int .i64 0, .int .i64 0, .int .i64 0, .bool false, .slice none 0 0, .int .u64 0, .bool false] 74) rfl
  have hu3 : Upd0 w2 (w2.alloc (.cells #[.slice none 0 0, .int .i64 0, .int .i64 0, .int .i64 0, .slice none 0 0, .int .i64 0, .int .i64 0, .int .i64 0, .int .i64 0, .int .i64 0, .int .i64 0, .int .i64 0, .int .i64 0, .slice none 0 0, .int .u64 0, .int .u64 0, .slice none 0 0, .int .i64 0, .int .i64 0, .int .i64 0, .bool false, .slice none 0 0, .int .u64 0, .bool false] 74)) := (Upd.refl _ w2).alloc _
  obtain ⟨tb, htb⟩ : ∃ tb, tb = w2.heap.size := ⟨_, rfl⟩
  generalize hw3 : w2.alloc (.cells #[.slice none 0 0, .int .i64 0, .int .i64 0, .int .i64 0, .slice none 0 0, .int .i64 0, .int .i64 0, .int .i64 0, .int .i64 0, .int .i64 0, .int .i64 0, .int .i64 0, .int .i64 0, .slice none 0 0, .int .u64 0, .int .u64 0, .slice none 0 0, .int .i64 0, .int .i64 0, .int .i64 0, .bool false, .slice none 0 0, .int .u64 0, .bool false] 74) = w3 at hz3 hu3 ⊢
  rw [← htb] at hz3 ⊢
  have HTB := Lib.hid htb
  clear hw3 htb
  refine wpList_store_mid rfl 74 (.tmp 14) (.tmp 42) rfl tb 0 cl.toArray rfl rfl (by have q := there_block hz3; simpa [HLN.out] using q) HSZ.out (all_oneCell_toArray HONE.out) ?_
  have hq4 := upd_setCells w3 tb 0 cl
  have hr4 := setCells_all hz3 (vs := cl) (by rw [HLN.out]; rfl)
  rw [show cl.toArray.toList = cl from rfl]
  generalize hw4 : w3.setCells tb 0 cl = w4 at hq4 hr4 ⊢
  have HT4 := Lib.hid hr4
  have hu4 : Upd (fun q => q = tb) w2 w4 := (hu3.mono (fun _ _ e => e.elim)).trans hq4
  have HU4 := Lib.hid (HU2.out.cut hu4 (fun q hq => by have := HTB.out; have := HU2.out.size; omega))
  have HX4 := Lib.hid ((hu4.block _ (lt_of_heap HX2.out) (by have := HTB.out; have := lt_of_heap HX2.out; omega)).trans HX2.out)
  have HGB4 := Lib.hid ((hu4.block _ (lt_of_heap HGB2.out) (by have := HTB.out; have := lt_of_heap HGB2.out; omega)).trans HGB2.out)
  have HSB4 := Lib.hid ((hu4.block _ (lt_of_heap HSB2.out) (by have := HTB.out; have := lt_of_heap HSB2.out; omega)).trans HSB2.out)
  clear hz3 hu3 hq4 hr4 hw4 hu4 HX2 HGB2 HIB2 HSB2
  go_upto_region 5 with fail
  iterate 1 go_step
  refine wpList_ldA rfl rfl rfl HT4.out Tryz.underlying74 rfl HSZ.out ?_
  go_wp2_with (go_at_call 83; fail)
  (with_reducible refine (HSELF.out w4 HU4.out).mono ?_)
  rintro _ w5 ⟨rfl, hu5⟩
  obtain ⟨w6, hw6⟩ : ∃ w6, w6 = (w5.alloc (.cells #[.int .i64 o.tag, .int .i64 o.width, .slice o.ia o.ins.length o.ic, .int .i64 o.a, .int .i64 o.b] 89)).alloc (.cells #[.int .i64 s1, .int .i64 s2] 124) := ⟨_, rfl⟩
  obtain ⟨ob, hob⟩ : ∃ ob, ob = w5.heap.size := ⟨_, rfl⟩
  have hu6 : Upd0 w4 w6 := by rw [hw6]; exact (hu5.alloc _).alloc _
  have HU6 := Lib.hid (HU4.out.trans hu6)
  have HT6 := Lib.hid ((hu6.block _ (lt_of_heap HT4.out) (fun e => e)).trans HT4.out)
  have HX6 := Lib.hid ((hu6.block _ (lt_of_heap HX4.out) (fun e => e)).trans HX4.out)
  have HGB6 := Lib.hid ((hu6.block _ (lt_of_heap HGB4.out) (fun e => e)).trans HGB4.out)
  have HSB6 := Lib.hid ((hu6.block _ (lt_of_heap HSB4.out) (fun e => e)).trans HSB4.out)
  have HP6 := Lib.hid (show w6.heap[ob]? = some (.cells #[.int .i64 o.tag, .int .i64 o.width, .slice o.ia o.ins.length o.ic, .int .i64 o.a, .int .i64 o.b] 89 (0, 0)) by rw [hw6, hob]; exact (alloc_lt (by simp)).trans (alloc_at rfl))
  have HS6 := Lib.hid (show w6.heap[ob + 1]? = some (.cells #[.int .i64 s1, .int .i64 s2] 124 (0, 0)) by rw [hw6, hob]; exact alloc_at (by simp))
  clear hu5 hu6 HT4 HX4 HGB4 HSB4 HSELF
  have c0 := cells1_of HGB6.out
  obtain ⟨p0, p1, -, -, -⟩ := cells5_of HP6.out
  obtain ⟨q0, q1⟩ := cells2_of HS6.out
  obtain ⟨x0, x1, x2, x3, x4, x5, x6, x7, x8, x9, x10, x11, x12, x13⟩ := cells14_of HSB6.out
  have e1 : (s.op != s1) = false := by simp [HO1.out]
  have e2 : (s.idx != s2) = false := by simp [HO2.out]
  have e3 : (s.wd != o.width) = false := by simp [HO3.out]
  have e4 : ¬ att < 1 := by have := HA1.out; omega
  have e5 : ¬ 1048576 < att := by have := HA2.out; omega
  have e6 : (o.tag != 1) = false := by simp [HTG.out]
  have e7 : (o.tag == 7) = false := by simp [HTG.out]
  simp only []
  go_upto_region 6 with fail
  rw [← hw6, ← hob]
  clear hw6 hob
  go_wp2_with (go_at_call 84; fail)
  (with_reducible refine (HFT.out w6 HU6.out).mono ?_)
  rintro _ w7 ⟨rfl, hu7⟩
  have HU7 := Lib.hid (HU6.out.trans hu7)
  have HT7 := Lib.hid ((hu7.block _ (lt_of_heap HT6.out) (fun e => e)).trans HT6.out)
  have HX7 := Lib.hid ((hu7.block _ (lt_of_heap HX6.out) (fun e => e)).trans HX6.out)
  have HP7 := Lib.hid ((hu7.block _ (lt_of_heap HP6.out) (fun e => e)).trans HP6.out)
  clear hu7 HT6 HX6 HGB6 HSB6 HP6 HS6 HFT c0 p0 p1 q0 q1 x0 x1 x2 x3 x4 x5 x6 x7 x8 x9 x10 x11 x12 x13 e1 e2 e3 e4 e5
  obtain ⟨p0, -, -, -, -⟩ := cells5_of HP7.out
  simp only []
  cases fs
  · go_upto_region 7 with fail
    iterate 1 go_step
    refine wpList_bd (cells := zeroTk.toArray) rfl rfl (by have hbt := built_zt; go_simp) ?_
    have hx := HX7.out
    refine wpList_store_mid rfl 74 (.tmp 10) (.tmp 86) rfl (b + 3) 0 zeroTk.toArray rfl rfl (there_mid hx (by rw [HZT.out]; simp [zeroTk, zeroTk])) (by simpa using HZS.out) (all_oneCell_toArray zeroTk_one) ?_
    have hq9 := upd_setCells w7 (b + 3) 0 zeroTk
    have hr9 := setCells_all hx (vs := zeroTk) (by rw [HZT.out]; simp [zeroTk, zeroTk])
    rw [show zeroTk.toArray.toList = zeroTk from rfl]
    generalize hw9 : w7.setCells (b + 3) 0 zeroTk = w9 at hq9 hr9 ⊢
    have HQ9 := Lib.hid hq9; have HR9 := Lib.hid hr9
    clear hx hq9 hr9 hw9
    go_wp2
    refine bodyPost_ret (results_ct (fn := Tryz.f26) rfl rfl (loadA HR9.out Tryz.underlying74 rfl HZS.out)) rfl ?_
    refine ⟨?_, ?_⟩
    · rw [HNA.out]
      rfl
    · exact HU7.out.cut HQ9.out (fun q hq => by have := HB.out; omega)
  · go_upto_region 21 with fail
    iterate 1 go_step
    refine wpList_ldA rfl rfl rfl HT7.out Tryz.underlying74 rfl HSZ.out ?_
    go_wp2_with (go_at_call 87; fail)
    (with_reducible refine (HCHK.out w7 HU7.out).mono ?_)
    rintro _ w8 ⟨rfl, hu8⟩
    have HU8 := Lib.hid (HU7.out.trans hu8)
    have HT8 := Lib.hid ((hu8.block _ (lt_of_heap HT7.out) (fun e => e)).trans HT7.out)
    have HX8 := Lib.hid ((hu8.block _ (lt_of_heap HX7.out) (fun e => e)).trans HX7.out)
    clear hu8 HT7 HX7 HP7 HCHK p0 e6 e7
    simp only []
    by_cases hz : ck = 0
    · subst hz
      go_upto_region 23 with fail
      iterate 1 go_step
      refine wpList_ldA rfl rfl rfl HT8.out Tryz.underlying74 rfl HSZ.out ?_
      have hx := HX8.out
      refine wpList_store_mid rfl 74 (.tmp 10) (.tmp 140) rfl (b + 3) 0 cl.toArray rfl rfl (there_mid hx (by rw [HZT.out]; simp [HLN.out, zeroTk])) (by simpa using HSZ.out) (all_oneCell_toArray HONE.out) ?_
      have hq9 := upd_setCells w8 (b + 3) 0 cl
      have hr9 := setCells_all hx (vs := cl) (by rw [HZT.out]; simp [HLN.out, zeroTk])
      rw [show cl.toArray.toList = cl from rfl]
      generalize hw9 : w8.setCells (b + 3) 0 cl = w9 at hq9 hr9 ⊢
      have HQ9 := Lib.hid hq9; have HR9 := Lib.hid hr9
      clear hx hq9 hr9 hw9
      go_wp2
      refine bodyPost_ret (results_ct (fn := Tryz.f26) rfl rfl (loadA HR9.out Tryz.underlying74 rfl HSZ.out)) rfl ?_
      refine ⟨?_, ?_⟩
      · rw [HNA.out]
        rfl
      · exact HU8.out.cut HQ9.out (fun q hq => by have := HB.out; omega)
    · have hz' : (ck != 0) = true := by simpa using hz
      go_upto_region 22 with fail
      iterate 1 go_step
      refine wpList_bd (cells := zeroTk.toArray) rfl rfl (by have hbt := built_zt; go_simp) ?_
      have hx := HX8.out
      refine wpList_store_mid rfl 74 (.tmp 10) (.tmp 139) rfl (b + 3) 0 zeroTk.toArray rfl rfl (there_mid hx (by rw [HZT.out]; simp [zeroTk, zeroTk])) (by simpa using HZS.out) (all_oneCell_toArray zeroTk_one) ?_
      have hq9 := upd_setCells w8 (b + 3) 0 zeroTk
      have hr9 := setCells_all hx (vs := zeroTk) (by rw [HZT.out]; simp [zeroTk, zeroTk])
      rw [show zeroTk.toArray.toList = zeroTk from rfl]
      generalize hw9 : w8.setCells (b + 3) 0 zeroTk = w9 at hq9 hr9 ⊢
      have HQ9 := Lib.hid hq9; have HR9 := Lib.hid hr9
      clear hx hq9 hr9 hw9
      go_wp2
      refine bodyPost_ret (results_ct (fn := Tryz.f26) rfl rfl (loadA HR9.out Tryz.underlying74 rfl HZS.out)) rfl ?_
      refine ⟨?_, ?_⟩
      · rw [HNA.out, show (true && (ck == 0)) = false by simp [hz]]
        rfl
      · exact HU8.out.cut HQ9.out (fun q hq => by have := HB.out; omega)
end Go.Proofs.YtbonfdkgkcbkmaaGreat
end

section
namespace Go.Proofs.YtbonfdkgkcbkmaaGreat
set_option maxRecDepth 100000
open Go.RowKit Go.Shelf

attribute [local go_sem] Oper.semAt_some
/-- A row built anew. -/
theorem Row.new {s n : Nat} (w : World) (e : TypeId) (els : List (List Value)) (hs : 0 < s) (hl : ∀ y ∈ els, y.length = s) (hn : els.length = n) (hm : n ≤ maxLen) : Row s (w.alloc (.cells els.flatten.toArray e)) (some ⟨w.heap.size, 0, none⟩) els :=
  Row.of_ownK (B := w.heap.size) (e := e) (n := n) (c := n) hs (own_new (s := s) (n := n) e (cs := els.flatten.toArray) (Nat.le_refl _) hm (by
    have : ∀ l : List (List Value), (∀ y ∈ l, y.length = s) → l.flatten.length = l.length * s := by
      intro l
      induction l with
      | nil => intro _; simp
      | cons a l ih => intro h; simp [h a (by simp), ih (fun y hy => h y (by simp [hy])), Nat.add_mul]; omega
    simp [this els hl, hn])) hl hn
/-- A small graph. -/
def smallG (ia ib : Option Addr) : List OpM := [⟨1, 1, none, 0, [], 0, 0⟩, ⟨4, 1, ia, 1, [0], 0, 0⟩, ⟨7, 1, ib, 1, [1], 0, 0⟩]
theorem Row.of_block {s n : Nat} {w : World} {b : Nat} (e : TypeId) {els : List (List Value)} (h : w.heap[b]? = some (.cells els.flatten.toArray e (0, 0))) (hs : 0 < s) (hl : ∀ y ∈ els, y.length = s) (hn : els.length = n) (hm : n ≤ maxLen) : Row s w (some ⟨b, 0, none⟩) els := by
  have hfl : els.flatten.length = n * s := by
    have : ∀ l : List (List Value), (∀ y ∈ l, y.length = s) → l.flatten.length = l.length * s := by
      intro l
      induction l with
      | nil => intro _; simp
      | cons a l ih => intro h; simp [h a (by simp), ih (fun y hy => h y (by simp [hy])), Nat.add_mul]; omega
    rw [this els hl, hn]
  exact Row.of_ownK (B := 0) (e := e) (n := n) (c := n) hs ⟨hfl, .inr ⟨b, n, _, rfl, Nat.zero_le _, h, Nat.le_refl _, hm, by simp [hfl], by rw [← hfl]; exact List.take_of_length_le (by simp)⟩⟩ hl hn
/-- A small graph in memory. -/
structure SmAt (W : World) (g : Nat) : Prop where
  h1 : W.heap[g]? = some (.cells #[.int .i64 0] 3 (0, 0))
  h2 : W.heap[g + 1]? = some (.cells #[.int .i64 1] 3 (0, 0))
  h3 : W.heap[g + 2]? = some (.cells ((smallG (some ⟨g, 0, none⟩) (some ⟨g + 1, 0, none⟩)).map OpM.cells).flatten.toArray 89 (0, 0))
theorem SmAt.ops {W : World} {g : Nat} (h : SmAt W g) : OpsIn W (some ⟨g + 2, 0, none⟩) (smallG (some ⟨g, 0, none⟩) (some ⟨g + 1, 0, none⟩)) := by
  refine ⟨Row.of_block (s := 5) (n := 3) 89 h.h3 (by omega) (by simp [smallG, OpM.cells]) rfl (by unfold maxLen; omega), ?_⟩
  intro o ho
  simp only [smallG, List.mem_cons, List.not_mem_nil, or_false] at ho
  rcases ho with rfl | rfl | rfl
  · exact ⟨Row.nil _ _ _, by simp⟩
  · exact ⟨Row.of_block (s := 1) (n := 1) (els := [[.int .i64 0]]) 3 h.h1 (by omega) (by simp) rfl (by unfold maxLen; omega), by simp⟩
  · exact ⟨Row.of_block (s := 1) (n := 1) (els := [[.int .i64 1]]) 3 h.h2 (by omega) (by simp) rfl (by unfold maxLen; omega), by simp⟩
theorem SmAt.kept {W W' : World} {g : Nat} (h : SmAt W g) (hu : Upd0 W W') : SmAt W' g :=
  ⟨(hu.block _ (lt_of_heap h.h1) (fun e => e)).trans h.h1, (hu.block _ (lt_of_heap h.h2) (fun e => e)).trans h.h2, (hu.block _ (lt_of_heap h.h3) (fun e => e)).trans h.h3⟩
theorem blk_ne {W : World} {p q : Nat} {cs ds : Array Value} {t u : TypeId} (h : W.heap[p]? = some (.cells cs t (0, 0))) (k : W.heap[q]? = some (.cells ds u (0, 0))) (ht : t ≠ u) : ¬ p = q := by
  rintro rfl
  rw [h] at k
  injection k with k
  injection k with _ k
  exact ht k
theorem SmAt.upd {W W' : World} {g bo : Nat} {cs : Array Value} {t : TypeId} (h : SmAt W g) (hu : Upd (fun q => q = bo) W W') (hx : W.heap[bo]? = some (.cells cs t (0, 0))) (h1 : 3 ≠ t) (h2 : 89 ≠ t) : SmAt W' g :=
  ⟨(hu.block _ (lt_of_heap h.h1) (blk_ne h.h1 hx h1)).trans h.h1, (hu.block _ (lt_of_heap h.h2) (blk_ne h.h2 hx h1)).trans h.h2, (hu.block _ (lt_of_heap h.h3) (blk_ne h.h3 hx h2)).trans h.h3⟩
set_option maxHeartbeats 16000000 in
theorem small_any (w : World) : Calls Tryz.prog 69 #[] w fun e w' => ∃ g, e = .returned (.agg #[.slice (some ⟨g + 2, 0, none⟩) 3 3]) ∧ SmAt w' g ∧ Upd0 w w' := by
  go_enter Tryz.func69, Tryz.ntmps69
  go_wp2
  obtain ⟨b, hb⟩ : ∃ b, b = w.heap.size := ⟨_, rfl⟩
  obtain ⟨wa, hwa⟩ : ∃ wa, wa = w.alloc (.cells #[.slice (some ⟨w.heap.size + 1 + 1 + 1, 0, none⟩) 3 3] 24) := ⟨_, rfl⟩
  have ha0 : wa.heap.size = b + 1 := by rw [hwa, hb]; simp
  have hua : Upd0 w wa := by rw [hwa]; exact (Upd.refl _ w).alloc _
  have hga : wa.heap[b]? = some (.cells #[.slice (some ⟨b + 1 + 1 + 1, 0, none⟩) 3 3] 24 (0, 0)) := by rw [hwa, hb]; exact alloc_at rfl
  rw [← hwa, ← hb]
  clear hwa
  have hsm : SmAt (((wa.alloc (.cells #[.int .i64 0] 3)).alloc (.cells #[.int .i64 1] 3)).alloc (.cells ((smallG (some ⟨b + 1, 0, none⟩) (some ⟨b + 1 + 1, 0, none⟩)).map OpM.cells).flatten.toArray 89)) (b + 1) :=
    ⟨(alloc_lt (by simp <;> omega)).trans ((alloc_lt (by simp <;> omega)).trans (alloc_at ha0.symm)), (alloc_lt (by simp <;> omega)).trans (alloc_at (by simp [ha0])), alloc_at (by simp [ha0])⟩
  have hud : Upd0 wa (((wa.alloc (.cells #[.int .i64 0] 3)).alloc (.cells #[.int .i64 1] 3)).alloc (.cells ((smallG (some ⟨b + 1, 0, none⟩) (some ⟨b + 1 + 1, 0, none⟩)).map OpM.cells).flatten.toArray 89)) := (((Upd.refl _ wa).alloc _).alloc _).alloc _
  refine (?_ : bodyPost _ _ _ _ _ (((wa.alloc (.cells #[.int .i64 0] 3)).alloc (.cells #[.int .i64 1] 3)).alloc (.cells ((smallG (some ⟨b + 1, 0, none⟩) (some ⟨b + 1 + 1, 0, none⟩)).map OpM.cells).flatten.toArray 89)))
  generalize (((wa.alloc (.cells #[.int .i64 0] 3)).alloc (.cells #[.int .i64 1] 3)).alloc (.cells ((smallG (some ⟨b + 1, 0, none⟩) (some ⟨b + 1 + 1, 0, none⟩)).map OpM.cells).flatten.toArray 89)) = wd at hsm hud ⊢
  have hg := (hud.block b (lt_of_heap hga) (fun e => e)).trans hga
  exact bodyPost_ret (results_c (fn := Tryz.f69) rfl rfl (loadA (cs := [_]) hg Tryz.underlying24 rfl (by kernel_rfl))) rfl ⟨b + 1, rfl, hsm, hua.trans hud⟩
end Go.Proofs.YtbonfdkgkcbkmaaGreat
end

section
namespace Go.Proofs.YtbonfdkgkcbkmaaGreat
set_option maxRecDepth 100000
open Go.RowKit Go.Shelf

/-- A snapshot where nothing is. -/
def snap0 (idx wd : Int) : SnV := ⟨0, idx, wd, false, none, 0, [], zer8, none, 0, []⟩
def smallX (ra : Option Addr) (rc : Nat) : InM := ⟨0, ra, rc, [⟨0, 1, 2⟩]⟩
def smallT (ga ia ib ra : Option Addr) (rc : Nat) : TkV := newT ga 3 (smallG ia ib) 0 1 (smallX ra rc) (snap0 0 1)
theorem small_chk (ia ib : Option Addr) : (chkG (smallG ia ib)).2 = 0 := by kernel_rfl
theorem small_self (ga ia ib ra : Option Addr) (rc : Nat) : selfR (smallT ga ia ib ra rc) = (⟨1, 1, none, 0, [], 0, 0⟩, (0, 0), true) := by kernel_rfl
theorem small_fits (ia ib : Option Addr) : fitsSn (smallG ia ib) (snap0 0 1) = true := by kernel_rfl
theorem small_ok (ga ia ib ra : Option Addr) (rc : Nat) : chkSrc (smallT ga ia ib ra rc) = 0 := by kernel_rfl
theorem small_out (ia ib : Option Addr) : OutR (smallG ia ib) 0 = ([0], 0) := by kernel_rfl
theorem small_route (ia ib : Option Addr) : RouteR (smallG ia ib) 0 ⟨0, 1, 2⟩ = ([0], 0) := by kernel_rfl
theorem small_next (ra : Option Addr) (rc : Nat) : NextR (smallX ra rc) zer8 0 1 = (⟨0, 1, 2⟩, 1, true, 0) := by kernel_rfl
theorem small_next2 (ra : Option Addr) (rc : Nat) : NextR (smallX ra rc) [0, 1, 0, 0, 0, 0, 0, 0] 0 1 = (⟨0, 0, 0⟩, 0, false, 0) := by kernel_rfl
theorem small_ok2 (ga ia ib ra : Option Addr) (rc : Nat) : chkSrc { smallT ga ia ib ra rc with offs := [0, 1, 0, 0, 0, 0, 0, 0] } = 0 := by kernel_rfl
theorem small_stp (ga ia ib ra : Option Addr) (rc : Nat) : StpV (smallT ga ia ib ra rc) = ({ smallT ga ia ib ra rc with offs := [0, 1, 0, 0, 0, 0, 0, 0] }, ⟨1, ⟨0, 1, 2⟩, 0⟩, false) := by kernel_rfl
theorem small_stp2 (ga ia ib ra : Option Addr) (rc : Nat) : StpV { smallT ga ia ib ra rc with offs := [0, 1, 0, 0, 0, 0, 0, 0] } = ({ smallT ga ia ib ra rc with offs := [0, 1, 0, 0, 0, 0, 0, 0], fin := true }, endEl, true) := by kernel_rfl
end Go.Proofs.YtbonfdkgkcbkmaaGreat
end

section
namespace Go.Proofs.YtbonfdkgkcbkmaaGreat
set_option maxRecDepth 100000
open Go.RowKit Go.Shelf

attribute [local go_sem] Oper.semAt_some
theorem deedV_at {W : World} {q n eC : Nat} {eA : Option Addr} {sn : List Value} {fin : Bool} (hs : sn.length = 14) (h : W.heap[q]? = some (.cells (deedV eA eC sn n fin).toArray 82 (0, 0))) :
    W.cell? ⟨q, 0, none⟩ = some (.slice eA 1 eC) ∧ W.cell? ⟨q, 16, none⟩ = some (.int .u64 n) ∧ W.cell? ⟨q, 17, none⟩ = some (.bool fin) ∧ W.rangeAt q 2 sn := by
  refine ⟨?_, ?_, ?_, range_app (t := 82) (A := [.slice eA 1 eC, .slice none 0 0]) (B := sn) (C := [.int .u64 n, .bool fin]) h rfl⟩
  · rw [cell_of_heap h]; simp [deedV]
  · rw [cell_of_heap h, List.getElem?_toArray, deedV, List.getElem?_append_right (by simp [hs])]; simp [hs]
  · rw [cell_of_heap h, List.getElem?_toArray, deedV, List.getElem?_append_right (by simp [hs])]; simp [hs]
theorem deedV_one {n eC : Nat} {eA : Option Addr} {sn : List Value} {fin : Bool} (hs : ∀ v ∈ sn, v.oneCell' = true) : ∀ v ∈ deedV eA eC sn n fin, v.oneCell' = true := by
  intro v hv
  simp only [deedV, List.mem_append, List.mem_cons, List.not_mem_nil, or_false] at hv
  rcases hv with ((rfl | rfl) | hv) | (rfl | rfl)
  · rfl
  · rfl
  · exact hs v hv
  · rfl
  · rfl
theorem zeroSn_one : ∀ v ∈ zeroSn, v.oneCell' = true := by
  intro v hv
  simp only [zeroSn, List.mem_cons, List.not_mem_nil, or_false] at hv
  rcases hv with rfl | rfl | rfl | rfl | rfl | rfl | rfl | rfl | rfl | rfl | rfl | rfl | rfl | rfl <;> rfl
theorem small_in {W : World} {ga ia ib ra : Option Addr} {rc : Nat} (ho : OpsIn W ga (smallG ia ib)) (hr : RecsIn W ra [⟨0, 1, 2⟩]) : TkIn W (smallT ga ia ib ra rc) :=
  ⟨ho, by simp [smallT, newT, smallG], by simp [smallT, newT, smallG], by show 3 ≤ maxLen; unfold maxLen; omega, hr, by simp [smallT, newT, smallX], rfl, Row.nil _ _ _, by simp [smallT, newT, snap0], Row.nil _ _ _, by simp [smallT, newT]⟩
theorem small_new {ga ia ib ra : Option Addr} {rc : Nat} (W : World) (ho : OpsIn W ga (smallG ia ib)) (hr : RecsIn W ra [⟨0, 1, 2⟩]) :
    Calls Tryz.prog 26 #[.agg #[.slice ga 3 3], .int .i64 0, .int .i64 1, .agg #[.int .i64 0, .slice ra 1 rc], .agg #[.int .i64 0, .int .i64 0, .int .i64 1, .bool false, .slice none 0 0, .int .i64 0, .int .i64 0, .int .i64 0, .int .i64 0, .int .i64 0, .int .i64 0, .int .i64 0, .int .i64 0, .slice none 0 0]] W fun e w' => e = .returned (.tuple #[.agg (smallT ga ia ib ra rc).cells.toArray, .int .i64 0]) ∧ Upd0 W w' := by
  have hse := small_self ga ia ib ra rc
  have h := tnew_any (oa := ga) (os := smallG ia ib) (oc := 3) 0 1 (smallX ra rc) (snap0 0 1) W (small_in ho hr) ⟨Row.nil _ _ _, by simp [snap0], Row.nil _ _ _, by simp [snap0], rfl⟩ (small_chk ia ib)
    (by show (selfR (smallT ga ia ib ra rc)).2.2 = true; rw [hse]) (by show (selfR (smallT ga ia ib ra rc)).1.tag = 1; rw [hse]) (by decide) (by decide)
    (by show _ = (selfR (smallT ga ia ib ra rc)).2.1.1; rw [hse]; rfl) (by show _ = (selfR (smallT ga ia ib ra rc)).2.1.2; rw [hse]; rfl) (by show _ = (selfR (smallT ga ia ib ra rc)).1.width; rw [hse]; rfl)
  refine h.mono ?_
  rintro e w' ⟨h1, h2⟩
  rw [show (fitsSn (smallG ia ib) (snap0 0 1) && (chkSrc (newT ga 3 (smallG ia ib) 0 1 (smallX ra rc) (snap0 0 1)) == 0)) = true by
    rw [small_fits, show chkSrc (newT ga 3 (smallG ia ib) 0 1 (smallX ra rc) (snap0 0 1)) = 0 from small_ok ga ia ib ra rc]; rfl] at h1
  exact ⟨h1, h2⟩
theorem small_src (ga ia ib ra : Option Addr) (rc : Nat) : Src1 (smallT ga ia ib ra rc) 0 4 := ⟨small_ok ga ia ib ra rc, by rw [small_self], by show (OutR (smallG ia ib) 0).1 = [0]; rw [small_out], by decide, by decide⟩
/-- The small task behind its one record. -/
def smallT2 (ga ia ib ra : Option Addr) (rc : Nat) : TkV := { smallT ga ia ib ra rc with offs := [0, 1, 0, 0, 0, 0, 0, 0] }
theorem small_self2 (ga ia ib ra : Option Addr) (rc : Nat) : selfR (smallT2 ga ia ib ra rc) = (⟨1, 1, none, 0, [], 0, 0⟩, (0, 0), true) := by kernel_rfl
theorem small_src2 (ga ia ib ra : Option Addr) (rc : Nat) : Src1 (smallT2 ga ia ib ra rc) 0 4 := ⟨small_ok2 ga ia ib ra rc, by rw [small_self2], by show (OutR (smallG ia ib) 0).1 = [0]; rw [small_out], by decide, by decide⟩
theorem small_step1 {ga ia ib ra qa : Option Addr} {rc qc : Nat} (W : World) (ho : OpsIn W ga (smallG ia ib)) (hr : RecsIn W ra [⟨0, 1, 2⟩]) (hq : IntsIn W qa [4]) :
    Calls Tryz.prog 28 #[.agg (smallT ga ia ib ra rc).cells.toArray, .int .i64 0, .slice qa 1 qc] W fun e w' => ∃ eA eC, e = .returned (.tuple #[.agg (smallT2 ga ia ib ra rc).cells.toArray, .agg (deedV eA eC zeroSn 0 false).toArray, .int .i64 0]) ∧
      w'.ownsRow W.heap.size 97 6 (.slice eA 1 eC) 1 [.int .i64 0, .int .i64 1, .int .i64 0, .int .i64 1, .int .i64 2, .int .u64 0] ∧ Upd0 W w' := by
  have h := tstep_any (ra := qa) (rc := qc) (c := 0) (rm := 4) (smallT ga ia ib ra rc) W (small_in ho hr) (small_src ga ia ib ra rc) rfl hq (fun _ => by
    rw [small_self]
    show RouteR (smallG ia ib) 0 (NextR (smallX ra rc) zer8 0 1).1 = ([0], 0)
    rw [small_next]
    exact small_route ia ib)
  rw [small_stp] at h
  exact h
theorem small_step2 {ga ia ib ra qa : Option Addr} {rc qc : Nat} (W : World) (ho : OpsIn W ga (smallG ia ib)) (hr : RecsIn W ra [⟨0, 1, 2⟩]) (hq : IntsIn W qa [4]) :
    Calls Tryz.prog 28 #[.agg (smallT2 ga ia ib ra rc).cells.toArray, .int .i64 0, .slice qa 1 qc] W fun e w' => ∃ (cs : List Value) (eA : Option Addr) (eC : Nat), cs.length = 24 ∧ (∀ v ∈ cs, v.oneCell' = true) ∧ e = .returned (.tuple #[.agg cs.toArray, .agg (deedV eA eC zeroSn 0 true).toArray, .int .i64 0]) ∧ Upd0 W w' := by
  have hi := small_in (rc := rc) ho hr
  have h := tstep_any (ra := qa) (rc := qc) (c := 0) (rm := 4) (smallT2 ga ia ib ra rc) W ⟨hi.ops, hi.ol, hi.oc1, hi.oc2, hi.recs, hi.rl, rfl, hi.rows, hi.tl, hi.names, hi.nl⟩ (small_src2 ga ia ib ra rc) rfl hq (fun e => by
    rw [small_self2] at e
    rw [show (NextR (smallT2 ga ia ib ra rc).inp (smallT2 ga ia ib ra rc).offs 0 1) = (⟨0, 0, 0⟩, 0, false, 0) from small_next2 ra rc] at e
    cases e)
  rw [show StpV (smallT2 ga ia ib ra rc) = ({ smallT ga ia ib ra rc with offs := [0, 1, 0, 0, 0, 0, 0, 0], fin := true }, endEl, true) from small_stp2 ga ia ib ra rc] at h
  refine h.mono ?_
  rintro e w' ⟨eA, eC, h1, -, h2⟩
  exact ⟨_, eA, eC, TkV.clen rfl, TkV.one _, h1, h2⟩
end Go.Proofs.YtbonfdkgkcbkmaaGreat
end

section
namespace Go.Proofs.YtbonfdkgkcbkmaaGreat
set_option maxRecDepth 100000
open Go.RowKit Go.Shelf

attribute [local go_sem] Oper.semAt_some
/-- A whole block stored anew. -/
theorem wpList_stT {P : Program} {ops : Array Oper} {rest : List Oper} {op : Oper} {a : Act} {w : World} {Q : Exit → Act → World → Prop} {q : Nat} {cs : List Value} {old : Array Value} {t : TypeId} (x v : Operand) (hg : op.guard = none) (ho : op.op = .store t x v)
    (hx : a.eval x = .pointer (some ⟨q, 0, none⟩)) (hv : a.eval v = .agg cs.toArray) (h : w.heap[q]? = some (.cells old t (0, 0))) (hl : cs.length = old.size) (hs : (P.info? t).map (·.size) = some cs.length) (h1 : ∀ v ∈ cs, v.oneCell' = true)
    (k : ∀ W', W'.heap[q]? = some (.cells cs.toArray t (0, 0)) → Upd (fun b => b = q) w W' → wpList P ops Q rest (a.put op.dst undef) W') : wpList P ops Q (op :: rest) a w := by
  refine wpList_store_mid hg t x v ho q 0 cs.toArray hx hv (by have := there_block h; simpa [hl] using this) (by simpa using hs) (all_oneCell_toArray h1) ?_
  exact k _ (setCells_all h hl) (upd_setCells w q 0 cs)
/-- A deed where nothing is. -/
def zeroDd : List Value := #[.slice none 0 0, .slice none 0 0, .int .i64 0, .int .i64 0, .int .i64 0, .bool false, .slice none 0 0, .int .i64 0, .int .i64 0, .int .i64 0, .int .i64 0, .int .i64 0, .int .i64 0, .int .i64 0, .int .i64 0, .slice none 0 0, .int .u64 0, .bool false].toList
theorem run_alTk {op : Oper} {ev : Operand → Value} {w : World} (ho : op.op = .alloc 74) : (execOp ev op).run Tryz.prog w = .ok (.value (.pointer (some ⟨w.heap.size, 0, none⟩))) (w.alloc (.cells zeroTk.toArray 74)) := by
  unfold execOp
  rw [ho]
  go_simp
  rfl
theorem run_alDd {op : Oper} {ev : Operand → Value} {w : World} (ho : op.op = .alloc 82) : (execOp ev op).run Tryz.prog w = .ok (.value (.pointer (some ⟨w.heap.size, 0, none⟩))) (w.alloc (.cells zeroDd.toArray 82)) := by
  unfold execOp
  rw [ho]
  go_simp
  rfl
theorem wpList_al {P : Program} {ops : Array Oper} {rest : List Oper} {op : Oper} {a : Act} {w : World} {Q : Exit → Act → World → Prop} {cs : List Value} {t : TypeId} (hg : op.guard = none) 
    (hr : (execOp a.eval op).run P w = .ok (.value (.pointer (some ⟨w.heap.size, 0, none⟩))) (w.alloc (.cells cs.toArray t)))
    (k : ∀ W', W'.heap[w.heap.size]? = some (.cells cs.toArray t (0, 0)) → Upd0 w W' → W'.heap.size = w.heap.size + 1 → wpList P ops Q rest (a.put op.dst (.pointer (some ⟨w.heap.size, 0, none⟩))) W') : wpList P ops Q (op :: rest) a w :=
  by
  refine wpList_plain hg fun K hK => ?_
  unfold Oper.wp
  rw [hr, Oper.upon_value]
  exact hK _ _ (k _ (alloc_at rfl) ((Upd.refl _ w).alloc _) (by simp))
theorem own_one {w : World} {B s c : Nat} {e : TypeId} {a : Option Addr} {xs : List Value} (h : w.ownsRow B e s (.slice a 1 c) 1 xs) : ∃ q, a = some ⟨q, 0, none⟩ ∧ ∀ j u, xs[j]? = some u → w.cell? ⟨q, j, none⟩ = some u := by
  rcases h.2 with ⟨_, h2⟩ | ⟨g, cap, cur, h1, h2, h3, h4, h5, h6, h7⟩
  · cases h2
  · injection h1 with h1
    refine ⟨g, h1, fun j u hu => ?_⟩
    rw [cell_of_heap h3]
    rw [← h7, List.getElem?_take] at hu
    split at hu
    · rw [← hu]; simp
    · cases hu
end Go.Proofs.YtbonfdkgkcbkmaaGreat
end

section
namespace Go.Proofs.YtbonfdkgkcbkmaaGreat
set_option maxRecDepth 100000
open Go.RowKit Go.Shelf

attribute [local go_sem] Oper.semAt_some
/-- The small task, where its graph lies. -/
abbrev smT (g b : Nat) : TkV := smallT (some ⟨g + 2, 0, none⟩) (some ⟨g, 0, none⟩) (some ⟨g + 1, 0, none⟩) (some ⟨b, 0, none⟩) 1
set_option maxHeartbeats 32000000 in
theorem wakes19_any (w : World) : Calls Tryz.prog 20 #[] w fun e w' => e = .returned (.bool true) ∧ Upd0 w w' := by
  obtain ⟨b, hb⟩ : ∃ b, b = w.heap.size := ⟨_, rfl⟩
  obtain ⟨w1, hw1⟩ : ∃ w1, w1 = (w.alloc (.cells #[.int .i64 0, .int .i64 1, .int .i64 2] 36)).alloc (.cells #[.int .i64 0, .slice (some ⟨w.heap.size, 0, none⟩) 1 1] 41) := ⟨_, rfl⟩
  have hu1 : Upd0 w w1 := by rw [hw1]; exact ((Upd.refl _ w).alloc _).alloc _
  have HX1 := Lib.hid (show w1.heap[b + 1]? = some (.cells #[.int .i64 0, .slice (some ⟨b, 0, none⟩) 1 1] 41 (0, 0)) by rw [hw1, hb]; exact alloc_at (by simp))
  have HR1 := Lib.hid (show RecsIn w1 (some ⟨b, 0, none⟩) [⟨0, 1, 2⟩] by
    rw [hw1, hb]
    exact Row.kept (Row.new (s := 3) (n := 1) w 36 [[.int .i64 0, .int .i64 1, .int .i64 2]] (by omega) (by simp) rfl (by unfold maxLen; omega)) ((Upd.refl _ _).alloc _))
  have HU := Lib.hid hu1; have HB := Lib.hid hb
  clear hu1
  go_enter Tryz.func20, Tryz.ntmps20
  go_upto_region 2 with fail
  rw [← hw1, ← hb]
  clear hw1 hb
  go_cut [2, 3] from 12 to 19 (fun v2 v3 wx => ∃ (ta g : Nat), v2 = .pointer (some ⟨ta, 0, none⟩) ∧ v3 = .int .i64 0 ∧ wx.heap[ta]? = some (.cells (smT g b).cells.toArray 74 (0, 0)) ∧ w1.heap.size ≤ ta ∧ SmAt wx g ∧ Upd0 w1 wx)
  case first =>
    have hA : Upd0 w1 w1.drew := (Upd.refl _ _).drew
    refine wp_region_G 9 (fun W => Upd0 w1 W) [false, false, false, false, false, false, false, false, false, false] rfl (by kernel_rfl) ?_
    generalize w1.drew = we at hA ⊢
    refine wpG_takeT (i := 1) (v := .agg #[.int .i64 0, .slice (some ⟨b, 0, none⟩) 1 1]) rfl (fun L hc h => (hc.waits (n := 9) (i := 1) (by kernel_rfl) h)) (by kernel_rfl) (fun _ _ _ h => h) hA (.inl ⟨rfl, fun w5 q1 => ?_⟩) ?_
    · obtain ⟨c0, c1⟩ := cells2_of ((q1.block _ (lt_of_heap HX1.out) (fun e => e)).trans HX1.out)
      go_simp
    simp only [Act.put, List.setIfInBounds_toArray, List.set]
    refine wpG_takeT (i := 2) (v := .agg #[.int .i64 0, .int .i64 0, .int .i64 1, .bool false, .slice none 0 0, .int .i64 0, .int .i64 0, .int .i64 0, .int .i64 0, .int .i64 0, .int .i64 0, .int .i64 0, .int .i64 0, .slice none 0 0]) rfl (fun L hc h => (hc.waits (n := 9) (i := 2) (by kernel_rfl) h)) (by kernel_rfl) (fun _ _ _ h => h) hA (.inl ⟨rfl, fun w5 q1 => ?_⟩) ?_
    · go_simp
    simp only [Act.put, List.setIfInBounds_toArray, List.set]
    refine wpG_do2 (i := 0) (j := 7) rfl rfl (by kernel_rfl) rfl rfl (fun K hK => ?_) (fun K hK => ?_)
    · have HKK := Lib.hid hK
      clear hK
      go_step
      (with_reducible refine (small_any _).mono ?_)
      rintro e w7 ⟨g, rfl, ho7, hu7⟩
      have hA := hA.trans hu7
      have HO7 := Lib.hid ho7
      have hS : Upd0 w7 w7 := Upd.refl _ _
      clear hu7 ho7
      simp only []
      refine HKK.out _ _ hA ?_
      clear HKK
      simp only [Act.put, List.setIfInBounds_toArray, List.set]
      refine wpG_do2 (i := 3) (j := 7) rfl rfl (by kernel_rfl) rfl rfl (fun K hK => ?_) (fun K hK => ?_)
      · have HKK := Lib.hid hK
        clear hK
        go_step
        (with_reducible refine (small_new _ (HO7.out.kept hS).ops (HR1.out.kept hA)).mono ?_)
        rintro e w9 ⟨rfl, hu9⟩
        have hA := hA.trans hu9
        have HO9 := Lib.hid (HO7.out.kept (hS.trans hu9))
        clear hu9
        obtain ⟨cl, hcl⟩ : ∃ cl, cl = (smT g b).cells := ⟨_, rfl⟩
        have HCL := Lib.hid hcl
        rw [← hcl]
        clear hcl
        simp only []
        refine HKK.out _ _ hA ?_
        clear HKK
        simp only [Act.put, List.setIfInBounds_toArray, List.set]
        refine wpG_takeT (i := 4) (v := .tuple #[.agg cl.toArray, .int .i64 0]) rfl (fun L hc h => (hc.waits (n := 9) (i := 4) (by kernel_rfl) h)) (by kernel_rfl) (fun _ _ _ h => h) hA (.inl ⟨rfl, fun w5 q1 => ?_⟩) ?_
        · go_simp
        simp only [Act.put, List.setIfInBounds_toArray, List.set]
        refine wpG_takeT (i := 5) (v := .agg cl.toArray) rfl (fun L hc h => (hc.waits (n := 9) (i := 5) (by kernel_rfl) h)) (by kernel_rfl) (fun _ _ _ h => h) hA (.inl ⟨rfl, fun w5 q1 => ?_⟩) ?_
        · go_simp
        simp only [Act.put, List.setIfInBounds_toArray, List.set]
        refine wpG_takeT (i := 6) (v := .int .i64 0) rfl (fun L hc h => (hc.waits (n := 9) (i := 6) (by kernel_rfl) h)) (by kernel_rfl) (fun _ _ _ h => h) hA (.inl ⟨rfl, fun w5 q1 => ?_⟩) ?_
        · go_simp
        simp only [Act.put, List.setIfInBounds_toArray, List.set]
        refine wpG_do (i := 7) rfl (by kernel_rfl) rfl (fun K hK => ?_)
        have HKK := Lib.hid hK
        clear hK
        go_step
        have hZ0 := hA.size
        have HX := Lib.hid (alloc_at (w := w9) (o := .cells #[.slice none 0 0, .int .i64 0, .int .i64 0, .int .i64 0, .slice none 0 0, .int .i64 0, .int .i64 0, .int .i64 0, .int .i64 0, .int .i64 0, .int .i64 0, .int .i64 0, .int .i64 0, .slice none 0 0, .int .u64 0, .int .u64 0, .slice none 0 0, .int .i64 0, .int .i64 0, .int .i64 0, .bool false, .slice none 0 0, .int .u64 0, .bool false] 74) rfl)
        have hA := hA.alloc (.cells #[.slice none 0 0, .int .i64 0, .int .i64 0, .int .i64 0, .slice none 0 0, .int .i64 0, .int .i64 0, .int .i64 0, .int .i64 0, .int .i64 0, .int .i64 0, .int .i64 0, .int .i64 0, .slice none 0 0, .int .u64 0, .int .u64 0, .slice none 0 0, .int .i64 0, .int .i64 0, .int .i64 0, .bool false, .slice none 0 0, .int .u64 0, .bool false] 74)
        have HO9 := Lib.hid (HO9.out.kept ((Upd.refl _ w9).alloc (.cells #[.slice none 0 0, .int .i64 0, .int .i64 0, .int .i64 0, .slice none 0 0, .int .i64 0, .int .i64 0, .int .i64 0, .int .i64 0, .int .i64 0, .int .i64 0, .int .i64 0, .int .i64 0, .slice none 0 0, .int .u64 0, .int .u64 0, .slice none 0 0, .int .i64 0, .int .i64 0, .int .i64 0, .bool false, .slice none 0 0, .int .u64 0, .bool false] 74)))
        refine HKK.out _ _ hA ?_
        clear HKK
        simp only [Act.put, List.setIfInBounds_toArray, List.set]
        generalize w9.alloc (.cells #[.slice none 0 0, .int .i64 0, .int .i64 0, .int .i64 0, .slice none 0 0, .int .i64 0, .int .i64 0, .int .i64 0, .int .i64 0, .int .i64 0, .int .i64 0, .int .i64 0, .int .i64 0, .slice none 0 0, .int .u64 0, .int .u64 0, .slice none 0 0, .int .i64 0, .int .i64 0, .int .i64 0, .bool false, .slice none 0 0, .int .u64 0, .bool false] 74) = w9X at HX hA HO9 ⊢
        generalize w9.heap.size = bo at HX hZ0 ⊢
        refine wpG_doIf (i := 8) rfl (by kernel_rfl) rfl (fun K hK => ?_)
        have HKK := Lib.hid hK
        clear hK
        have HLN := Lib.hid (show cl.length = 24 by rw [HCL.out]; rfl)
        refine wp_store_mid 74 (.tmp 2) (.tmp 17) rfl bo 0 cl.toArray rfl rfl (there_mid HX.out (by simp [HLN.out])) (by rw [sizeTk]; simp [HLN.out]) (all_oneCell_toArray (by rw [HCL.out]; exact TkV.one _)) ?_
        have HY := Lib.hid (setCells_all HX.out (vs := cl) (by rw [HLN.out]; rfl))
        have huc := upd_setCells w9X bo 0 cl
        have HO9 := Lib.hid (HO9.out.upd huc HX.out (by decide) (by decide))
        have hA := hA.cut huc (fun q hq => by omega)
        rw [show cl.toArray.toList = cl from rfl]
        generalize w9X.setCells bo 0 cl = wz at HY HO9 hA ⊢
        refine HKK.out _ _ hA ?_
        clear HKK HX huc
        simp only [Act.put, List.setIfInBounds_toArray, List.set]
        refine wpG_tail_lit (k := 9) rfl rfl (by kernel_rfl) ?_
        simp only [List.drop]
        go_wp2
        go_meet
        case rel => exact ⟨bo, g, rfl, rfl, by rw [← HCL.out]; exact HY.out, by omega, HO9.out, hA⟩
      · have HKK := Lib.hid hK
        clear hK
        go_step
        have hZ0 := hA.size
        have HX := Lib.hid (alloc_at (w := w7) (o := .cells #[.slice none 0 0, .int .i64 0, .int .i64 0, .int .i64 0, .slice none 0 0, .int .i64 0, .int .i64 0, .int .i64 0, .int .i64 0, .int .i64 0, .int .i64 0, .int .i64 0, .int .i64 0, .slice none 0 0, .int .u64 0, .int .u64 0, .slice none 0 0, .int .i64 0, .int .i64 0, .int .i64 0, .bool false, .slice none 0 0, .int .u64 0, .bool false] 74) rfl)
        have hA := hA.alloc (.cells #[.slice none 0 0, .int .i64 0, .int .i64 0, .int .i64 0, .slice none 0 0, .int .i64 0, .int .i64 0, .int .i64 0, .int .i64 0, .int .i64 0, .int .i64 0, .int .i64 0, .int .i64 0, .slice none 0 0, .int .u64 0, .int .u64 0, .slice none 0 0, .int .i64 0, .int .i64 0, .int .i64 0, .bool false, .slice none 0 0, .int .u64 0, .bool false] 74)
        have hS := hS.alloc (.cells #[.slice none 0 0, .int .i64 0, .int .i64 0, .int .i64 0, .slice none 0 0, .int .i64 0, .int .i64 0, .int .i64 0, .int .i64 0, .int .i64 0, .int .i64 0, .int .i64 0, .int .i64 0, .slice none 0 0, .int .u64 0, .int .u64 0, .slice none 0 0, .int .i64 0, .int .i64 0, .int .i64 0, .bool false, .slice none 0 0, .int .u64 0, .bool false] 74)
        refine HKK.out _ _ hA ?_
        clear HKK
        simp only [Act.put, List.setIfInBounds_toArray, List.set]
        generalize w7.alloc (.cells #[.slice none 0 0, .int .i64 0, .int .i64 0, .int .i64 0, .slice none 0 0, .int .i64 0, .int .i64 0, .int .i64 0, .int .i64 0, .int .i64 0, .int .i64 0, .int .i64 0, .int .i64 0, .slice none 0 0, .int .u64 0, .int .u64 0, .slice none 0 0, .int .i64 0, .int .i64 0, .int .i64 0, .bool false, .slice none 0 0, .int .u64 0, .bool false] 74) = w7X at HX hA hS ⊢
        generalize w7.heap.size = bo at HX hZ0 ⊢
        refine wpG_do (i := 3) rfl (by kernel_rfl) rfl (fun K hK => ?_)
        have HKK := Lib.hid hK
        clear hK
        go_step
        (with_reducible refine (small_new _ (HO7.out.kept hS).ops (HR1.out.kept hA)).mono ?_)
        rintro e w9 ⟨rfl, hu9⟩
        have hA := hA.trans hu9
        have HO9 := Lib.hid (HO7.out.kept (hS.trans hu9))
        have HX := Lib.hid ((hu9.block _ (lt_of_heap HX.out) (fun e => e)).trans HX.out)
        clear hu9
        obtain ⟨cl, hcl⟩ : ∃ cl, cl = (smT g b).cells := ⟨_, rfl⟩
        have HCL := Lib.hid hcl
        rw [← hcl]
        clear hcl
        simp only []
        refine HKK.out _ _ hA ?_
        clear HKK
        simp only [Act.put, List.setIfInBounds_toArray, List.set]
        refine wpG_takeT (i := 4) (v := .tuple #[.agg cl.toArray, .int .i64 0]) rfl (fun L hc h => (hc.waits (n := 9) (i := 4) (by kernel_rfl) h)) (by kernel_rfl) (fun _ _ _ h => h) hA (.inl ⟨rfl, fun w5 q1 => ?_⟩) ?_
        · go_simp
        simp only [Act.put, List.setIfInBounds_toArray, List.set]
        refine wpG_takeT (i := 5) (v := .agg cl.toArray) rfl (fun L hc h => (hc.waits (n := 9) (i := 5) (by kernel_rfl) h)) (by kernel_rfl) (fun _ _ _ h => h) hA (.inl ⟨rfl, fun w5 q1 => ?_⟩) ?_
        · go_simp
        simp only [Act.put, List.setIfInBounds_toArray, List.set]
        refine wpG_takeT (i := 6) (v := .int .i64 0) rfl (fun L hc h => (hc.waits (n := 9) (i := 6) (by kernel_rfl) h)) (by kernel_rfl) (fun _ _ _ h => h) hA (.inl ⟨rfl, fun w5 q1 => ?_⟩) ?_
        · go_simp
        simp only [Act.put, List.setIfInBounds_toArray, List.set]
        refine wpG_doIf (i := 8) rfl (by kernel_rfl) rfl (fun K hK => ?_)
        have HKK := Lib.hid hK
        clear hK
        have HLN := Lib.hid (show cl.length = 24 by rw [HCL.out]; rfl)
        refine wp_store_mid 74 (.tmp 2) (.tmp 17) rfl bo 0 cl.toArray rfl rfl (there_mid HX.out (by simp [HLN.out])) (by rw [sizeTk]; simp [HLN.out]) (all_oneCell_toArray (by rw [HCL.out]; exact TkV.one _)) ?_
        have HY := Lib.hid (setCells_all HX.out (vs := cl) (by rw [HLN.out]; rfl))
        have huc := upd_setCells w9 bo 0 cl
        have HO9 := Lib.hid (HO9.out.upd huc HX.out (by decide) (by decide))
        have hA := hA.cut huc (fun q hq => by omega)
        rw [show cl.toArray.toList = cl from rfl]
        generalize w9.setCells bo 0 cl = wz at HY HO9 hA ⊢
        refine HKK.out _ _ hA ?_
        clear HKK HX huc
        simp only [Act.put, List.setIfInBounds_toArray, List.set]
        refine wpG_tail_lit (k := 9) rfl rfl (by kernel_rfl) ?_
        simp only [List.drop]
        go_wp2
        go_meet
        case rel => exact ⟨bo, g, rfl, rfl, by rw [← HCL.out]; exact HY.out, by omega, HO9.out, hA⟩
    · have HKK := Lib.hid hK
      clear hK
      go_step
      have hZ0 := hA.size
      have HX := Lib.hid (alloc_at (w := we) (o := .cells #[.slice none 0 0, .int .i64 0, .int .i64 0, .int .i64 0, .slice none 0 0, .int .i64 0, .int .i64 0, .int .i64 0, .int .i64 0, .int .i64 0, .int .i64 0, .int .i64 0, .int .i64 0, .slice none 0 0, .int .u64 0, .int .u64 0, .slice none 0 0, .int .i64 0, .int .i64 0, .int .i64 0, .bool false, .slice none 0 0, .int .u64 0, .bool false] 74) rfl)
      have hA := hA.alloc (.cells #[.slice none 0 0, .int .i64 0, .int .i64 0, .int .i64 0, .slice none 0 0, .int .i64 0, .int .i64 0, .int .i64 0, .int .i64 0, .int .i64 0, .int .i64 0, .int .i64 0, .int .i64 0, .slice none 0 0, .int .u64 0, .int .u64 0, .slice none 0 0, .int .i64 0, .int .i64 0, .int .i64 0, .bool false, .slice none 0 0, .int .u64 0, .bool false] 74)
      refine HKK.out _ _ hA ?_
      clear HKK
      simp only [Act.put, List.setIfInBounds_toArray, List.set]
      generalize we.alloc (.cells #[.slice none 0 0, .int .i64 0, .int .i64 0, .int .i64 0, .slice none 0 0, .int .i64 0, .int .i64 0, .int .i64 0, .int .i64 0, .int .i64 0, .int .i64 0, .int .i64 0, .int .i64 0, .slice none 0 0, .int .u64 0, .int .u64 0, .slice none 0 0, .int .i64 0, .int .i64 0, .int .i64 0, .bool false, .slice none 0 0, .int .u64 0, .bool false] 74) = weX at HX hA ⊢
      generalize we.heap.size = bo at HX hZ0 ⊢
      refine wpG_do (i := 0) rfl (by kernel_rfl) rfl (fun K hK => ?_)
      have HKK := Lib.hid hK
      clear hK
      go_step
      (with_reducible refine (small_any _).mono ?_)
      rintro e w7 ⟨g, rfl, ho7, hu7⟩
      have hA := hA.trans hu7
      have HO7 := Lib.hid ho7
      have hS : Upd0 w7 w7 := Upd.refl _ _
      have HX := Lib.hid ((hu7.block _ (lt_of_heap HX.out) (fun e => e)).trans HX.out)
      clear hu7 ho7
      simp only []
      refine HKK.out _ _ hA ?_
      clear HKK
      simp only [Act.put, List.setIfInBounds_toArray, List.set]
      refine wpG_do (i := 3) rfl (by kernel_rfl) rfl (fun K hK => ?_)
      have HKK := Lib.hid hK
      clear hK
      go_step
      (with_reducible refine (small_new _ (HO7.out.kept hS).ops (HR1.out.kept hA)).mono ?_)
      rintro e w9 ⟨rfl, hu9⟩
      have hA := hA.trans hu9
      have HO9 := Lib.hid (HO7.out.kept (hS.trans hu9))
      have HX := Lib.hid ((hu9.block _ (lt_of_heap HX.out) (fun e => e)).trans HX.out)
      clear hu9
      obtain ⟨cl, hcl⟩ : ∃ cl, cl = (smT g b).cells := ⟨_, rfl⟩
      have HCL := Lib.hid hcl
      rw [← hcl]
      clear hcl
      simp only []
      refine HKK.out _ _ hA ?_
      clear HKK
      simp only [Act.put, List.setIfInBounds_toArray, List.set]
      refine wpG_takeT (i := 4) (v := .tuple #[.agg cl.toArray, .int .i64 0]) rfl (fun L hc h => (hc.waits (n := 9) (i := 4) (by kernel_rfl) h)) (by kernel_rfl) (fun _ _ _ h => h) hA (.inl ⟨rfl, fun w5 q1 => ?_⟩) ?_
      · go_simp
      simp only [Act.put, List.setIfInBounds_toArray, List.set]
      refine wpG_takeT (i := 5) (v := .agg cl.toArray) rfl (fun L hc h => (hc.waits (n := 9) (i := 5) (by kernel_rfl) h)) (by kernel_rfl) (fun _ _ _ h => h) hA (.inl ⟨rfl, fun w5 q1 => ?_⟩) ?_
      · go_simp
      simp only [Act.put, List.setIfInBounds_toArray, List.set]
      refine wpG_takeT (i := 6) (v := .int .i64 0) rfl (fun L hc h => (hc.waits (n := 9) (i := 6) (by kernel_rfl) h)) (by kernel_rfl) (fun _ _ _ h => h) hA (.inl ⟨rfl, fun w5 q1 => ?_⟩) ?_
      · go_simp
      simp only [Act.put, List.setIfInBounds_toArray, List.set]
      refine wpG_doIf (i := 8) rfl (by kernel_rfl) rfl (fun K hK => ?_)
      have HKK := Lib.hid hK
      clear hK
      have HLN := Lib.hid (show cl.length = 24 by rw [HCL.out]; rfl)
      refine wp_store_mid 74 (.tmp 2) (.tmp 17) rfl bo 0 cl.toArray rfl rfl (there_mid HX.out (by simp [HLN.out])) (by rw [sizeTk]; simp [HLN.out]) (all_oneCell_toArray (by rw [HCL.out]; exact TkV.one _)) ?_
      have HY := Lib.hid (setCells_all HX.out (vs := cl) (by rw [HLN.out]; rfl))
      have huc := upd_setCells w9 bo 0 cl
      have HO9 := Lib.hid (HO9.out.upd huc HX.out (by decide) (by decide))
      have hA := hA.cut huc (fun q hq => by omega)
      rw [show cl.toArray.toList = cl from rfl]
      generalize w9.setCells bo 0 cl = wz at HY HO9 hA ⊢
      refine HKK.out _ _ hA ?_
      clear HKK HX huc
      simp only [Act.put, List.setIfInBounds_toArray, List.set]
      refine wpG_tail_lit (k := 9) rfl rfl (by kernel_rfl) ?_
      simp only [List.drop]
      go_wp2
      go_meet
      case rel => exact ⟨bo, g, rfl, rfl, by rw [← HCL.out]; exact HY.out, by omega, HO9.out, hA⟩
  case rest =>
    obtain ⟨ta, g, rfl, rfl, hx, hlt, ho, hu⟩ := hcut
    have HR := Lib.hid (HR1.out.kept hu)
    have HO := Lib.hid ho
    have HX := Lib.hid hx
    have HW1 := Lib.hid hu
    have HTA := Lib.hid hlt
    clear hx hu ho hlt HX1
    have HS1 := Lib.hid (fun (W : World) (hW : Upd0 wc W) (qa : Option Addr) (hq : IntsIn W qa [4]) => small_step1 (rc := 1) (qc := 1) W (HO.out.kept hW).ops (HR.out.kept hW) hq)
    have HS2 := Lib.hid (fun (W : World) (hS : SmAt W g) (hR : RecsIn W (some ⟨b, 0, none⟩) [⟨0, 1, 2⟩]) (qa : Option Addr) (hq : IntsIn W qa [4]) => small_step2 (rc := 1) (qc := 1) W hS.ops hR hq)
    obtain ⟨cl, hcl⟩ : ∃ cl, cl = (smallT (some ⟨g + 2, 0, none⟩) (some ⟨g, 0, none⟩) (some ⟨g + 1, 0, none⟩) (some ⟨b, 0, none⟩) 1).cells := ⟨_, rfl⟩
    obtain ⟨c2, hc2⟩ : ∃ c2, c2 = (smallT2 (some ⟨g + 2, 0, none⟩) (some ⟨g, 0, none⟩) (some ⟨g + 1, 0, none⟩) (some ⟨b, 0, none⟩) 1).cells := ⟨_, rfl⟩
    rw [← hcl, ← hc2] at HS1
    rw [← hc2] at HS2
    rw [← hcl] at HX
    have HLN := Lib.hid (show cl.length = 24 by rw [hcl]; rfl)
    have HL2 := Lib.hid (show c2.length = 24 by rw [hc2]; rfl)
    have HO2 := Lib.hid (show ∀ v ∈ c2, v.oneCell' = true by rw [hc2]; exact TkV.one _)
    obtain ⟨w2, hw2⟩ : ∃ w2, w2 = wc.alloc (.cells #[.int .i64 4] 3) := ⟨_, rfl⟩
    have hu2 : Upd0 wc w2 := by rw [hw2]; exact (Upd.refl _ wc).alloc _
    have HQ2 := Lib.hid (show IntsIn w2 (some ⟨wc.heap.size, 0, none⟩) [4] by rw [hw2]; exact Row.new (s := 1) (n := 1) wc 3 [[.int .i64 4]] (by omega) (by simp) rfl (by unfold maxLen; omega))
    have HU3 := Lib.hid hu2
    clear hcl hc2 hu2
    go_upto_region 3 with fail
    iterate 1 go_step
    refine wpList_ldA rfl rfl rfl HX.out Tryz.underlying74 rfl (by rw [sizeTk]; simp [HLN.out]) ?_
    go_wp2_with (go_at_call 28; fail)
    rw [← hw2]
    clear hw2
    (with_reducible refine (HS1.out w2 HU3.out _ HQ2.out).mono ?_)
    rintro e w3 ⟨eA, eC, rfl, ho3, hu3⟩
    obtain ⟨dd, hdd⟩ : ∃ dd, dd = deedV eA eC zeroSn 0 false := ⟨_, rfl⟩
    have HDD := Lib.hid hdd
    have HD18 := Lib.hid (show dd.length = 18 by rw [hdd]; rfl)
    rw [← hdd]
    clear hdd
    have HU4 := Lib.hid (HU3.out.trans hu3)
    have HT4 := Lib.hid ((HU4.out.block _ (lt_of_heap HX.out) (fun e => e)).trans HX.out)
    have HE4 := Lib.hid ho3
    have HL4 := Lib.hid (show ∀ q, (Value.slice eA 1 eC).ownBlock = some q → q < w3.heap.size from fun q hq => (World.ownsRow.lt ho3 q hq).2)
    clear hu3 ho3 HS1 HU3 HQ2
    simp only []
    iterate 13 go_step
    refine wpList_al (cs := zeroDd) (t := 82) rfl (run_alDd rfl) (fun w4 hx4 hu4 hz4 => ?_)
    obtain ⟨da, hda⟩ : ∃ da, da = w3.heap.size := ⟨_, rfl⟩
    rw [← hda] at hx4 hz4 ⊢
    have HDA := Lib.hid hda
    have ht4 := (hu4.block _ (lt_of_heap HT4.out) (fun e => e)).trans HT4.out
    have hnt : ¬ ta = da := blk_ne ht4 hx4 (by decide)
    clear hda
    refine wpList_stT (cs := c2) (.tmp 2) (.tmp 23) rfl rfl rfl rfl ht4 (by rw [HL2.out]; simp [HLN.out]) (by rw [sizeTk, HL2.out]) HO2.out (fun w5 hx5 hu5 => ?_)
    have hx4 := (hu5.block _ (lt_of_heap hx4) (fun e => hnt e.symm)).trans hx4
    refine wpList_stT (cs := dd) (.tmp 4) (.tmp 24) rfl rfl rfl rfl hx4 (by rw [HD18.out]; rfl) (by rw [sizeDd, HD18.out]) (by rw [HDD.out]; exact deedV_one zeroSn_one) (fun w6 hx6 hu6 => ?_)
    have ht6 := (hu6.block _ (lt_of_heap hx5) hnt).trans hx5
    have hA4 : Upd0 w1 w4 := (HW1.out.trans HU4.out).trans hu4
    have hA6 := (hA4.cut hu5 (fun q hq => by have := HTA.out; omega)).cut hu6 (fun q hq => by have := HDA.out; have := (HW1.out.trans HU4.out).size; omega)
    have HS6 := Lib.hid (((HO.out.kept (HU4.out.trans hu4)).upd hu5 ht4 (by decide) (by decide)).upd hu6 hx4 (by decide) (by decide))
    have he6 := ownsRow_any (ownsRow_any (ownsRow_any HE4.out hu4 (fun _ _ e => e)) hu5 (own_neT (ownsRow_any HE4.out hu4 (fun _ _ e => e)) ht4 (by decide))) hu6 (own_neT (ownsRow_any (ownsRow_any HE4.out hu4 (fun _ _ e => e)) hu5 (own_neT (ownsRow_any HE4.out hu4 (fun _ _ e => e)) ht4 (by decide))) hx4 (by decide))
    have HA6 := Lib.hid hA6; have HT6 := Lib.hid ht6; have HX6 := Lib.hid hx6; have HE6 := Lib.hid he6
    clear hx4 hu4 hz4 ht4 hnt hx5 hu5 hx6 hu6 ht6 hA4 hA6 he6 HT4 HE4 HL4 HDA HU4 HO HX HR HW1
    have HR6 := Lib.hid (HR1.out.kept HA6.out)
    obtain ⟨w7, hw7⟩ : ∃ w7, w7 = w6.alloc (.cells #[.int .i64 4] 3) := ⟨_, rfl⟩
    have hu7 : Upd0 w6 w7 := by rw [hw7]; exact (Upd.refl _ w6).alloc _
    have HQ7 := Lib.hid (show IntsIn w7 (some ⟨w6.heap.size, 0, none⟩) [4] by rw [hw7]; exact Row.new (s := 1) (n := 1) w6 3 [[.int .i64 4]] (by omega) (by simp) rfl (by unfold maxLen; omega))
    have HU7 := Lib.hid hu7
    clear hu7
    go_upto_region 4 with fail
    iterate 1 go_step
    refine wpList_ldA rfl rfl rfl HT6.out Tryz.underlying74 rfl (by rw [sizeTk]; simp [HL2.out]) ?_
    go_wp2_with (go_at_call 28; fail)
    rw [← hw7]
    clear hw7
    (with_reducible refine (HS2.out w7 (HS6.out.kept HU7.out) (HR6.out.kept HU7.out) _ HQ7.out).mono ?_)
    rintro e w8 ⟨c3, fA, fC, h24, h1c, rfl, hu8⟩
    obtain ⟨d2, hd2⟩ : ∃ d2, d2 = deedV fA fC zeroSn 0 true := ⟨_, rfl⟩
    have HD2 := Lib.hid hd2
    have HD28 := Lib.hid (show d2.length = 18 by rw [hd2]; rfl)
    have H24 := Lib.hid h24; have H1C := Lib.hid h1c
    rw [← hd2]
    have HU8 := Lib.hid (HU7.out.trans hu8)
    clear hd2 h24 h1c hu8 HS2 HQ7
    simp only []
    iterate 13 go_step
    refine wpList_al (cs := zeroTk) (t := 74) rfl (run_alTk rfl) (fun w9 hx9 hu9 hz9 => ?_)
    refine wpList_al (cs := zeroDd) (t := 82) rfl (run_alDd rfl) (fun w10 hx10 hu10 hz10 => ?_)
    have hx9 := (hu10.block _ (lt_of_heap hx9) (fun e => e)).trans hx9
    obtain ⟨tb, htb⟩ : ∃ tb, tb = w8.heap.size := ⟨_, rfl⟩
    obtain ⟨db, hdb⟩ : ∃ db, db = w9.heap.size := ⟨_, rfl⟩
    rw [← htb] at hx9 hz9 ⊢
    rw [← hdb] at hx10 hz10 ⊢
    have HTB := Lib.hid htb; have HDB := Lib.hid hdb
    clear htb hdb
    refine wpList_stT (cs := c3) (.tmp 6) (.tmp 30) rfl rfl rfl rfl hx9 (by rw [H24.out]; rfl) (by rw [sizeTk, H24.out]) H1C.out (fun w11 hx11 hu11 => ?_)
    have hnt : ¬ tb = db := blk_ne hx9 hx10 (by decide)
    have hy11 := (hu11.block _ (lt_of_heap hx10) (fun e => hnt e.symm)).trans hx10
    refine wpList_stT (cs := d2) (.tmp 7) (.tmp 31) rfl rfl rfl rfl hy11 (by rw [HD28.out]; rfl) (by rw [sizeDd, HD28.out]) (by rw [HD2.out]; exact deedV_one zeroSn_one) (fun w12 hx12 hu12 => ?_)
    have hA12 := (((HU8.out.trans hu9).trans hu10).cut hu11 (fun q hq => by have := HTB.out; have := HU8.out.size; omega)).cut hu12 (fun q hq => by have := HDB.out; have := (HU8.out.trans hu9).size; omega)
    have hd12 := (hA12.block _ (lt_of_heap HX6.out) (fun e => e)).trans HX6.out
    have he12 := ownsRow_any HE6.out hA12 (fun _ _ e => e)
    have HF := Lib.hid ((HU.out.trans HA6.out).trans hA12)
    obtain ⟨eb, rfl, hec⟩ := own_one he12
    have hc4 := hec 4 _ rfl
    rw [HDD.out] at hd12
    rw [HD2.out] at hx12
    obtain ⟨p0, -, -, -⟩ := deedV_at rfl hd12
    obtain ⟨-, -, p17, -⟩ := deedV_at rfl hx12
    clear hx9 hu9 hz9 hx10 hu10 hz10 hx11 hu11 hnt hy11 hx12 hu12 hA12 hd12 he12 hec HX6 HE6 HDD HD2 HTB HDB HU8 HT6 HS6 HR6 HA6 HR1
    go_wp2
    go_ret
    exact ⟨rfl, HF.out⟩
end Go.Proofs.YtbonfdkgkcbkmaaGreat
end

section
namespace Go.Proofs.YtbonfdkgkcbkmaaGreat
set_option maxRecDepth 100000
open Go.RowKit Go.Shelf

/-- Where a source stands, what it reads, and which share of it. -/
structure SpV where
  ga : Option Addr
  gc : Nat
  ia : Option Addr
  ic : Nat
  w : Int
  a : Int
  idx : Int
  x : InM
/-- The source behind the first k records. -/
def SpV.t (s : SpV) (k n : Nat) (f : Bool) : TkV := ⟨s.ga, s.gc, srcG s.ia s.ic s.w s.a, s.idx, 1, s.x, offAt s.x.recs s.idx s.w k, none, 0, [], 0, 0, none, 0, [], ⟨0, 0, 0, false, none, 0, []⟩, n, f⟩
structure SpV.Ok (s : SpV) : Prop where
  w1 : 1 ≤ s.w
  w3 : s.w ≤ 3
  a0 : 0 ≤ s.a
  a4 : s.a < 4
  i0 : 0 ≤ s.idx
  iw : s.idx < s.w
structure SpV.Fit (s : SpV) : Prop where
  ok : s.Ok
  src : s.x.src = s.a
  inp : chkIn s.x = 0
theorem SpV.t0 (s : SpV) : newT s.ga s.gc (srcG s.ia s.ic s.w s.a) s.idx 1 s.x (snap0 s.idx s.w) = s.t 0 0 false := by
  unfold SpV.t newT
  rw [offAt_zero]
  rfl
theorem SpV.Ok.share {s : SpV} (h : s.Ok) : shareB s.idx s.w = true := by
  have h1 := h.w1; have h2 := h.w3; have h3 := h.i0; have h4 := h.iw
  simp [shareB, widthB]
  omega
theorem SpV.Ok.chk {s : SpV} (h : s.Ok) : (chkG (srcG s.ia s.ic s.w s.a)).2 = 0 := srcG_chk _ _ ⟨h.w1, h.w3⟩ ⟨h.a0, h.a4⟩
theorem SpV.Ok.nat {s : SpV} (h : s.Ok) : ((s.idx.toNat : Nat) : Int) = s.idx := by have := h.i0; omega
theorem SpV.Ok.sub {s : SpV} (h : s.Ok) : (subsL (srcG s.ia s.ic s.w s.a))[s.idx.toNat]? = some (0, s.idx) := by
  have h4 := h.iw
  have := srcG_sub (a := s.a) (k := s.idx.toNat) s.ia s.ic ⟨h.w1, h.w3⟩ (by rw [h.nat]; exact h.iw)
  rw [this, h.nat]
theorem SpV.Ok.self {s : SpV} (h : s.Ok) (k n : Nat) (f : Bool) : selfR (s.t k n f) = (⟨1, s.w, none, 0, [], s.a, 0⟩, (0, s.idx), true) := by
  have h0 := h.i0
  unfold selfR
  rw [if_neg (show ¬ ((chkG (s.t k n f).os).2 ≠ 0 ∨ (s.t k n f).sub < 0) by
    rintro (e | e)
    · exact e h.chk
    · exact absurd (show s.idx < 0 from e) (by omega))]
  rw [show (subsL (s.t k n f).os)[(s.t k n f).sub.toNat]? = some (0, s.idx) from h.sub]
  rfl
theorem SpV.Ok.subR {s : SpV} (h : s.Ok) : subR (srcG s.ia s.ic s.w s.a) s.idx = ((0, s.idx), 0) := by
  have h0 := h.i0
  unfold Go.Proofs.YtbonfdkgkcbkmaaGreat.subR subP
  rw [if_neg (by omega), h.sub]
theorem SpV.Ok.has {s : SpV} (h : s.Ok) {r : RecV} (hr : chkRec r = 0) : hasR (srcG s.ia s.ic s.w s.a) s.idx r = (mineB r s.idx s.w, 0) := by
  unfold hasR
  rw [h.subR, if_neg (by simp), if_neg (by simp [hr])]
  rfl
theorem SpV.Ok.hasx {s : SpV} (h : s.Ok) {r : RecV} (hr : chkRec r = 0) : HasR (srcG s.ia s.ic s.w s.a) s.idx r = (mineB r s.idx s.w, 0) := by
  unfold HasR
  rw [if_neg (by simp [h.chk]), h.has hr]
theorem SpV.Ok.cases {s : SpV} (h : s.Ok) : (s.w = 1 ∧ s.idx = 0) ∨ (s.w = 2 ∧ s.idx = 0) ∨ (s.w = 2 ∧ s.idx = 1) ∨ (s.w = 3 ∧ s.idx = 0) ∨ (s.w = 3 ∧ s.idx = 1) ∨ (s.w = 3 ∧ s.idx = 2) := by
  have h1 := h.w1; have h2 := h.w3; have h3 := h.i0; have h4 := h.iw
  omega
theorem SpV.Ok.out {s : SpV} (h : s.Ok) : OutR (srcG s.ia s.ic s.w s.a) s.idx = ([s.idx], 0) := by
  unfold OutR EndsR
  rw [if_neg (by simp [h.chk]), if_neg (by simp [h.subR])]
  rcases h.cases with ⟨e1, e2⟩ | ⟨e1, e2⟩ | ⟨e1, e2⟩ | ⟨e1, e2⟩ | ⟨e1, e2⟩ | ⟨e1, e2⟩ <;> rw [e1, e2] <;> unfold thoseL
  · rw [srcG_l1]; rfl
  · rw [srcG_l2]; rfl
  · rw [srcG_l2]; rfl
  · rw [srcG_l3]; rfl
  · rw [srcG_l3]; rfl
  · rw [srcG_l3]; rfl
theorem bit1 : ∀ g : Fin 8, ((g.1 : Nat) : Int) * 1 / 8 = 0 → (255 : Nat).testBit g.1 = true := by decide +kernel
theorem bit20 : ∀ g : Fin 8, ((g.1 : Nat) : Int) * 2 / 8 = 0 → (15 : Nat).testBit g.1 = true := by decide +kernel
theorem bit21 : ∀ g : Fin 8, ((g.1 : Nat) : Int) * 2 / 8 = 1 → (240 : Nat).testBit g.1 = true := by decide +kernel
theorem bit30 : ∀ g : Fin 8, ((g.1 : Nat) : Int) * 3 / 8 = 0 → (7 : Nat).testBit g.1 = true := by decide +kernel
theorem bit31 : ∀ g : Fin 8, ((g.1 : Nat) : Int) * 3 / 8 = 1 → (56 : Nat).testBit g.1 = true := by decide +kernel
theorem bit32 : ∀ g : Fin 8, ((g.1 : Nat) : Int) * 3 / 8 = 2 → (192 : Nat).testBit g.1 = true := by decide +kernel
theorem mineB_grp {r : RecV} {idx w : Int} (h : mineB r idx w = true) : chkRec r = 0 ∧ (grpN r : Int) * w / 8 = idx := by
  simp only [mineB, Bool.and_eq_true, decide_eq_true_eq, beq_iff_eq] at h
  exact ⟨h.1.1, h.2⟩
theorem SpV.Ok.route {s : SpV} (h : s.Ok) {r : RecV} (hr : mineB r s.idx s.w = true) : RouteR (srcG s.ia s.ic s.w s.a) s.idx r = ([s.idx], 0) := by
  obtain ⟨h1, h2⟩ := mineB_grp hr
  have hg := grpN_lt r
  unfold RouteR
  rw [if_neg (by simp [h.chk]), h.has h1, if_neg (by simp), if_neg (by simp [hr])]
  unfold rtL thoseL
  generalize grpN r = g at h2 hg ⊢
  rcases h.cases with ⟨e1, e2⟩ | ⟨e1, e2⟩ | ⟨e1, e2⟩ | ⟨e1, e2⟩ | ⟨e1, e2⟩ | ⟨e1, e2⟩ <;> rw [e1, e2] at h2 <;> rw [e1, e2]
  · rw [srcG_l1]; have := bit1 ⟨g, hg⟩ h2; simp only at this; simp [numK, keepL, this]
  · rw [srcG_l2]; have := bit20 ⟨g, hg⟩ h2; simp only at this; simp [numK, keepL, this]
  · rw [srcG_l2]; have := bit21 ⟨g, hg⟩ h2; simp only at this; simp [numK, keepL, this]
  · rw [srcG_l3]; have := bit30 ⟨g, hg⟩ h2; simp only at this; simp [numK, keepL, this]
  · rw [srcG_l3]; have := bit31 ⟨g, hg⟩ h2; simp only at this; simp [numK, keepL, this]
  · rw [srcG_l3]; have := bit32 ⟨g, hg⟩ h2; simp only at this; simp [numK, keepL, this]
/-- Offsets with some of them put to zero. -/
def zapO (o : List Int) : List Nat → List Int
  | [] => o
  | g :: l => zapO (o.set g 0) l
theorem zapO_len : ∀ (l : List Nat) (o : List Int), (zapO o l).length = o.length
  | [], _ => rfl
  | g :: l, o => by rw [zapO, zapO_len l]; simp
theorem set_getD (o : List Int) (g i : Nat) : (o.set g 0).getD i 0 = if i = g then 0 else o.getD i 0 := by
  simp only [List.getD_eq_getElem?_getD, List.getElem?_set]
  by_cases e : g = i
  · subst e
    rw [if_pos rfl, if_pos rfl]
    split <;> simp
  · rw [if_neg e, if_neg (fun x => e x.symm)]
theorem zapO_get (i : Nat) : ∀ (l : List Nat) (o : List Int), (zapO o l).getD i 0 = if i ∈ l then 0 else o.getD i 0
  | [], o => by simp [zapO]
  | g :: l, o => by
    rw [zapO, zapO_get i l, set_getD]
    by_cases e1 : i ∈ l
    · rw [if_pos e1, if_pos (by simp [e1])]
    · rw [if_neg e1]
      by_cases e2 : i = g
      · rw [if_pos e2, if_pos (by simp [e2])]
      · rw [if_neg e2, if_neg (by simp [e1, e2])]
theorem restR_zap : ∀ (l : List Nat) (o : List Int), (∀ i, 0 ≤ o.getD i 0 ∧ o.getD i 0 ≤ 40) → restR o (l.map fun g : Nat => (g : Int)) = some (zapO o l)
  | [], o, _ => rfl
  | g :: l, o, h => by
    have h1 := h g
    rw [List.map_cons, restR, if_neg (by rw [show ((g : Nat) : Int).toNat = g by omega]; omega), show ((g : Nat) : Int).toNat = g by omega, restR_zap l _ (fun i => by
      have h2 := h i
      rw [set_getD]
      split
      · omega
      · exact h2), zapO]
theorem off_bound (recs : List RecV) (idx w : Int) (k : Nat) (hl : recs.length ≤ 40) (i : Nat) : 0 ≤ (offAt recs idx w k).getD i 0 ∧ (offAt recs idx w k).getD i 0 ≤ 40 := by
  by_cases hi : i < 8
  · rw [offAt_get hi]
    unfold offG
    have h2 := cnt_le (recs.take k) i
    have h3 : (recs.take k).length ≤ recs.length := by rw [List.length_take]; omega
    split
    · omega
    · omega
  · rw [List.getD_eq_getElem?_getD, List.getElem?_eq_none (by rw [offAt_len]; omega)]
    simp
theorem rest_off (recs : List RecV) (idx w : Int) (k : Nat) (hl : recs.length ≤ 40) : restR (offAt recs idx w k) (ownL idx w) = some zer8 := by
  unfold ownL ownP
  rw [restR_zap _ _ (off_bound recs idx w k hl)]
  congr 1
  apply List.ext_getElem
  · rw [zapO_len, offAt_len]; rfl
  · intro i h1 h2
    have h3 : i < 8 := h2
    have e1 : (zapO (offAt recs idx w k) ((List.range 8).filter (ownG idx w)))[i] = 0 := by
      have := zapO_get i ((List.range 8).filter (ownG idx w)) (offAt recs idx w k)
      rw [List.getD_eq_getElem?_getD, List.getElem?_eq_getElem h1, Option.getD_some] at this
      rw [this]
      by_cases ho : ownG idx w i = true
      · rw [if_pos (by simp [h3, ho])]
      · rw [if_neg (by simp [ho]), offAt_get h3, offG, if_neg ho]
    rw [e1]
    have : ∀ j : Fin 8, zer8[j.1]'j.2 = 0 := by decide
    exact (this ⟨i, h3⟩).symm
theorem SpV.Ok.fits {s : SpV} (h : s.Ok) (k n : Nat) (f : Bool) (na : Option Addr) (nc : Nat) (hl : s.x.recs.length ≤ 40) : fitsSn (s.t k n f).os (snapOf (s.t k n f) (selfR (s.t k n f)).1 (selfR (s.t k n f)).2.1 na nc) = true := by
  rw [h.self k n f]
  have e1 : chkSn (snapOf (s.t k n f) ⟨1, s.w, none, 0, [], s.a, 0⟩ (0, s.idx) na nc) = 0 := by
    unfold chkSn
    rw [if_neg (show ¬ _ by
      rintro (e | e | e | e | e)
      · rw [show shareB (snapOf (s.t k n f) ⟨1, s.w, none, 0, [], s.a, 0⟩ (0, s.idx) na nc).idx (snapOf (s.t k n f) ⟨1, s.w, none, 0, [], s.a, 0⟩ (0, s.idx) na nc).wd = true from h.share] at e
        cases e
      · exact absurd (show (0 : Int) < 0 from e) (by decide)
      · exact absurd (show (8 : Int) ≤ 0 from e) (by decide)
      · exact e rfl
      · exact absurd (show namedB [] = false from e) (by decide)),
      show restR (snapOf (s.t k n f) ⟨1, s.w, none, 0, [], s.a, 0⟩ (0, s.idx) na nc).offs (ownL (snapOf (s.t k n f) ⟨1, s.w, none, 0, [], s.a, 0⟩ (0, s.idx) na nc).idx (snapOf (s.t k n f) ⟨1, s.w, none, 0, [], s.a, 0⟩ (0, s.idx) na nc).wd) = some zer8 from rest_off _ _ _ _ hl]
    show (if zer8 ≠ zer8 ∨ ([] : List KcV).any (alienB s.idx s.w) = true then (280 : Int) else 0) = 0
    simp
  unfold fitsSn
  rw [if_neg (show ¬ (chkG (s.t k n f).os).2 ≠ 0 by rw [show (chkG (s.t k n f).os).2 = 0 from h.chk]; simp), if_neg (by simp [e1])]
  show fitsOp ⟨1, s.w, none, 0, [], s.a, 0⟩ (snapOf (s.t k n f) ⟨1, s.w, none, 0, [], s.a, 0⟩ (0, s.idx) na nc) = true
  simp [fitsOp, snapOf, SpV.t, keepsB]
theorem SpV.Ok.fit {s : SpV} (h : s.Ok) (h0 : chkSrc (s.t 0 0 false) = 0) : s.Fit := by
  unfold chkSrc at h0
  split at h0
  · cases h0
  · split at h0
    · cases h0
    · rename_i h1 h2
      have h3 : srcB (s.t 0 0 false) (selfR (s.t 0 0 false)).1 (selfR (s.t 0 0 false)).2.1 = true := by
        cases hx : srcB (s.t 0 0 false) (selfR (s.t 0 0 false)).1 (selfR (s.t 0 0 false)).2.1 with
        | true => rfl
        | false => exact absurd (.inl hx) h2
      rw [h.self] at h3
      simp only [srcB, Bool.and_eq_true, beq_iff_eq] at h3
      refine ⟨h, h3.1.1.1, ?_⟩
      have h4 : chkOff s.x (offAt s.x.recs s.idx s.w 0) = 0 := h3.1.1.2
      unfold chkOff at h4
      split at h4
      · rename_i h5
        exact absurd h4 h5
      · rename_i h5
        exact Classical.byContradiction (fun e => h5 e)
theorem SpV.Fit.len {s : SpV} (h : s.Fit) : s.x.recs.length ≤ 40 := (chkIn_zero h.inp).1
theorem SpV.Fit.recs {s : SpV} (h : s.Fit) : ∀ r ∈ s.x.recs, chkRec r = 0 := fun _ hr => (chkIn_rec h.inp hr).1
theorem SpV.Fit.off {s : SpV} (h : s.Fit) (k : Nat) : chkOff s.x (offAt s.x.recs s.idx s.w k) = 0 := chk_at h.inp k
theorem SpV.Fit.ask {s : SpV} (h : s.Fit) (k : Nat) : askI s.x (offAt s.x.recs s.idx s.w k) s.idx s.w = 0 := by
  unfold askI
  rw [if_neg (by simp [h.off k]), if_pos h.ok.share]
theorem SpV.Fit.next {s : SpV} (h : s.Fit) (k : Nat) : NextR s.x (offAt s.x.recs s.idx s.w k) s.idx s.w = match nextL (offAt s.x.recs s.idx s.w k) s.x.recs s.idx s.w with
    | none => (⟨0, 0, 0⟩, 0, false, 0)
    | some r => (r, grpN r, true, 0) := by
  unfold NextR
  rw [if_neg (by simp [h.ask k])]
  cases nextL (offAt s.x.recs s.idx s.w k) s.x.recs s.idx s.w <;> rfl
theorem SpV.Fit.read {s : SpV} (h : s.Fit) (k : Nat) : ReadR s.x (offAt s.x.recs s.idx s.w k) s.idx s.w = (readO (offAt s.x.recs s.idx s.w k) (nextL (offAt s.x.recs s.idx s.w k) s.x.recs s.idx s.w), 0) := by
  unfold ReadR
  rw [if_neg (by simp [h.ask k])]
theorem SpV.Fit.chk {s : SpV} (h : s.Fit) {k n : Nat} {f : Bool} (hn : n ≤ 4611686018427387904) (hf : f = true → nextL (offAt s.x.recs s.idx s.w k) s.x.recs s.idx s.w = none) : chkSrc (s.t k n f) = 0 := by
  have h1 : srcB (s.t k n f) (selfR (s.t k n f)).1 (selfR (s.t k n f)).2.1 = true := by
    rw [h.ok.self]
    show ((s.x.src == s.a) && (chkOff s.x (offAt s.x.recs s.idx s.w k) == 0) && zeroG 0 0 0 && (!f || !(NextR s.x (offAt s.x.recs s.idx s.w k) s.idx s.w).2.2.1)) = true
    rw [h.src, h.off k, h.next k]
    cases f with
    | false => simp [zeroG]
    | true => rw [hf rfl]; simp [zeroG]
  unfold chkSrc
  rw [if_neg (by
      rintro (e | e | e | e)
      · rw [h.ok.self] at e; cases e
      · exact absurd (show (1 : Int) < 1 from e) (by decide)
      · exact absurd (show (1048576 : Int) < 1 from e) (by decide)
      · exact absurd (show 4611686018427387904 < n from e) (by omega)),
    if_neg (by
      rintro (e | e | e)
      · rw [h1] at e; cases e
      · exact absurd (show zeroS ⟨0, 0, 0, false, none, 0, []⟩ = false from e) (by decide)
      · rw [h.ok.fits k n f none 0 h.len] at e; cases e)]
theorem SpV.Fit.src1 {s : SpV} (h : s.Fit) {k n : Nat} {f : Bool} (hn : n ≤ 4611686018427387904) (hf : f = true → nextL (offAt s.x.recs s.idx s.w k) s.x.recs s.idx s.w = none) : Src1 (s.t k n f) s.idx 1 :=
  ⟨h.chk hn hf, by rw [h.ok.self], by show (OutR (srcG s.ia s.ic s.w s.a) s.idx).1 = [s.idx]; rw [h.ok.out], by decide, by decide⟩
theorem SpV.Fit.stp_some {s : SpV} (h : s.Fit) {k k' n : Nat} {r : RecV} (e : nextL (offAt s.x.recs s.idx s.w k) s.x.recs s.idx s.w = some r) (e2 : readO (offAt s.x.recs s.idx s.w k) (some r) = offAt s.x.recs s.idx s.w k') :
    StpV (s.t k n false) = (s.t k' n false, ⟨1, r, 0⟩, false) := by
  unfold StpV
  rw [h.ok.self]
  rw [show NextR (s.t k n false).inp (s.t k n false).offs (0, s.idx).2 (⟨1, s.w, none, 0, [], s.a, 0⟩ : OpM).width = (r, (grpN r : Int), true, 0) by
    show NextR s.x (offAt s.x.recs s.idx s.w k) s.idx s.w = _
    rw [h.next k, e]]
  rw [show ReadR (s.t k n false).inp (s.t k n false).offs (0, s.idx).2 (⟨1, s.w, none, 0, [], s.a, 0⟩ : OpM).width = (offAt s.x.recs s.idx s.w k', 0) by
    show ReadR s.x (offAt s.x.recs s.idx s.w k) s.idx s.w = _
    rw [h.read k, e, e2]]
  rfl
theorem SpV.Fit.stp_none {s : SpV} (h : s.Fit) {k n : Nat} (e : nextL (offAt s.x.recs s.idx s.w k) s.x.recs s.idx s.w = none) : StpV (s.t k n false) = (s.t k n true, endEl, true) := by
  unfold StpV
  rw [h.ok.self]
  rw [show NextR (s.t k n false).inp (s.t k n false).offs (0, s.idx).2 (⟨1, s.w, none, 0, [], s.a, 0⟩ : OpM).width = (⟨0, 0, 0⟩, 0, false, 0) by
    show NextR s.x (offAt s.x.recs s.idx s.w k) s.idx s.w = _
    rw [h.next k, e]]
  rfl
theorem SpV.Fit.route {s : SpV} (h : s.Fit) {k n : Nat} : (NextR (s.t k n false).inp (s.t k n false).offs (selfR (s.t k n false)).2.1.2 (selfR (s.t k n false)).1.width).2.2.1 = true →
    RouteR (s.t k n false).os (s.t k n false).sub (NextR (s.t k n false).inp (s.t k n false).offs (selfR (s.t k n false)).2.1.2 (selfR (s.t k n false)).1.width).1 = ([s.idx], 0) := by
  rw [h.ok.self]
  show (NextR s.x (offAt s.x.recs s.idx s.w k) s.idx s.w).2.2.1 = true → RouteR (srcG s.ia s.ic s.w s.a) s.idx (NextR s.x (offAt s.x.recs s.idx s.w k) s.idx s.w).1 = ([s.idx], 0)
  rw [h.next k]
  cases e : nextL (offAt s.x.recs s.idx s.w k) s.x.recs s.idx s.w with
  | none => intro x; cases x
  | some r =>
    intro _
    obtain ⟨_, _, _, _, _, hm, _⟩ := next_some h.recs h.ok.share e
    exact h.ok.route hm
theorem SpV.Fit.sum {s : SpV} (h : s.Fit) (k : Nat) : (offAt s.x.recs s.idx s.w k).sum = ((mineL (s.x.recs.take k) s.idx s.w).length : Int) := sum_off h.recs h.ok.share k
theorem vals_prefix {all head t : List RecV} (e : all = head ++ t) (key : RecV) : ∃ u, valsK all key = valsK head key ++ u := ⟨valsK t key, by rw [e]; simp [valsK]⟩
end Go.Proofs.YtbonfdkgkcbkmaaGreat
end

section
namespace Go.Proofs.YtbonfdkgkcbkmaaGreat
set_option maxRecDepth 100000
open Go.RowKit Go.Shelf

attribute [local go_sem] Oper.semAt_some
/-- Where a source's graph and records lie. -/
structure SpV.In (s : SpV) (W : World) : Prop where
  ops : OpsIn W s.ga (srcG s.ia s.ic s.w s.a)
  gc1 : 2 ≤ s.gc
  gc2 : s.gc ≤ maxLen
  recs : RecsIn W s.x.ra s.x.recs
  rl : s.x.recs.length ≤ 140737488351232
theorem SpV.In.kept {s : SpV} {W W' : World} (h : s.In W) (hu : Upd0 W W') : s.In W' := ⟨h.ops.kept hu, h.gc1, h.gc2, h.recs.kept hu, h.rl⟩
theorem SpV.In.tk {s : SpV} {W : World} (h : s.In W) (k n : Nat) (f : Bool) : TkIn W (s.t k n f) :=
  ⟨h.ops, by simp [SpV.t, srcG], h.gc1, h.gc2, h.recs, h.rl, offAt_len _ _ _ _, Row.nil _ _ _, by simp [SpV.t], Row.nil _ _ _, by simp [SpV.t]⟩
theorem SpV.new {s : SpV} (h : s.Ok) (W : World) (hi : s.In W) :
    Calls Tryz.prog 26 #[.agg #[.slice s.ga 2 s.gc], .int .i64 s.idx, .int .i64 1, .agg #[.int .i64 s.x.src, .slice s.x.ra s.x.recs.length s.x.rc], .agg #[.int .i64 0, .int .i64 s.idx, .int .i64 s.w, .bool false, .slice none 0 0, .int .i64 0, .int .i64 0, .int .i64 0, .int .i64 0, .int .i64 0, .int .i64 0, .int .i64 0, .int .i64 0, .slice none 0 0]] W fun e w' =>
      (∃ (cs : List Value) (er : Int), e = .returned (.tuple #[.agg cs.toArray, .int .i64 er]) ∧ cs.length = 24 ∧ (∀ v ∈ cs, v.oneCell' = true) ∧ ((er = 0 ∧ s.Fit ∧ cs = (s.t 0 0 false).cells) ∨ er = 2)) ∧ Upd0 W w' := by
  have ht := s.t0
  have hin := hi.tk 0 0 false
  rw [← ht] at hin
  have hse := h.self 0 0 false
  rw [← ht] at hse
  have hc := tnew_any (oa := s.ga) (os := srcG s.ia s.ic s.w s.a) (oc := s.gc) s.idx 1 s.x (snap0 s.idx s.w) W hin ⟨Row.nil _ _ _, by simp [snap0], Row.nil _ _ _, by simp [snap0], rfl⟩ h.chk (by rw [hse]) (by rw [hse]) (by decide) (by decide)
    (by rw [hse]; rfl) (by rw [hse]; rfl) (by rw [hse]; rfl)
  refine hc.mono ?_
  rintro e w' ⟨h1, h2⟩
  refine ⟨?_, h2⟩
  unfold NewA at h1
  rw [ht] at h1
  cases hok : (fitsSn (srcG s.ia s.ic s.w s.a) (snap0 s.idx s.w) && (chkSrc (s.t 0 0 false) == 0)) with
  | true =>
    rw [hok] at h1
    simp only [Bool.and_eq_true, beq_iff_eq] at hok
    exact ⟨_, 0, h1, TkV.clen (offAt_len _ _ _ _), TkV.one _, .inl ⟨rfl, h.fit hok.2, rfl⟩⟩
  | false =>
    rw [hok] at h1
    exact ⟨_, 2, h1, rfl, zeroTk_one, .inr rfl⟩
theorem SpV.trig {s : SpV} (h : s.Fit) {k : Nat} {f : Bool} {ra : Option Addr} {rc : Nat} (hf : f = true → nextL (offAt s.x.recs s.idx s.w k) s.x.recs s.idx s.w = none) (W : World) (hi : s.In W) (hr : IntsIn W ra [1]) :
    Calls Tryz.prog 22 #[.agg (s.t k 0 f).cells.toArray, .int .u64 5, .slice ra 1 rc] W fun e w' =>
      (∃ D : List Value, D.length = 18 ∧ (∀ v ∈ D, v.oneCell' = true) ∧ e = .returned (.tuple #[.agg (s.t k 5 f).cells.toArray, .agg D.toArray, .int .i64 0]) ∧
        (f = false → ∃ eA eC na nc, D = deedV eA eC (snapOf (s.t k 5 f) ⟨1, s.w, none, 0, [], s.a, 0⟩ (0, s.idx) na nc).cells 5 false ∧ w'.ownsRow W.heap.size 97 6 (.slice eA 1 eC) 1 (EmV.cells ⟨s.idx, ⟨2, ⟨0, 0, 0⟩, 5⟩⟩))) ∧ Upd0 W w' := by
  have hc := trigger_any (rc := rc) (s.t k 0 f) 5 W (hi.tk k 0 f) (h.src1 (by decide) hf) hr (by decide) (by decide) (by show 0 < 5; decide)
  refine hc.mono ?_
  rintro e w' ⟨⟨D, d1, d2, d3, d4⟩, h2⟩
  refine ⟨⟨D, d1, d2, d3, fun e1 => ?_⟩, h2⟩
  obtain ⟨eA, eC, na, nc, e2, e3⟩ := d4 e1
  rw [h.ok.self] at e2
  exact ⟨eA, eC, na, nc, e2, e3⟩
theorem SpV.step {s : SpV} (h : s.Fit) {k n : Nat} {ra : Option Addr} {rc : Nat} (hk : k ≤ s.x.recs.length) (hn : n ≤ 4611686018427387904) (W : World) (hi : s.In W) (hr : IntsIn W ra [1]) :
    Calls Tryz.prog 28 #[.agg (s.t k n false).cells.toArray, .int .i64 0, .slice ra 1 rc] W fun e w' =>
      (∃ (k2 : Nat) (f2 : Bool) (el : ElV) (eA : Option Addr) (eC : Nat), e = .returned (.tuple #[.agg (s.t k2 n f2).cells.toArray, .agg (deedV eA eC zeroSn 0 f2).toArray, .int .i64 0]) ∧ w'.ownsRow W.heap.size 97 6 (.slice eA 1 eC) 1 (EmV.cells ⟨s.idx, el⟩) ∧ k2 ≤ s.x.recs.length ∧
        (f2 = true → nextL (offAt s.x.recs s.idx s.w k2) s.x.recs s.idx s.w = none) ∧ ((el.kind = 1 ∧ mineL (s.x.recs.take k2) s.idx s.w = mineL (s.x.recs.take k) s.idx s.w ++ [el.rec']) ∨ (el.kind = 3 ∧ k2 = k))) ∧ Upd0 W w' := by
  have hc := tstep_any (rc := rc) (s.t k n false) W (hi.tk k n false) (h.src1 hn (fun e => by cases e)) rfl hr h.route
  refine hc.mono ?_
  rintro e w' ⟨eA, eC, h1, h2, h3⟩
  refine ⟨?_, h3⟩
  cases hx : nextL (offAt s.x.recs s.idx s.w k) s.x.recs s.idx s.w with
  | none =>
    rw [h.stp_none hx] at h1 h2
    exact ⟨k, true, endEl, eA, eC, h1, h2, hk, fun _ => hx, .inr ⟨rfl, rfl⟩⟩
  | some r =>
    obtain ⟨k', _, hk', e1, e2, _, _⟩ := next_some h.recs h.ok.share hx
    rw [h.stp_some hx e2] at h1 h2
    exact ⟨k', false, ⟨1, r, 0⟩, eA, eC, h1, h2, hk', (fun e => by cases e), .inl ⟨rfl, e1⟩⟩
theorem src_ops {W : World} {g : Nat} {wd a : Int} (h0 : W.heap[g]? = some (.cells #[.int .i64 0] 3 (0, 0)))
    (h1 : W.heap[g + 1]? = some (.cells #[.int .i64 1, .int .i64 wd, .slice none 0 0, .int .i64 a, .int .i64 0, .int .i64 7, .int .i64 1, .slice (some ⟨g, 0, none⟩) 1 1, .int .i64 0, .int .i64 0] 89 (0, 0))) : OpsIn W (some ⟨g + 1, 0, none⟩) (srcG (some ⟨g, 0, none⟩) 1 wd a) := by
  refine ⟨Row.of_block (s := 5) (n := 2) 89 h1 (by omega) (by simp [srcG, OpM.cells]) rfl (by unfold maxLen; omega), ?_⟩
  intro o ho
  simp only [srcG, List.mem_cons, List.not_mem_nil, or_false] at ho
  rcases ho with rfl | rfl
  · exact ⟨Row.nil _ _ _, by simp⟩
  · exact ⟨Row.of_block (s := 1) (n := 1) (els := [[.int .i64 0]]) 3 h0 (by omega) (by simp) rfl (by unfold maxLen; omega), by simp⟩
theorem sum_take (o : List Int) (n : Nat) (h : n < o.length) : (o.take (n + 1)).sum = (o.take n).sum + o.getD n 0 := by
  rw [List.take_add_one, List.getElem?_eq_getElem h, List.sum_append, List.getD_eq_getElem?_getD, List.getElem?_eq_getElem h]
  simp
theorem sum_bound (o : List Int) (hb : ∀ i, 0 ≤ o.getD i 0 ∧ o.getD i 0 ≤ 40) : ∀ n, n ≤ o.length → 0 ≤ (o.take n).sum ∧ (o.take n).sum ≤ 40 * n
  | 0, _ => by simp
  | n + 1, h => by
    have := sum_bound o hb n (by omega)
    have := hb n
    rw [sum_take o n (by omega)]
    omega
/-- The records of a share among the first k. -/
def SpV.got (s : SpV) (k : Nat) : List RecV := mineL (s.x.recs.take k) s.idx s.w
theorem SpV.got_len (s : SpV) (k : Nat) : (s.got k).length ≤ s.x.recs.length := by
  unfold SpV.got mineL
  have h1 := List.length_filter_le (fun r => mineB r s.idx s.w) (s.x.recs.take k)
  rw [List.length_take] at h1
  omega
theorem SpV.sumgot {s : SpV} (h : s.Fit) (k : Nat) : ((offAt s.x.recs s.idx s.w k).take 8).sum = ((s.got k).length : Int) := by
  rw [List.take_of_length_le (by rw [offAt_len]; omega)]
  exact h.sum k
theorem deed_offs {W : World} {q n eC : Nat} {eA : Option Addr} {sn : SnV} {fin : Bool} (h : W.heap[q]? = some (.cells (deedV eA eC sn.cells n fin).toArray 82 (0, 0))) : W.rangeAt q 7 (sn.offs.map I) :=
  range_app (t := 82) (A := [.slice eA 1 eC, .slice none 0 0, .int .i64 sn.op, .int .i64 sn.idx, .int .i64 sn.wd, .bool sn.fin, .slice sn.ta sn.rows.length sn.tc]) (B := sn.offs.map I) (C := [.slice sn.na sn.names.length sn.nc, .int .u64 n, .bool fin]) (by rw [h]; simp [deedV, SnV.cells]) rfl
theorem SpV.clen (s : SpV) (k n : Nat) (f : Bool) : (s.t k n f).cells.length = 24 := TkV.clen (offAt_len _ _ _ _)
/-- What holds between the rounds of a source's run. -/
structure SoAt (s : SpV) (wq : World) (tb k n : Nat) (f : Bool) (qa : Option Addr) (qc : Nat) (W : World) : Prop where
  box : W.heap[tb]? = some (.cells (s.t k n f).cells.toArray 74 (0, 0))
  row : OwnR W wq.heap.size (.slice qa (s.got k).length qc) (s.got k)
  upd : Upd0 wq W
  low : wq.heap.size ≤ tb
  kl : k ≤ s.x.recs.length
  fin : f = true → nextL (offAt s.x.recs s.idx s.w k) s.x.recs s.idx s.w = none
theorem SoAt.upd0 {s : SpV} {wq : World} {tb k n : Nat} {f : Bool} {qa : Option Addr} {qc : Nat} {W W' : World} (h : SoAt s wq tb k n f qa qc W) (hu : Upd0 W W') : SoAt s wq tb k n f qa qc W' :=
  ⟨(hu.block _ (lt_of_heap h.box) (fun e => e)).trans h.box, ownsRow_any h.row hu (fun _ _ e => e), h.upd.trans hu, h.low, h.kl, h.fin⟩
/-- The task laid down anew. -/
theorem SoAt.lay {s : SpV} {wq : World} {tb k n n2 : Nat} {f : Bool} {qa : Option Addr} {qc : Nat} {W W' : World} (h : SoAt s wq tb k n f qa qc W) (hu : Upd (fun q => q = tb) W W') (hb : W'.heap[tb]? = some (.cells (s.t k n2 f).cells.toArray 74 (0, 0))) : SoAt s wq tb k n2 f qa qc W' :=
  ⟨hb, ownsRow_any h.row hu (own_neT h.row h.box (by decide)), h.upd.cut hu (fun q hq => by have := h.low; omega), h.low, h.kl, h.fin⟩
theorem SpV.got_succ {s : SpV} {m : Nat} {r : RecV} (h : s.x.recs[m]? = some r) : s.got (m + 1) = s.got m ++ if mineB r s.idx s.w then [r] else [] := by
  unfold SpV.got mineL
  rw [take_cons' h, List.filter_append]
  congr 1
  simp only [List.filter_cons, List.filter_nil]
theorem SpV.got_all (s : SpV) {m : Nat} (h : s.x.recs.length ≤ m) (k : Nat) : ∃ u, s.got m = s.got k ++ u := by
  unfold SpV.got
  rw [List.take_of_length_le h]
  exact mineL_take _ _ _ _
theorem SpV.got_fin {s : SpV} (h : s.Fit) {k m : Nat} (hm : s.x.recs.length ≤ m) (hf : nextL (offAt s.x.recs s.idx s.w k) s.x.recs s.idx s.w = none) : s.got k = s.got m := by
  unfold SpV.got
  rw [List.take_of_length_le hm]
  exact next_none h.recs h.ok.share hf
theorem SpV.has {s : SpV} (h : s.Fit) {r : RecV} (hr : r ∈ s.x.recs) (W : World) (hi : s.In W) :
    Calls Tryz.prog 29 #[.agg #[.slice s.ga 2 s.gc], .int .i64 s.idx, .agg #[.int .i64 r.src, .int .i64 r.key, .int .i64 r.val]] W fun e w' => e = .returned (.tuple #[.bool (mineB r s.idx s.w), .int .i64 0]) ∧ Upd0 W w' := by
  have hc := phasx_any (oc := s.gc) s.idx r W hi.ops (by simp [srcG]) hi.gc1 hi.gc2
  rw [h.ok.hasx (h.recs r hr)] at hc
  exact hc
end Go.Proofs.YtbonfdkgkcbkmaaGreat
end

