/- Walks of the laws: DiskCalls. -/
import Derived.Test.YtbimkhdiplnbfaaU2
import Derived.Test.YtbimkhdiplnbfaaU13
import Derived.Test.YtbimkhdiplnbfaaU15
import Derived.Test.YtbimkhdiplnbfaaU17
import Derived.Test.YtbimkhdiplnbfaaU22
import Derived.Test.YtbimkhdiplnbfaaU24

namespace Go.Proofs.Ytbimkhdiplnbfaa
open Go.RowKit Go.Deep

theorem fresh56e (W : World) (bs : List Value) (hb : bs.length = 64) : (W.alloc (.cells (bcells zblk).toArray 56)).there W.heap.size 0 bs.toArray.size ∧ ((W.alloc (.cells (bcells zblk).toArray 56)).setCells W.heap.size 0 bs).heap[W.heap.size]? = some (.cells bs.toArray 56 (0, 0)) ∧
    Upd (fun _ => False) W ((W.alloc (.cells (bcells zblk).toArray 56)).setCells W.heap.size 0 bs) := by
  have hblk : (W.alloc (.cells (bcells zblk).toArray 56)).heap[W.heap.size]? = some (.cells (bcells zblk).toArray 56 (0, 0)) := alloc_at rfl
  have hzl : (bcells zblk).toArray.size = bs.toArray.size := by simp [bcells, zblk, hb]
  refine ⟨?_, heap_setCells_whole (vs := bs) hblk (by rw [hzl]; simp), ?_⟩
  · have := there_block hblk
    rwa [hzl] at this
  · have := Upd.setCells (F := fun j => W.heap.size ≤ j) (b := W.heap.size) (Nat.le_refl _) bs 0 ((Upd.refl _ W).alloc (.cells (bcells zblk).toArray 56))
    exact this.mono (fun j hj e => by omega)

theorem made_blocks (n : Nat) : (madeCells (bcells zblk).toArray (n * 64)).toList = (List.replicate n zblk).flatMap bcells := by
  have h1 : (madeCells (bcells zblk).toArray (n * 64)).toList = List.replicate (n * 64) (.int .u8 0) := by
    refine List.eq_replicate_iff.2 ⟨by simp [size_madeCells], fun b hb => ?_⟩
    simp only [madeCells, Array.toList_map, List.mem_map] at hb
    obtain ⟨i, _, rfl⟩ := hb
    have hs : (bcells zblk).toArray.size = 64 := by simp [bcells, zblk]
    have hlt : i % (bcells zblk).toArray.size < (bcells zblk).toArray.size := Nat.mod_lt _ (by omega)
    rw [getElem!_pos (bcells zblk).toArray _ hlt]
    have hv : ∀ v ∈ (bcells zblk).toArray, v = .int .u8 0 := fun v hv => by
      simp only [bcells, List.mem_toArray, List.mem_map] at hv
      obtain ⟨y, hy, rfl⟩ := hv
      rw [List.eq_of_mem_replicate hy]
    exact hv _ (Array.getElem_mem hlt)
  have h2 : ∀ n : Nat, (List.replicate n zblk).flatMap bcells = List.replicate (n * 64) (.int .u8 0) := by
    intro n
    induction n with
    | zero => rfl
    | succ n ih =>
      rw [List.replicate_succ, List.flatMap_cons, ih]
      simp only [bcells, zblk, List.map_replicate, List.replicate_append_replicate]
      congr 1; omega
  rw [h1, h2]

theorem refAt_new {N g : Nat} {F : Nat → Prop} {w : World} (hN : 1 ≤ N ∧ N ≤ 2048) (hg : w.heap[g]? = some (.cells (madeCells (bcells zblk).toArray (N * 64)) 56 (0, 0))) (hF : ¬ F g) :
    RefAt F w (Dk.new N) (.agg #[.slice (some ⟨g, 0, none⟩) N N, .slice none 0 0, .int .i64 0, .int .i64 (-1), .int .i64 (-1), .bool false]) := by
  refine ⟨some ⟨g, 0, none⟩, N, none, 0, by simp [refV, Dk.new], ?_, rowR_nil w, fun a e => ?_, fun a e => by cases e⟩
  · have hl : (Dk.new N).arr.length = N := by simp [Dk.new]
    unfold ArrS
    rw [hl]
    refine ⟨?_, .inr ⟨g, N, _, rfl, Nat.zero_le _, hg, Nat.le_refl _, by unfold maxLen; omega, by simp [size_madeCells], ?_⟩⟩
    · show ((List.replicate N zblk).flatMap bcells).length = N * 64
      rw [← made_blocks]; simp [size_madeCells]
    · rw [made_blocks]
      show ((List.replicate N zblk).flatMap bcells).take (N * 64) = (List.replicate N zblk).flatMap bcells
      refine List.take_of_length_le ?_
      rw [← made_blocks]; simp [size_madeCells]
  · have := Option.some.inj e
    subst this
    exact hF

/-- What holds between two rounds of DiskCalls. -/
def CallSt (wB : World) (p : Nat) (F2 : Nat → Prop) (bm : Nat) (D : Dk) (wr : World) : Prop :=
  ∃ (F : Nat → Prop) (cs : List Value), Dsk wr p D F ∧ (∀ k, F k → F2 k ∨ wB.heap.size ≤ k) ∧ RefAt (fun k => F k ∨ k = bm) wr D (.agg cs.toArray) ∧ cs.length = 6 ∧ wr.heap[bm]? = some (.cells cs.toArray 69 (0, 0)) ∧ Upd (fun k => F2 k ∨ k = bm) wB wr

theorem refV_cells {F : Nat → Prop} {w : World} {D : Dk} {v : Value} (h : RefAt F w D v) : ∃ Aa Ac Ra Rc, v = .agg [.slice Aa D.arr.length Ac, .slice Ra D.row.length Rc, .int .i64 D.ops, .int .i64 D.arm, .int .i64 D.fail, .bool D.dead].toArray ∧ RowR w Ra Rc D.row := by
  obtain ⟨Aa, Ac, Ra, Rc, h1, h2, h3, h4, h5⟩ := h
  exact ⟨Aa, Ac, Ra, Rc, h1, h3⟩

theorem tells_ref {p : Nat} {D : Dk} {F G : Nat → Prop} {v : Value} {K : Nat} (w : World) (hd : Dsk w p D F) (hok : D.Ok K) (hK : K ≤ 1000000) (hv : RefAt G w D v) :
    Calls Try.prog 46 #[.pointer (some ⟨p, 0, none⟩), v] w fun e w' => e = .returned (.bool true) ∧ Upd (fun _ => False) w w' := by
  obtain ⟨Aa, Ac, Ra, Rc, rfl, hA, hR, _, _⟩ := hv
  refine tells_run Aa Ra Ac D.row.length Rc D.arm D.fail w hd (hok.mono (by omega)) (fun W hu => ?_)
  refine (refPending_run Aa Ra D.arr.length Ac Rc D.row D.ops D.arm D.fail D.dead W (hR.kept hu) (fun x hx => (hok.rblks x hx).1.1) (Nat.le_trans hok.rowlen hK)).mono ?_
  rintro e w' ⟨u, h1, h2, h3⟩
  exact ⟨u, h1, ⟨h2.1, h2.2.imp id fun ⟨g, cap, cur, a1, _, a3⟩ => ⟨g, cap, cur, a1, Nat.zero_le _, a3⟩⟩, h3⟩

theorem callsIn_cell {w : World} {sa : Option Addr} {sc : Nat} {L : List CallR} (h : CallsIn w sa sc L) {j : Nat} {x : CallR} (hx : L[j]? = some x) :
    ∃ b o, sa = some ⟨b, o, none⟩ ∧ b < w.heap.size ∧ ∀ t, t < 5 → w.cell? ⟨b, o + (j * 5 + t), none⟩ = (cells5 x)[t]? := by
  rcases h with ⟨_, rfl, _⟩ | ⟨a, rfl, _, _, hc⟩
  · simp at hx
  · have hcell : ∀ t, t < 5 → w.cell? (a.add (j * 5 + t)) = (cells5 x)[t]? := fun t ht => by
      have hq := flat5_at L j t x hx ht
      obtain ⟨u, hu⟩ : ∃ u, (cells5 x)[t]? = some u := ⟨(cells5 x)[t]'(by rw [cells5_length]; exact ht), by simp [cells5_length, ht]⟩
      rw [hu] at hq ⊢
      exact hc _ _ hq
    obtain ⟨y, hy⟩ : ∃ y, L[0]? = some y := ⟨L[0]'(by have := (List.getElem?_eq_some_iff.1 hx).1; omega), by have := (List.getElem?_eq_some_iff.1 hx).1; simp [show 0 < L.length by omega]⟩
    have h0 := hc 0 _ (by have := flat5_at L 0 0 y hy (by omega); simpa [cells5] using this)
    obtain ⟨b, o, sp⟩ := a
    have hsp : sp = none := by simpa [Addr.add] using World.cell?_spot h0
    subst hsp
    have ea : ∀ i, (⟨b, o, none⟩ : Addr).add i = ⟨b, o + i, none⟩ := fun i => by unfold Addr.add; split <;> first | rfl | simp_all
    refine ⟨b, o, rfl, ?_, fun t ht => by rw [← ea]; exact hcell t ht⟩
    rcases Nat.lt_or_ge b w.heap.size with h' | h'
    · exact h'
    · rw [ea] at h0
      simp [World.cell?, Array.getElem?_eq_none h'] at h0

/-- Two new blocks, both stored into. -/
theorem two_boxes (W : World) (zs cs bs : List Value) (hz : zs.length = 6) (hc : cs.length = 6) (hb : bs.length = 64) :
    ((W.alloc (.cells zs.toArray 69)).alloc (.cells (bcells zblk).toArray 56)).there W.heap.size 0 cs.toArray.size ∧
    (((W.alloc (.cells zs.toArray 69)).alloc (.cells (bcells zblk).toArray 56)).setCells W.heap.size 0 cs).there (W.heap.size + 1) 0 bs.toArray.size ∧
    ((((W.alloc (.cells zs.toArray 69)).alloc (.cells (bcells zblk).toArray 56)).setCells W.heap.size 0 cs).setCells (W.heap.size + 1) 0 bs).heap[W.heap.size]? = some (.cells cs.toArray 69 (0, 0)) ∧
    ((((W.alloc (.cells zs.toArray 69)).alloc (.cells (bcells zblk).toArray 56)).setCells W.heap.size 0 cs).setCells (W.heap.size + 1) 0 bs).heap[W.heap.size + 1]? = some (.cells bs.toArray 56 (0, 0)) ∧
    Upd (fun _ => False) W ((((W.alloc (.cells zs.toArray 69)).alloc (.cells (bcells zblk).toArray 56)).setCells W.heap.size 0 cs).setCells (W.heap.size + 1) 0 bs) := by
  have h1 : ((W.alloc (.cells zs.toArray 69)).alloc (.cells (bcells zblk).toArray 56)).heap[W.heap.size]? = some (.cells zs.toArray 69 (0, 0)) := (alloc_lt (by simp)).trans (alloc_at rfl)
  have h2 : ((W.alloc (.cells zs.toArray 69)).alloc (.cells (bcells zblk).toArray 56)).heap[W.heap.size + 1]? = some (.cells (bcells zblk).toArray 56 (0, 0)) := alloc_at (by simp)
  have u0 : Upd (fun j => W.heap.size ≤ j) W ((W.alloc (.cells zs.toArray 69)).alloc (.cells (bcells zblk).toArray 56)) := ((Upd.refl _ W).alloc _).alloc _
  generalize (W.alloc (.cells zs.toArray 69)).alloc (.cells (bcells zblk).toArray 56) = V at *
  have hu := upd_setCells V W.heap.size 0 cs
  have hv := upd_setCells (V.setCells W.heap.size 0 cs) (W.heap.size + 1) 0 bs
  have h3 := heap_setCells_whole (vs := cs) h1 (by simp [hz, hc])
  have h4 := (hu.block _ (lt_of_heap h2) (by omega)).trans h2
  have hzl : (bcells zblk).toArray.size = bs.toArray.size := by simp [bcells, zblk, hb]
  have h5 := heap_setCells_whole (vs := bs) h4 (by rw [hzl]; simp)
  refine ⟨?_, ?_, (hv.block _ (lt_of_heap h3) (by omega)).trans h3, h5, ?_⟩
  · have := there_block h1
    rwa [show zs.toArray.size = cs.toArray.size by simp [hz, hc]] at this
  · have := there_block h4
    rwa [hzl] at this
  · exact ((u0.trans (hu.mono (fun j _ e => by omega))).trans (hv.mono (fun j _ e => by omega))).mono (fun j hj e => by omega)

theorem wpList_execG {P : Program} {ops : Array Oper} {rest : List Oper} {o : Oper} {a : Act} {w w' : World} {v : Value} {Q : Exit → Act → World → Prop} (hw : Region.wanted o (yielded ops a.tmps) = true) (hr : (execOp a.eval o).run P w = .ok (.value v) w')
    (hK : wpList P ops Q rest (a.put o.dst v) w') : wpList P ops Q (o :: rest) a w := by
  unfold wpList
  simp only [hw, if_true]
  refine .inl ?_
  unfold Oper.wp
  rw [hr]
  exact hK

set_option maxRecDepth 100000 in
set_option maxHeartbeats 4000000 in
theorem calls_run (n : Int) (sa : Option Addr) (sc : Nat) (L : List CallR) (w : World) (hin : CallsIn w sa sc L) (hgd : ∀ x ∈ L, GoodC w x) :
    Calls Try.prog 6 #[.int .i64 n, .slice sa L.length sc] w fun e w' => e = .returned (.bool true) ∧ Upd (fun _ => False) w w' := by
  obtain ⟨N, hN, hW⟩ := wide_any n
  have HW := Lib.hid hW; have HIN := Lib.hid hin; have HG := Lib.hid hgd
  clear hW hin hgd
  go_enter Try.func6, Try.ntmps6
  go_wp2_with (go_at_call 31; fail)
  refine (wakes_run _).mono ?_
  rintro e w1 ⟨rfl, hu1⟩
  have HU1 := Lib.hid hu1
  clear hu1
  simp only []
  go_wp2_with (go_at_call 33; refine (HW.out _).mono ?_; rintro e w2 ⟨rfl, rfl⟩)
  refine (new_good N _ (by omega)).mono ?_
  rintro e w2 ⟨rfl, hN2⟩
  obtain ⟨F2, hD2, hF2, hu2⟩ := hN2.dsk (by omega)
  have HU2 := Lib.hid (HU1.out.trans hu2)
  have HD2 := Lib.hid hD2; have HF2 := Lib.hid hF2
  have hz1 := HU1.out.size
  obtain ⟨p, hp⟩ : ∃ p, p = w1.heap.size + 1 := ⟨_, rfl⟩
  rw [← hp] at HD2 ⊢
  clear hN2 hD2 hF2 hu2 hp
  simp only []
  go_wp2_with (go_at_call 33; refine (HW.out _).mono ?_; rintro e w3 ⟨rfl, rfl⟩)
  refine (refNew_run N w2 (by omega)).mono ?_
  rintro e w3 ⟨⟨g, rfl, hg, hgb⟩, hu3⟩
  have hz3 := hu3.size
  have HR3 := Lib.hid (refAt_new (F := fun k => F2 k ∨ k = w3.heap.size) (by omega) hgb (fun e => by
    have := lt_of_heap hgb
    rcases e with e | e
    · have := HD2.out.lt g e; omega
    · omega))
  have HD3 := Lib.hid (HD2.out.kept hu3 (fun _ _ e => e))
  have HU3 := Lib.hid (HU2.out.trans hu3)
  clear hgb hu3 HD2 HU2
  simp only []
  go_wp2
  have hbmF : ¬ F2 w3.heap.size := fun e => by have := HD3.out.lt _ e; omega
  obtain ⟨wB, hwB⟩ : ∃ wB, wB = (w3.alloc (.cells #[.slice (some ⟨g, 0, none⟩) N N, .slice none 0 0, .int .i64 0, .int .i64 (-1), .int .i64 (-1), .bool false] 69)) := ⟨_, rfl⟩
  have huB : Upd (fun _ => False) w3 wB := by rw [hwB]; exact (Upd.refl _ w3).alloc _
  have hzB : wB.heap.size = w3.heap.size + 1 := by rw [hwB]; simp
  have hbB : wB.heap[w3.heap.size]? = some (.cells #[.slice (some ⟨g, 0, none⟩) N N, .slice none 0 0, .int .i64 0, .int .i64 (-1), .int .i64 (-1), .bool false] 69 (0, 0)) := by rw [hwB]; exact alloc_at rfl
  have hDB := HD3.out.kept huB (fun _ _ e => e)
  have HST : RowKit.Hid (CallSt wB p F2 w3.heap.size (Dk.new N) wB) := Lib.hid ⟨F2, [.slice (some ⟨g, 0, none⟩) N N, .slice none 0 0, .int .i64 0, .int .i64 (-1), .int .i64 (-1), .bool false], hDB, fun _ e => .inl e, HR3.out.kept (huB.mono (fun _ _ e => e.elim)), rfl, hbB, Upd.refl _ _⟩
  have HUB := Lib.hid (HU3.out.trans huB)
  have HBF := Lib.hid hbmF
  have HLT : RowKit.Hid (∀ k, F2 k → k < wB.heap.size) := Lib.hid hDB.lt
  rw [← hwB]
  obtain ⟨bm, hbm⟩ : ∃ bm, bm = w3.heap.size := ⟨_, rfl⟩
  have hz0 := HU3.out.size
  rw [← hbm] at HST HBF hzB hz0 ⊢
  have hzz := HUB.out.size
  clear hwB huB hbB hDB hbmF HD3 HU3 HR3 hbm
  go_loopg [34] L.length (fun gk i wr => ∃ (j : Nat) (D : Dk), j ≤ L.length ∧ j ≤ 80 ∧ gk = L.length - j ∧ i = .int .i64 j ∧ D.Ok (2 * j) ∧ CallSt wB p F2 bm D wr)
  case atStart => exact ⟨0, Dk.new N, Nat.zero_le _, by omega, rfl, rfl, Dk.new_ok (by omega) _, HST.out⟩
  case round =>
    clear HST
    obtain ⟨j, D, hj, hj80, rfl, rfl, hok, hst⟩ := hrel
    obtain ⟨wo, rfl⟩ : ∃ wo, wo = wr := ⟨_, rfl⟩
    obtain ⟨F, cs, hD, hF, hR, hcl, hb, hu⟩ := hst
    have hw : Upd (fun _ => False) w wo := HUB.out.step hu (fun k hk e => by
      rcases e with e | e
      · have := HF2.out k e; have := HU1.out.size; omega
      · omega)
    have HOK := Lib.hid hok; have HD := Lib.hid hD; have HF := Lib.hid hF; have HR := Lib.hid hR; have HB := Lib.hid hb; have HU := Lib.hid hu; have HW0 := Lib.hid hw
    by_cases hjn : j < L.length
    · have hjn2 : (j : Int) < L.length := by omega
      obtain ⟨x, hx⟩ : ∃ x, L[j]? = some x := ⟨L[j], by simp [hjn]⟩
      obtain ⟨sb, so, rfl, hsb, hcell⟩ := callsIn_cell (HIN.out.kept hw) hx
      obtain ⟨hxc, hxn, Bk, hkeep⟩ := HG.out x (List.mem_of_getElem? hx)
      have HK := Lib.hid (hkeep.kept hw); have HKW := Lib.hid hkeep; have HXC := Lib.hid hxc; have HXN := Lib.hid hxn
      have y0 : wo.cell? ⟨sb, so + j * 5, none⟩ = some (.int .i64 x.k) := hcell 0 (by omega)
      have y1 : wo.cell? ⟨sb, so + j * 5 + 1, none⟩ = some (.int .i64 x.i) := by rw [Nat.add_assoc]; exact hcell 1 (by omega)
      have y2 : wo.cell? ⟨sb, so + j * 5 + 2, none⟩ = some (.int .i64 x.n) := by rw [Nat.add_assoc]; exact hcell 2 (by omega)
      have y3 : wo.cell? ⟨sb, so + j * 5 + 3, none⟩ = some (.int .u8 x.c) := by rw [Nat.add_assoc]; exact hcell 3 (by omega)
      have y4 : wo.cell? ⟨sb, so + j * 5 + 4, none⟩ = some (.slice x.ka x.kn x.kc) := by rw [Nat.add_assoc]; exact hcell 4 (by omega)
      clear hcell hkeep hxc hxn hx hok hD hF hR hb hu hw HIN HG
      by_cases hj8 : j = 80
      · subst hj8
        go_wp2
        go_ret
        exact ⟨rfl, HW0.out.trans ((Upd.refl _ _).alloc _)⟩
      · have hj8i : ¬ ((j : Int) = 80) := by omega
        go_upto_region 11 with fail
        obtain ⟨wv, hwv⟩ : ∃ wv, wv = wo.alloc (.cells #[.int .i64 x.k, .int .i64 x.i, .int .i64 x.n, .int .u8 x.c, .slice x.ka x.kn x.kc] 51) := ⟨_, rfl⟩
        have huv : Upd (fun _ => False) wo wv := by rw [hwv]; exact (Upd.refl _ wo).alloc _
        have hbx : wv.heap[wo.heap.size]? = some (callBox x.k x.i x.n x.c x.ka x.kn x.kc) := by rw [hwv]; exact alloc_at rfl
        have hFo := HD.out.lt
        rw [← hwv]
        obtain ⟨x0, x1, x2, x3, x4⟩ := box_cells hbx
        have HUV := Lib.hid huv; have HBX := Lib.hid hbx; have HFO := Lib.hid hFo
        clear hwv huv hbx hFo y0 y1 y2 y3 y4
        go_wp2_with (go_at_call 44; fail)
        refine (on_any x Bk wv (HK.out.kept HUV.out) (HD.out.kept HUV.out (fun _ _ e => e)) HOK.out (by omega)).mono ?_
        rintro e w9 ⟨rfl, F9, hD9, hF9, hu9⟩
        have hbF : ¬ F bm := fun e => by rcases HF.out _ e with e | e; exact HBF.out e; omega
        have hzv := HUV.out.size
        have hbo : bm < wo.heap.size := lt_of_heap HB.out
        have hB9 := (hu9.block _ (by omega) hbF).trans ((HUV.out.block _ hbo (fun e => e)).trans HB.out)
        have hX9 := (hu9.block _ (lt_of_heap HBX.out) (fun e => by have := HFO.out _ e; omega)).trans HBX.out
        have hR9 := (HR.out.kept (HUV.out.mono (fun _ _ e => e.elim))).turn (F' := fun k => F9 k ∨ k = bm) (hu9.mono (fun k _ e => .inl e)) (fun k hk => by
          rcases hk with hk | hk
          · exact (hF9 k hk).imp .inl id
          · exact .inl (.inr hk))
        have HF9 : RowKit.Hid (∀ k, F9 k → F2 k ∨ wB.heap.size ≤ k) := Lib.hid (fun k hk => by
          rcases hF9 k hk with e | e
          · exact HF.out k e
          · have := HU.out.size; omega)
        have HU9 : RowKit.Hid (Upd (fun k => F2 k ∨ k = bm) wB w9) := Lib.hid ((HU.out.trans (HUV.out.mono (fun _ _ e => e.elim))).step hu9 (fun k hk e => by
          rcases HF.out k e with e | e
          · exact .inl e
          · omega))
        have HW9 : RowKit.Hid (Upd (fun _ => False) w w9) := Lib.hid ((HW0.out.trans HUV.out).step hu9 (fun k hk e => by
          rcases HF.out k e with e | e
          · have := HF2.out k e; have := HU1.out.size; omega
          · omega))
        have HK9 := Lib.hid (HKW.out.kept HW9.out)
        have HD9 := Lib.hid hD9; have HB9 := Lib.hid hB9; have HX9 := Lib.hid hX9; have HR9 := Lib.hid hR9
        clear hD9 hF9 hu9 hbF hzv hbo hB9 hX9 hR9 x0 x1 x2 x3 x4 HBX HFO HUV HU HR HB HF HD
        have hok2 := HOK.out.next x Bk HXC.out HXN.out.2
        have hbl := gotB_blk HOK.out x
        have HOK2 := Lib.hid hok2
        obtain ⟨DN, hDN⟩ : ∃ DN, DN = D.next x Bk := ⟨_, rfl⟩
        obtain ⟨E, hE⟩ : ∃ E, E = D.gotE x := ⟨_, rfl⟩
        obtain ⟨B, hB⟩ : ∃ B, B = D.gotB x := ⟨_, rfl⟩
        have hBL2 : (bcells (D.gotB x)).length = 64 := by rw [bcells_length]; exact hbl
        have H1B := Lib.hid (all_oneCell_toArray (bcells_one (D.gotB x)))
        have HBL := Lib.hid hbl; have HLE := Lib.hid hBL2
        rw [← hDN] at HOK2 HD9
        rw [← hE, ← hB]
        rw [← hB] at H1B HBL HLE
        have HDN := Lib.hid hDN; have HE := Lib.hid hE; have HBB := Lib.hid hB
        clear hok2 hbl hDN hE hB hBL2
        simp only []
        iterate 13 go_step
        obtain ⟨f1, f2, f3⟩ := fresh56e w9 (bcells B) HLE.out
        refine wpList_store_mid rfl 56 (.tmp 10) (.tmp 45) rfl w9.heap.size 0 (bcells B).toArray rfl rfl f1 (by rw [Try.info56p]; simp [HBL.out, bcells_length]) H1B.out ?_
        refine (?_ : wpList _ _ _ _ _ ((w9.alloc (.cells (bcells zblk).toArray 56)).setCells w9.heap.size 0 (bcells B)))
        obtain ⟨wA, hwA⟩ : ∃ wA, wA = (w9.alloc (.cells (bcells zblk).toArray 56)).setCells w9.heap.size 0 (bcells B) := ⟨_, rfl⟩
        rw [← hwA] at f2 f3 ⊢
        have hXA := (f3.block _ (lt_of_heap HX9.out) (fun e => e)).trans HX9.out
        have hBA := (f3.block _ (lt_of_heap HB9.out) (fun e => e)).trans HB9.out
        obtain ⟨Aa, Ac, Ra, Rc, hcs, _⟩ := refV_cells HR9.out
        have hcs2 : cs = [.slice Aa D.arr.length Ac, .slice Ra D.row.length Rc, .int .i64 D.ops, .int .i64 D.arm, .int .i64 D.fail, .bool D.dead] := by simpa using hcs
        subst hcs2
        obtain ⟨x0, x1, x2, x3, x4⟩ := box_cells hXA
        obtain ⟨m0, m1, m2, m3, m4, m5⟩ := cells6_of hBA
        have HGA := Lib.hid f2; have HUA := Lib.hid f3; have HBA := Lib.hid hBA
        clear f1 f2 f3 hwA hXA hBA hcs
        go_wp2_with (go_at_call 45; fail)
        refine (says_any x Bk _ wA (HK9.out.kept HUA.out) (HR9.out.kept (HUA.out.mono (fun _ _ e => e.elim))) (fun k hk => by
          rcases hk with hk | hk
          · exact Nat.lt_of_lt_of_le (HD9.out.lt k hk) HUA.out.size
          · have := lt_of_heap HBA.out; omega) HOK.out (by omega)).mono ?_
        rintro e wS ⟨v', hRS, rfl, huS⟩
        rw [← HDN.out] at hRS
        rw [← HE.out, ← HBB.out]
        obtain ⟨Ab, Bc, Rb, Rd, hv, _⟩ := refV_cells hRS
        subst hv
        have HRS := Lib.hid hRS; have HUS := Lib.hid (HUA.out.trans huS)
        have HBS := Lib.hid ((huS.block _ (lt_of_heap HBA.out) (fun e => e)).trans HBA.out)
        have HGS := Lib.hid ((huS.block _ (lt_of_heap HGA.out) (fun e => e)).trans HGA.out)
        clear hRS huS x0 x1 x2 x3 x4 m0 m1 m2 m3 m4 m5 HBA HGA
        obtain ⟨ms, hms⟩ : ∃ ms : List Value, ms = [.slice Ab DN.arr.length Bc, .slice Rb DN.row.length Rd, .int .i64 DN.ops, .int .i64 DN.arm, .int .i64 DN.fail, .bool DN.dead] := ⟨_, rfl⟩
        have hml : ms.length = 6 := by rw [hms]; rfl
        have hm1 : ∀ u ∈ ms, u.oneCell' = true := by rw [hms]; simp [Value.oneCell']
        rw [← hms] at HRS ⊢
        have HMS := Lib.hid hms; have HML := Lib.hid hml; have HM1 := Lib.hid hm1
        clear hms hml hm1
        simp only []
        iterate 19 go_step
        obtain ⟨f1, f2, f3, f4, f5⟩ := two_boxes wS [.slice none 0 0, .slice none 0 0, .int .i64 0, .int .i64 0, .int .i64 0, .bool false] ms (bcells B) rfl HML.out HLE.out
        refine wpList_store_mid rfl 69 (.tmp 12) (.tmp 51) rfl wS.heap.size 0 ms.toArray rfl rfl f1 (by rw [Try.size69q]; simp [HML.out]) (all_oneCell_toArray HM1.out) ?_
        refine wpList_store_mid rfl 56 (.tmp 13) (.tmp 52) rfl (wS.heap.size + 1) 0 (bcells B).toArray rfl rfl f2 (by rw [Try.info56p]; simp [HBL.out, bcells_length]) H1B.out ?_
        refine (?_ : wpList _ _ _ _ _ ((((wS.alloc (.cells [Value.slice none 0 0, .slice none 0 0, .int .i64 0, .int .i64 0, .int .i64 0, .bool false].toArray 69)).alloc (.cells (bcells zblk).toArray 56)).setCells wS.heap.size 0 ms).setCells (wS.heap.size + 1) 0 (bcells B)))
        obtain ⟨wT, hwT⟩ : ∃ wT, wT = ((((wS.alloc (.cells [Value.slice none 0 0, .slice none 0 0, .int .i64 0, .int .i64 0, .int .i64 0, .bool false].toArray 69)).alloc (.cells (bcells zblk).toArray 56)).setCells wS.heap.size 0 ms).setCells (wS.heap.size + 1) 0 (bcells B)) := ⟨_, rfl⟩
        rw [← hwT] at f3 f4 f5 ⊢
        have HMT := Lib.hid f3; have HWT := Lib.hid f4; have HUT := Lib.hid f5
        have HGT := Lib.hid ((f5.block _ (lt_of_heap HGS.out) (fun e => e)).trans HGS.out)
        have HBT := Lib.hid ((f5.block _ (lt_of_heap HBS.out) (fun e => e)).trans HBS.out)
        clear f1 f2 f3 f4 f5 hwT
        go_upto_region 13 with fail
        go_step
        refine wpList_load_mid rfl 69 (.tmp 12) rfl wS.heap.size 0 rfl ms _ (rangeAt_block HMT.out) Try.underlying69 rfl (by rw [Try.size69q, HML.out]) ?_
        refine wpList_store_mid rfl 69 (.tmp 7) (.tmp 54) rfl bm 0 ms.toArray rfl rfl (by have := there_block HBT.out; simpa [HML.out] using this) (by rw [Try.size69q]; simp [HML.out]) (all_oneCell_toArray HM1.out) ?_
        refine (?_ : wpList _ _ _ _ _ (wT.setCells bm 0 ms))
        obtain ⟨wM, hwM⟩ : ∃ wM, wM = wT.setCells bm 0 ms := ⟨_, rfl⟩
        have huM : Upd (fun k => k = bm) wT wM := by rw [hwM]; exact upd_setCells wT bm 0 ms
        have hbM : wM.heap[bm]? = some (.cells ms.toArray 69 (0, 0)) := by rw [hwM]; exact heap_setCells_whole (vs := ms) HBT.out (by simp [HML.out])
        rw [← hwM]
        have hb9 : bm < w9.heap.size := lt_of_heap HB9.out
        have hzS := HUS.out.size
        have hG := (huM.block _ (lt_of_heap HGT.out) (by omega)).trans HGT.out
        have hWn := (huM.block _ (lt_of_heap HWT.out) (by omega)).trans HWT.out
        have hRM := (HRS.out.kept (HUT.out.mono (fun _ _ e => e.elim))).kept (huM.mono (fun k _ e => .inr e))
        have hDM := ((HD9.out.kept HUS.out (fun _ _ e => e)).kept HUT.out (fun _ _ e => e)).kept huM (fun k hk e => by
          rcases HF9.out k hk with h | h
          · exact HBF.out (by rw [← e]; exact h)
          · omega)
        have HUM : RowKit.Hid (Upd (fun k => F2 k ∨ k = bm) wB wM) := Lib.hid (((HU9.out.trans (HUS.out.mono (fun _ _ e => e.elim))).trans (HUT.out.mono (fun _ _ e => e.elim))).trans (huM.mono (fun k _ e => .inr e)))
        have HG := Lib.hid hG; have HWN := Lib.hid hWn; have HRM := Lib.hid hRM; have HDM := Lib.hid hDM; have HBM := Lib.hid hbM
        clear hwM huM hb9 hzS hG hWn hRM hDM hbM HRS HUS HUT HBS HGS HBT HGT HMT HWT HUA HU9 HW9 HK9 HB9 HX9 HR9 HD9
        have HNEQ : RowKit.Hid (∀ W, (binOp .neq 56 (.agg (bcells B).toArray) (.agg (bcells B).toArray)).run Try.prog W = .ok (.bool false) W) := Lib.hid (fun W => by rw [neq_bytes W HBL.out HBL.out]; simp)
        go_upto_region 14 with fail
        iterate 13 go_step
        refine wpList_execG rfl (run_load_mid' rfl rfl (bcells B) (rangeAt_block HG.out) Try.underlying56 rfl (by rw [Try.info56p, HLE.out])) ?_
        refine wpList_execG rfl (run_load_mid' rfl rfl (bcells B) (rangeAt_block HWN.out) Try.underlying56 rfl (by rw [Try.info56p, HLE.out])) ?_
        refine wpList_execG rfl (run_exec_neq (xs := (bcells B).toArray) (ys := (bcells B).toArray) rfl rfl rfl (HNEQ.out _)) ?_
        iterate 8 go_step
        refine wpList_execG rfl (run_load_mid' rfl rfl ms (rangeAt_block HBM.out) Try.underlying69 rfl (by rw [Try.size69q, HML.out])) ?_
        go_wp2_with (go_at_call 46; fail)
        refine (tells_ref wM HDM.out HOK2.out (by omega) HRM.out).mono ?_
        rintro e wN ⟨rfl, huN⟩
        have hDN := HDM.out.kept huN (fun _ _ e => e)
        have hst : CallSt wB p F2 bm DN wN := ⟨F9, ms, hDN, HF9.out, HRM.out.kept (huN.mono (fun _ _ e => e.elim)), HML.out, (huN.block _ (lt_of_heap HBM.out) (fun e => e)).trans HBM.out, HUM.out.trans (huN.mono (fun _ _ e => e.elim))⟩
        have HST2 := Lib.hid hst
        clear huN hDN hst
        go_wp2
        go_roundg (L.length - (j + 1))
        case measure => omega
        case rel => exact ⟨j + 1, DN, by omega, by omega, rfl, congrArg _ (by omega), HOK2.out, HST2.out⟩
    · obtain rfl : j = L.length := by omega
      go_wp2
      go_ret
      exact ⟨rfl, HW0.out⟩

end Go.Proofs.Ytbimkhdiplnbfaa
