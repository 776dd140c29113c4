/- Walks of the laws: DiskCalls. -/
import Derived.Test.YtbimkhdiplnbfaaU2
import Derived.Test.YtbimkhdiplnbfaaU3
import Derived.Test.YtbimkhdiplnbfaaU13
import Derived.Test.YtbimkhdiplnbfaaU15
import Derived.Test.YtbimkhdiplnbfaaU17
import Derived.Test.YtbimkhdiplnbfaaU18
import Derived.Test.YtbimkhdiplnbfaaU21
import Derived.Test.YtbimkhdiplnbfaaU22
import Derived.Test.YtbimkhdiplnbfaaU24

section
namespace Go.Proofs.Ytbimkhdiplnbfaa
open Go.RowKit Go.Deep

theorem fresh56e (W : World) (bs : List Value) (hb : bs.length = 64) : (W.alloc (.cells (bcells zblk).toArray 56)).there W.heap.size 0 bs.toArray.size ∧ ((W.alloc (.cells (bcells zblk).toArray 56)).setCells W.heap.size 0 bs).heap[W.heap.size]? = some (.cells bs.toArray 56 (0, 0)) ∧
    Upd (fun _ => False) W ((W.alloc (.cells (bcells zblk).toArray 56)).setCells W.heap.size 0 bs) := by
  have hblk : (W.alloc (.cells (bcells zblk).toArray 56)).heap[W.heap.size]? = some (.cells (bcells zblk).toArray 56 (0, 0)) := alloc_at rfl
  have hzl : (bcells zblk).toArray.size = bs.toArray.size := by simp [bcells, zblk, hb]
  refine ⟨?_, heap_setCells_whole (vs := bs) hblk (by rw [hzl]; simp), ?_⟩
  · have := there_block hblk
    rwa [hzl] at this
  · have := Upd.setCells (F := fun j => W.heap.size ≤ j) (b := W.heap.size) (Nat.le_refl _) bs 0 ((Upd.refl _ W).alloc (.cells (bcells zblk).toArray 56))
    exact this.mono (fun j hj e => by omega)

theorem made_blocks (n : Nat) : (madeCells (bcells zblk).toArray (n * 64)).toList = (List.replicate n zblk).flatMap bcells := by
  have h1 : (madeCells (bcells zblk).toArray (n * 64)).toList = List.replicate (n * 64) (.int .u8 0) := by
    refine List.eq_replicate_iff.2 ⟨by simp [size_madeCells], fun b hb => ?_⟩
    simp only [madeCells, Array.toList_map, List.mem_map] at hb
    obtain ⟨i, _, rfl⟩ := hb
    have hs : (bcells zblk).toArray.size = 64 := by simp [bcells, zblk]
    have hlt : i % (bcells zblk).toArray.size < (bcells zblk).toArray.size := Nat.mod_lt _ (by omega)
    rw [getElem!_pos (bcells zblk).toArray _ hlt]
    have hv : ∀ v ∈ (bcells zblk).toArray, v = .int .u8 0 := fun v hv => by
      simp only [bcells, List.mem_toArray, List.mem_map] at hv
      obtain ⟨y, hy, rfl⟩ := hv
      rw [List.eq_of_mem_replicate hy]
    exact hv _ (Array.getElem_mem hlt)
  have h2 : ∀ n : Nat, (List.replicate n zblk).flatMap bcells = List.replicate (n * 64) (.int .u8 0) := by
    intro n
    induction n with
    | zero => rfl
    | succ n ih =>
      rw [List.replicate_succ, List.flatMap_cons, ih]
      simp only [bcells, zblk, List.map_replicate, List.replicate_append_replicate]
      congr 1; omega
  rw [h1, h2]

theorem refAt_new {N g : Nat} {F : Nat → Prop} {w : World} (hN : 1 ≤ N ∧ N ≤ 2048) (hg : w.heap[g]? = some (.cells (madeCells (bcells zblk).toArray (N * 64)) 56 (0, 0))) (hF : ¬ F g) :
    RefAt F w (Dk.new N) (.agg #[.slice (some ⟨g, 0, none⟩) N N, .slice none 0 0, .int .i64 0, .int .i64 (-1), .int .i64 (-1), .bool false]) := by
  refine ⟨some ⟨g, 0, none⟩, N, none, 0, by simp [refV, Dk.new], ?_, rowR_nil w, fun a e => ?_, fun a e => by cases e⟩
  · have hl : (Dk.new N).arr.length = N := by simp [Dk.new]
    unfold ArrS
    rw [hl]
    refine ⟨?_, .inr ⟨g, N, _, rfl, Nat.zero_le _, hg, Nat.le_refl _, by unfold maxLen; omega, by simp [size_madeCells], ?_⟩⟩
    · show ((List.replicate N zblk).flatMap bcells).length = N * 64
      rw [← made_blocks]; simp [size_madeCells]
    · rw [made_blocks]
      show ((List.replicate N zblk).flatMap bcells).take (N * 64) = (List.replicate N zblk).flatMap bcells
      refine List.take_of_length_le ?_
      rw [← made_blocks]; simp [size_madeCells]
  · have := Option.some.inj e
    subst this
    exact hF

/-- What holds between two rounds of DiskCalls. -/
def CallSt (wB : World) (p : Nat) (F2 : Nat → Prop) (bm : Nat) (D : Dk) (wr : World) : Prop :=
  ∃ (F : Nat → Prop) (cs : List Value), Dsk wr p D F ∧ (∀ k, F k → F2 k ∨ wB.heap.size ≤ k) ∧ RefAt (fun k => F k ∨ k = bm) wr D (.agg cs.toArray) ∧ cs.length = 6 ∧ wr.heap[bm]? = some (.cells cs.toArray 69 (0, 0)) ∧ Upd (fun k => F2 k ∨ k = bm) wB wr

theorem refV_cells {F : Nat → Prop} {w : World} {D : Dk} {v : Value} (h : RefAt F w D v) : ∃ Aa Ac Ra Rc, v = .agg [.slice Aa D.arr.length Ac, .slice Ra D.row.length Rc, .int .i64 D.ops, .int .i64 D.arm, .int .i64 D.fail, .bool D.dead].toArray ∧ RowR w Ra Rc D.row := by
  obtain ⟨Aa, Ac, Ra, Rc, h1, h2, h3, h4, h5⟩ := h
  exact ⟨Aa, Ac, Ra, Rc, h1, h3⟩

theorem tells_ref {p : Nat} {D : Dk} {F G : Nat → Prop} {v : Value} {K : Nat} (w : World) (hd : Dsk w p D F) (hok : D.Ok K) (hK : K ≤ 1000000) (hv : RefAt G w D v) :
    Calls Try.prog 46 #[.pointer (some ⟨p, 0, none⟩), v] w fun e w' => e = .returned (.bool true) ∧ Upd (fun _ => False) w w' := by
  obtain ⟨Aa, Ac, Ra, Rc, rfl, hA, hR, _, _⟩ := hv
  refine tells_run Aa Ra Ac D.row.length Rc D.arm D.fail w hd (hok.mono (by omega)) (fun W hu => ?_)
  refine (refPending_run Aa Ra D.arr.length Ac Rc D.row D.ops D.arm D.fail D.dead W (hR.kept hu) (fun x hx => (hok.rblks x hx).1.1) (Nat.le_trans hok.rowlen hK)).mono ?_
  rintro e w' ⟨u, h1, h2, h3⟩
  exact ⟨u, h1, ⟨h2.1, h2.2.imp id fun ⟨g, cap, cur, a1, _, a3⟩ => ⟨g, cap, cur, a1, Nat.zero_le _, a3⟩⟩, h3⟩

theorem callsIn_cell {w : World} {sa : Option Addr} {sc : Nat} {L : List CallR} (h : CallsIn w sa sc L) {j : Nat} {x : CallR} (hx : L[j]? = some x) :
    ∃ b o, sa = some ⟨b, o, none⟩ ∧ b < w.heap.size ∧ ∀ t, t < 5 → w.cell? ⟨b, o + (j * 5 + t), none⟩ = (cells5 x)[t]? := by
  rcases h with ⟨_, rfl, _⟩ | ⟨a, rfl, _, _, hc⟩
  · simp at hx
  · have hcell : ∀ t, t < 5 → w.cell? (a.add (j * 5 + t)) = (cells5 x)[t]? := fun t ht => by
      have hq := flat5_at L j t x hx ht
      obtain ⟨u, hu⟩ : ∃ u, (cells5 x)[t]? = some u := ⟨(cells5 x)[t]'(by rw [cells5_length]; exact ht), by simp⟩
      rw [hu] at hq ⊢
      exact hc _ _ hq
    obtain ⟨y, hy⟩ : ∃ y, L[0]? = some y := ⟨L[0]'(by have := (List.getElem?_eq_some_iff.1 hx).1; omega), by have := (List.getElem?_eq_some_iff.1 hx).1; simp [show 0 < L.length by omega]⟩
    have h0 := hc 0 _ (by have := flat5_at L 0 0 y hy (by omega); simpa [cells5] using this)
    obtain ⟨b, o, sp⟩ := a
    have hsp : sp = none := by simpa [Addr.add] using World.cell?_spot h0
    subst hsp
    have ea : ∀ i, (⟨b, o, none⟩ : Addr).add i = ⟨b, o + i, none⟩ := fun i => by unfold Addr.add; split <;> first | rfl | simp_all
    refine ⟨b, o, rfl, ?_, fun t ht => by rw [← ea]; exact hcell t ht⟩
    rcases Nat.lt_or_ge b w.heap.size with h' | h'
    · exact h'
    · rw [ea] at h0
      simp [World.cell?, Array.getElem?_eq_none h'] at h0

/-- Two new blocks, both stored into. -/
theorem two_boxes (W : World) (zs cs bs : List Value) (hz : zs.length = 6) (hc : cs.length = 6) (hb : bs.length = 64) :
    ((W.alloc (.cells zs.toArray 69)).alloc (.cells (bcells zblk).toArray 56)).there W.heap.size 0 cs.toArray.size ∧
    (((W.alloc (.cells zs.toArray 69)).alloc (.cells (bcells zblk).toArray 56)).setCells W.heap.size 0 cs).there (W.heap.size + 1) 0 bs.toArray.size ∧
    ((((W.alloc (.cells zs.toArray 69)).alloc (.cells (bcells zblk).toArray 56)).setCells W.heap.size 0 cs).setCells (W.heap.size + 1) 0 bs).heap[W.heap.size]? = some (.cells cs.toArray 69 (0, 0)) ∧
    ((((W.alloc (.cells zs.toArray 69)).alloc (.cells (bcells zblk).toArray 56)).setCells W.heap.size 0 cs).setCells (W.heap.size + 1) 0 bs).heap[W.heap.size + 1]? = some (.cells bs.toArray 56 (0, 0)) ∧
    Upd (fun _ => False) W ((((W.alloc (.cells zs.toArray 69)).alloc (.cells (bcells zblk).toArray 56)).setCells W.heap.size 0 cs).setCells (W.heap.size + 1) 0 bs) := by
  have h1 : ((W.alloc (.cells zs.toArray 69)).alloc (.cells (bcells zblk).toArray 56)).heap[W.heap.size]? = some (.cells zs.toArray 69 (0, 0)) := (alloc_lt (by simp)).trans (alloc_at rfl)
  have h2 : ((W.alloc (.cells zs.toArray 69)).alloc (.cells (bcells zblk).toArray 56)).heap[W.heap.size + 1]? = some (.cells (bcells zblk).toArray 56 (0, 0)) := alloc_at (by simp)
  have u0 : Upd (fun j => W.heap.size ≤ j) W ((W.alloc (.cells zs.toArray 69)).alloc (.cells (bcells zblk).toArray 56)) := ((Upd.refl _ W).alloc _).alloc _
  generalize (W.alloc (.cells zs.toArray 69)).alloc (.cells (bcells zblk).toArray 56) = V at *
  have hu := upd_setCells V W.heap.size 0 cs
  have hv := upd_setCells (V.setCells W.heap.size 0 cs) (W.heap.size + 1) 0 bs
  have h3 := heap_setCells_whole (vs := cs) h1 (by simp [hz, hc])
  have h4 := (hu.block _ (lt_of_heap h2) (by omega)).trans h2
  have hzl : (bcells zblk).toArray.size = bs.toArray.size := by simp [bcells, zblk, hb]
  have h5 := heap_setCells_whole (vs := bs) h4 (by rw [hzl]; simp)
  refine ⟨?_, ?_, (hv.block _ (lt_of_heap h3) (by omega)).trans h3, h5, ?_⟩
  · have := there_block h1
    rwa [show zs.toArray.size = cs.toArray.size by simp [hz, hc]] at this
  · have := there_block h4
    rwa [hzl] at this
  · exact ((u0.trans (hu.mono (fun j _ e => by omega))).trans (hv.mono (fun j _ e => by omega))).mono (fun j hj e => by omega)

theorem wpList_execG {P : Program} {ops : Array Oper} {rest : List Oper} {o : Oper} {a : Act} {w w' : World} {v : Value} {Q : Exit → Act → World → Prop} (hw : Region.wanted o (yielded ops a.tmps) = true) (hr : (execOp a.eval o).run P w = .ok (.value v) w')
    (hK : wpList P ops Q rest (a.put o.dst v) w') : wpList P ops Q (o :: rest) a w := by
  unfold wpList
  simp only [hw, if_true]
  refine .inl ?_
  unfold Oper.wp
  rw [hr]
  exact hK

set_option maxRecDepth 100000 in
set_option maxHeartbeats 4000000 in
theorem calls_run (n : Int) (sa : Option Addr) (sc : Nat) (L : List CallR) (w : World) (hin : CallsIn w sa sc L) (hgd : ∀ x ∈ L, GoodC w x) :
    Calls Try.prog 6 #[.int .i64 n, .slice sa L.length sc] w fun e w' => e = .returned (.bool true) ∧ Upd (fun _ => False) w w' := by
  obtain ⟨N, hN, hW⟩ := wide_any n
  have HW := Lib.hid hW; have HIN := Lib.hid hin; have HG := Lib.hid hgd
  clear hW hin hgd
  go_enter Try.func6, Try.ntmps6
  go_wp2_with (go_at_call 31; fail)
  refine (wakes_run _).mono ?_
  rintro e w1 ⟨rfl, hu1⟩
  have HU1 := Lib.hid hu1
  clear hu1
  simp only []
  go_wp2_with (go_at_call 33; refine (HW.out _).mono ?_; rintro e w2 ⟨rfl, rfl⟩)
  refine (new_good N _ (by omega)).mono ?_
  rintro e w2 ⟨rfl, hN2⟩
  obtain ⟨F2, hD2, hF2, hu2⟩ := hN2.dsk (by omega)
  have HU2 := Lib.hid (HU1.out.trans hu2)
  have HD2 := Lib.hid hD2; have HF2 := Lib.hid hF2
  have hz1 := HU1.out.size
  obtain ⟨p, hp⟩ : ∃ p, p = w1.heap.size + 1 := ⟨_, rfl⟩
  rw [← hp] at HD2 ⊢
  clear hN2 hD2 hF2 hu2 hp
  simp only []
  go_wp2_with (go_at_call 33; refine (HW.out _).mono ?_; rintro e w3 ⟨rfl, rfl⟩)
  refine (refNew_run N w2 (by omega)).mono ?_
  rintro e w3 ⟨⟨g, rfl, hg, hgb⟩, hu3⟩
  have hz3 := hu3.size
  have HR3 := Lib.hid (refAt_new (F := fun k => F2 k ∨ k = w3.heap.size) (by omega) hgb (fun e => by
    have := lt_of_heap hgb
    rcases e with e | e
    · have := HD2.out.lt g e; omega
    · omega))
  have HD3 := Lib.hid (HD2.out.kept hu3 (fun _ _ e => e))
  have HU3 := Lib.hid (HU2.out.trans hu3)
  clear hgb hu3 HD2 HU2
  simp only []
  go_wp2
  have hbmF : ¬ F2 w3.heap.size := fun e => by have := HD3.out.lt _ e; omega
  obtain ⟨wB, hwB⟩ : ∃ wB, wB = (w3.alloc (.cells #[.slice (some ⟨g, 0, none⟩) N N, .slice none 0 0, .int .i64 0, .int .i64 (-1), .int .i64 (-1), .bool false] 69)) := ⟨_, rfl⟩
  have huB : Upd (fun _ => False) w3 wB := by rw [hwB]; exact (Upd.refl _ w3).alloc _
  have hzB : wB.heap.size = w3.heap.size + 1 := by rw [hwB]; simp
  have hbB : wB.heap[w3.heap.size]? = some (.cells #[.slice (some ⟨g, 0, none⟩) N N, .slice none 0 0, .int .i64 0, .int .i64 (-1), .int .i64 (-1), .bool false] 69 (0, 0)) := by rw [hwB]; exact alloc_at rfl
  have hDB := HD3.out.kept huB (fun _ _ e => e)
  have HST : RowKit.Hid (CallSt wB p F2 w3.heap.size (Dk.new N) wB) := Lib.hid ⟨F2, [.slice (some ⟨g, 0, none⟩) N N, .slice none 0 0, .int .i64 0, .int .i64 (-1), .int .i64 (-1), .bool false], hDB, fun _ e => .inl e, HR3.out.kept (huB.mono (fun _ _ e => e.elim)), rfl, hbB, Upd.refl _ _⟩
  have HUB := Lib.hid (HU3.out.trans huB)
  have HBF := Lib.hid hbmF
  have HLT : RowKit.Hid (∀ k, F2 k → k < wB.heap.size) := Lib.hid hDB.lt
  rw [← hwB]
  obtain ⟨bm, hbm⟩ : ∃ bm, bm = w3.heap.size := ⟨_, rfl⟩
  have hz0 := HU3.out.size
  rw [← hbm] at HST HBF hzB hz0 ⊢
  have hzz := HUB.out.size
  clear hwB huB hbB hDB hbmF HD3 HU3 HR3 hbm
  go_loopg [34] L.length (fun gk i wr => ∃ (j : Nat) (D : Dk), j ≤ L.length ∧ j ≤ 80 ∧ gk = L.length - j ∧ i = .int .i64 j ∧ D.Ok (2 * j) ∧ CallSt wB p F2 bm D wr)
  case atStart => exact ⟨0, Dk.new N, Nat.zero_le _, by omega, rfl, rfl, Dk.new_ok (by omega) _, HST.out⟩
  case round =>
    clear HST
    obtain ⟨j, D, hj, hj80, rfl, rfl, hok, hst⟩ := hrel
    obtain ⟨wo, rfl⟩ : ∃ wo, wo = wr := ⟨_, rfl⟩
    obtain ⟨F, cs, hD, hF, hR, hcl, hb, hu⟩ := hst
    have hw : Upd (fun _ => False) w wo := HUB.out.step hu (fun k hk e => by
      rcases e with e | e
      · have := HF2.out k e; have := HU1.out.size; omega
      · omega)
    have HOK := Lib.hid hok; have HD := Lib.hid hD; have HF := Lib.hid hF; have HR := Lib.hid hR; have HB := Lib.hid hb; have HU := Lib.hid hu; have HW0 := Lib.hid hw
    by_cases hjn : j < L.length
    · have hjn2 : (j : Int) < L.length := by omega
      obtain ⟨x, hx⟩ : ∃ x, L[j]? = some x := ⟨L[j], by simp [hjn]⟩
      obtain ⟨sb, so, rfl, hsb, hcell⟩ := callsIn_cell (HIN.out.kept hw) hx
      obtain ⟨hxc, hxn, Bk, hkeep⟩ := HG.out x (List.mem_of_getElem? hx)
      have HK := Lib.hid (hkeep.kept hw); have HKW := Lib.hid hkeep; have HXC := Lib.hid hxc; have HXN := Lib.hid hxn
      have y0 : wo.cell? ⟨sb, so + j * 5, none⟩ = some (.int .i64 x.k) := hcell 0 (by omega)
      have y1 : wo.cell? ⟨sb, so + j * 5 + 1, none⟩ = some (.int .i64 x.i) := by rw [Nat.add_assoc]; exact hcell 1 (by omega)
      have y2 : wo.cell? ⟨sb, so + j * 5 + 2, none⟩ = some (.int .i64 x.n) := by rw [Nat.add_assoc]; exact hcell 2 (by omega)
      have y3 : wo.cell? ⟨sb, so + j * 5 + 3, none⟩ = some (.int .u8 x.c) := by rw [Nat.add_assoc]; exact hcell 3 (by omega)
      have y4 : wo.cell? ⟨sb, so + j * 5 + 4, none⟩ = some (.slice x.ka x.kn x.kc) := by rw [Nat.add_assoc]; exact hcell 4 (by omega)
      clear hcell hkeep hxc hxn hx hok hD hF hR hb hu hw HIN HG
      by_cases hj8 : j = 80
      · subst hj8
        go_wp2
        go_ret
        exact ⟨rfl, HW0.out.trans ((Upd.refl _ _).alloc _)⟩
      · have hj8i : ¬ ((j : Int) = 80) := by omega
        go_upto_region 11 with fail
        obtain ⟨wv, hwv⟩ : ∃ wv, wv = wo.alloc (.cells #[.int .i64 x.k, .int .i64 x.i, .int .i64 x.n, .int .u8 x.c, .slice x.ka x.kn x.kc] 51) := ⟨_, rfl⟩
        have huv : Upd (fun _ => False) wo wv := by rw [hwv]; exact (Upd.refl _ wo).alloc _
        have hbx : wv.heap[wo.heap.size]? = some (callBox x.k x.i x.n x.c x.ka x.kn x.kc) := by rw [hwv]; exact alloc_at rfl
        have hFo := HD.out.lt
        rw [← hwv]
        obtain ⟨x0, x1, x2, x3, x4⟩ := box_cells hbx
        have HUV := Lib.hid huv; have HBX := Lib.hid hbx; have HFO := Lib.hid hFo
        clear hwv huv hbx hFo y0 y1 y2 y3 y4
        go_wp2_with (go_at_call 44; fail)
        refine (on_any x Bk wv (HK.out.kept HUV.out) (HD.out.kept HUV.out (fun _ _ e => e)) HOK.out (by omega)).mono ?_
        rintro e w9 ⟨rfl, F9, hD9, hF9, hu9⟩
        have hbF : ¬ F bm := fun e => by rcases HF.out _ e with e | e; exact HBF.out e; omega
        have hzv := HUV.out.size
        have hbo : bm < wo.heap.size := lt_of_heap HB.out
        have hB9 := (hu9.block _ (by omega) hbF).trans ((HUV.out.block _ hbo (fun e => e)).trans HB.out)
        have hX9 := (hu9.block _ (lt_of_heap HBX.out) (fun e => by have := HFO.out _ e; omega)).trans HBX.out
        have hR9 := (HR.out.kept (HUV.out.mono (fun _ _ e => e.elim))).turn (F' := fun k => F9 k ∨ k = bm) (hu9.mono (fun k _ e => .inl e)) (fun k hk => by
          rcases hk with hk | hk
          · exact (hF9 k hk).imp .inl id
          · exact .inl (.inr hk))
        have HF9 : RowKit.Hid (∀ k, F9 k → F2 k ∨ wB.heap.size ≤ k) := Lib.hid (fun k hk => by
          rcases hF9 k hk with e | e
          · exact HF.out k e
          · have := HU.out.size; omega)
        have HU9 : RowKit.Hid (Upd (fun k => F2 k ∨ k = bm) wB w9) := Lib.hid ((HU.out.trans (HUV.out.mono (fun _ _ e => e.elim))).step hu9 (fun k hk e => by
          rcases HF.out k e with e | e
          · exact .inl e
          · omega))
        have HW9 : RowKit.Hid (Upd (fun _ => False) w w9) := Lib.hid ((HW0.out.trans HUV.out).step hu9 (fun k hk e => by
          rcases HF.out k e with e | e
          · have := HF2.out k e; have := HU1.out.size; omega
          · omega))
        have HK9 := Lib.hid (HKW.out.kept HW9.out)
        have HD9 := Lib.hid hD9; have HB9 := Lib.hid hB9; have HX9 := Lib.hid hX9; have HR9 := Lib.hid hR9
        clear hD9 hF9 hu9 hbF hzv hbo hB9 hX9 hR9 x0 x1 x2 x3 x4 HBX HFO HUV HU HR HB HF HD
        have hok2 := HOK.out.next x Bk HXC.out HXN.out.2
        have hbl := gotB_blk HOK.out x
        have HOK2 := Lib.hid hok2
        obtain ⟨DN, hDN⟩ : ∃ DN, DN = D.next x Bk := ⟨_, rfl⟩
        obtain ⟨E, hE⟩ : ∃ E, E = D.gotE x := ⟨_, rfl⟩
        obtain ⟨B, hB⟩ : ∃ B, B = D.gotB x := ⟨_, rfl⟩
        have hBL2 : (bcells (D.gotB x)).length = 64 := by rw [bcells_length]; exact hbl
        have H1B := Lib.hid (all_oneCell_toArray (bcells_one (D.gotB x)))
        have HBL := Lib.hid hbl; have HLE := Lib.hid hBL2
        rw [← hDN] at HOK2 HD9
        rw [← hE, ← hB]
        rw [← hB] at H1B HBL HLE
        have HDN := Lib.hid hDN; have HE := Lib.hid hE; have HBB := Lib.hid hB
        clear hok2 hbl hDN hE hB hBL2
        simp only []
        iterate 13 go_step
        obtain ⟨f1, f2, f3⟩ := fresh56e w9 (bcells B) HLE.out
        refine wpList_store_mid rfl 56 (.tmp 10) (.tmp 45) rfl w9.heap.size 0 (bcells B).toArray rfl rfl f1 (by rw [Try.info56p]; simp [HBL.out, bcells_length]) H1B.out ?_
        refine (?_ : wpList _ _ _ _ _ ((w9.alloc (.cells (bcells zblk).toArray 56)).setCells w9.heap.size 0 (bcells B)))
        obtain ⟨wA, hwA⟩ : ∃ wA, wA = (w9.alloc (.cells (bcells zblk).toArray 56)).setCells w9.heap.size 0 (bcells B) := ⟨_, rfl⟩
        rw [← hwA] at f2 f3 ⊢
        have hXA := (f3.block _ (lt_of_heap HX9.out) (fun e => e)).trans HX9.out
        have hBA := (f3.block _ (lt_of_heap HB9.out) (fun e => e)).trans HB9.out
        obtain ⟨Aa, Ac, Ra, Rc, hcs, _⟩ := refV_cells HR9.out
        have hcs2 : cs = [.slice Aa D.arr.length Ac, .slice Ra D.row.length Rc, .int .i64 D.ops, .int .i64 D.arm, .int .i64 D.fail, .bool D.dead] := by simpa using hcs
        subst hcs2
        obtain ⟨x0, x1, x2, x3, x4⟩ := box_cells hXA
        obtain ⟨m0, m1, m2, m3, m4, m5⟩ := cells6_of hBA
        have HGA := Lib.hid f2; have HUA := Lib.hid f3; have HBA := Lib.hid hBA
        clear f1 f2 f3 hwA hXA hBA hcs
        go_wp2_with (go_at_call 45; fail)
        refine (says_any x Bk _ wA (HK9.out.kept HUA.out) (HR9.out.kept (HUA.out.mono (fun _ _ e => e.elim))) (fun k hk => by
          rcases hk with hk | hk
          · exact Nat.lt_of_lt_of_le (HD9.out.lt k hk) HUA.out.size
          · have := lt_of_heap HBA.out; omega) HOK.out (by omega)).mono ?_
        rintro e wS ⟨v', hRS, rfl, huS⟩
        rw [← HDN.out] at hRS
        rw [← HE.out, ← HBB.out]
        obtain ⟨Ab, Bc, Rb, Rd, hv, _⟩ := refV_cells hRS
        subst hv
        have HRS := Lib.hid hRS; have HUS := Lib.hid (HUA.out.trans huS)
        have HBS := Lib.hid ((huS.block _ (lt_of_heap HBA.out) (fun e => e)).trans HBA.out)
        have HGS := Lib.hid ((huS.block _ (lt_of_heap HGA.out) (fun e => e)).trans HGA.out)
        clear hRS huS x0 x1 x2 x3 x4 m0 m1 m2 m3 m4 m5 HBA HGA
        obtain ⟨ms, hms⟩ : ∃ ms : List Value, ms = [.slice Ab DN.arr.length Bc, .slice Rb DN.row.length Rd, .int .i64 DN.ops, .int .i64 DN.arm, .int .i64 DN.fail, .bool DN.dead] := ⟨_, rfl⟩
        have hml : ms.length = 6 := by rw [hms]; rfl
        have hm1 : ∀ u ∈ ms, u.oneCell' = true := by rw [hms]; simp [Value.oneCell']
        rw [← hms] at HRS ⊢
        have HMS := Lib.hid hms; have HML := Lib.hid hml; have HM1 := Lib.hid hm1
        clear hms hml hm1
        simp only []
        iterate 19 go_step
        obtain ⟨f1, f2, f3, f4, f5⟩ := two_boxes wS [.slice none 0 0, .slice none 0 0, .int .i64 0, .int .i64 0, .int .i64 0, .bool false] ms (bcells B) rfl HML.out HLE.out
        refine wpList_store_mid rfl 69 (.tmp 12) (.tmp 51) rfl wS.heap.size 0 ms.toArray rfl rfl f1 (by rw [Try.size69q]; simp [HML.out]) (all_oneCell_toArray HM1.out) ?_
        refine wpList_store_mid rfl 56 (.tmp 13) (.tmp 52) rfl (wS.heap.size + 1) 0 (bcells B).toArray rfl rfl f2 (by rw [Try.info56p]; simp [HBL.out, bcells_length]) H1B.out ?_
        refine (?_ : wpList _ _ _ _ _ ((((wS.alloc (.cells [Value.slice none 0 0, .slice none 0 0, .int .i64 0, .int .i64 0, .int .i64 0, .bool false].toArray 69)).alloc (.cells (bcells zblk).toArray 56)).setCells wS.heap.size 0 ms).setCells (wS.heap.size + 1) 0 (bcells B)))
        obtain ⟨wT, hwT⟩ : ∃ wT, wT = ((((wS.alloc (.cells [Value.slice none 0 0, .slice none 0 0, .int .i64 0, .int .i64 0, .int .i64 0, .bool false].toArray 69)).alloc (.cells (bcells zblk).toArray 56)).setCells wS.heap.size 0 ms).setCells (wS.heap.size + 1) 0 (bcells B)) := ⟨_, rfl⟩
        rw [← hwT] at f3 f4 f5 ⊢
        have HMT := Lib.hid f3; have HWT := Lib.hid f4; have HUT := Lib.hid f5
        have HGT := Lib.hid ((f5.block _ (lt_of_heap HGS.out) (fun e => e)).trans HGS.out)
        have HBT := Lib.hid ((f5.block _ (lt_of_heap HBS.out) (fun e => e)).trans HBS.out)
        clear f1 f2 f3 f4 f5 hwT
        go_upto_region 13 with fail
        go_step
        refine wpList_load_mid rfl 69 (.tmp 12) rfl wS.heap.size 0 rfl ms _ (rangeAt_block HMT.out) Try.underlying69 rfl (by rw [Try.size69q, HML.out]) ?_
        refine wpList_store_mid rfl 69 (.tmp 7) (.tmp 54) rfl bm 0 ms.toArray rfl rfl (by have := there_block HBT.out; simpa [HML.out] using this) (by rw [Try.size69q]; simp [HML.out]) (all_oneCell_toArray HM1.out) ?_
        refine (?_ : wpList _ _ _ _ _ (wT.setCells bm 0 ms))
        obtain ⟨wM, hwM⟩ : ∃ wM, wM = wT.setCells bm 0 ms := ⟨_, rfl⟩
        have huM : Upd (fun k => k = bm) wT wM := by rw [hwM]; exact upd_setCells wT bm 0 ms
        have hbM : wM.heap[bm]? = some (.cells ms.toArray 69 (0, 0)) := by rw [hwM]; exact heap_setCells_whole (vs := ms) HBT.out (by simp [HML.out])
        rw [← hwM]
        have hb9 : bm < w9.heap.size := lt_of_heap HB9.out
        have hzS := HUS.out.size
        have hG := (huM.block _ (lt_of_heap HGT.out) (by omega)).trans HGT.out
        have hWn := (huM.block _ (lt_of_heap HWT.out) (by omega)).trans HWT.out
        have hRM := (HRS.out.kept (HUT.out.mono (fun _ _ e => e.elim))).kept (huM.mono (fun k _ e => .inr e))
        have hDM := ((HD9.out.kept HUS.out (fun _ _ e => e)).kept HUT.out (fun _ _ e => e)).kept huM (fun k hk e => by
          rcases HF9.out k hk with h | h
          · exact HBF.out (by rw [← e]; exact h)
          · omega)
        have HUM : RowKit.Hid (Upd (fun k => F2 k ∨ k = bm) wB wM) := Lib.hid (((HU9.out.trans (HUS.out.mono (fun _ _ e => e.elim))).trans (HUT.out.mono (fun _ _ e => e.elim))).trans (huM.mono (fun k _ e => .inr e)))
        have HG := Lib.hid hG; have HWN := Lib.hid hWn; have HRM := Lib.hid hRM; have HDM := Lib.hid hDM; have HBM := Lib.hid hbM
        clear hwM huM hb9 hzS hG hWn hRM hDM hbM HRS HUS HUT HBS HGS HBT HGT HMT HWT HUA HU9 HW9 HK9 HB9 HX9 HR9 HD9
        have HNEQ : RowKit.Hid (∀ W, (binOp .neq 56 (.agg (bcells B).toArray) (.agg (bcells B).toArray)).run Try.prog W = .ok (.bool false) W) := Lib.hid (fun W => by rw [neq_bytes W HBL.out HBL.out]; simp)
        go_upto_region 14 with fail
        iterate 13 go_step
        refine wpList_execG rfl (run_load_mid' rfl rfl (bcells B) (rangeAt_block HG.out) Try.underlying56 rfl (by rw [Try.info56p, HLE.out])) ?_
        refine wpList_execG rfl (run_load_mid' rfl rfl (bcells B) (rangeAt_block HWN.out) Try.underlying56 rfl (by rw [Try.info56p, HLE.out])) ?_
        refine wpList_execG rfl (run_exec_neq (xs := (bcells B).toArray) (ys := (bcells B).toArray) rfl rfl rfl (HNEQ.out _)) ?_
        iterate 8 go_step
        refine wpList_execG rfl (run_load_mid' rfl rfl ms (rangeAt_block HBM.out) Try.underlying69 rfl (by rw [Try.size69q, HML.out])) ?_
        go_wp2_with (go_at_call 46; fail)
        refine (tells_ref wM HDM.out HOK2.out (by omega) HRM.out).mono ?_
        rintro e wN ⟨rfl, huN⟩
        have hDN := HDM.out.kept huN (fun _ _ e => e)
        have hst : CallSt wB p F2 bm DN wN := ⟨F9, ms, hDN, HF9.out, HRM.out.kept (huN.mono (fun _ _ e => e.elim)), HML.out, (huN.block _ (lt_of_heap HBM.out) (fun e => e)).trans HBM.out, HUM.out.trans (huN.mono (fun _ _ e => e.elim))⟩
        have HST2 := Lib.hid hst
        clear huN hDN hst
        go_wp2
        go_roundg (L.length - (j + 1))
        case measure => omega
        case rel => exact ⟨j + 1, DN, by omega, by omega, rfl, congrArg _ (by omega), HOK2.out, HST2.out⟩
    · obtain rfl : j = L.length := by omega
      go_wp2
      go_ret
      exact ⟨rfl, HW0.out⟩

end Go.Proofs.Ytbimkhdiplnbfaa
end

section
namespace Go.Proofs.Ytbimkhdiplnbfaa
open Go.RowKit Go.Deep

theorem keepIn_bools {w : World} {a : Option Addr} {n c : Nat} {B : Nat → Bool} (h : KeepIn w a n c B) : BoolsAt w a (keeps n B) := fun i b hb => by
  have hi : i < min n 80 := by have := (List.getElem?_eq_some_iff.1 hb).1; simpa [keeps] using this
  have hbv : b = B i := by simp [keeps, hi] at hb; exact hb.symm
  rcases h with ⟨_, rfl, _⟩ | ⟨a, rfl, h1, h2, h3⟩
  · simp at hi
  · have h0 := h3 0 (by omega)
    obtain ⟨kb, ko, sp⟩ := a
    have hsp : sp = none := by simpa [Addr.add] using World.cell?_spot h0
    subst hsp
    have e : (⟨kb, ko, none⟩ : Addr).add i = ⟨kb, ko + i, none⟩ := by unfold Addr.add; split <;> first | rfl | simp_all
    have hi2 := h3 i (by omega)
    rw [e] at hi2
    refine ⟨kb, ko, rfl, ?_, by rw [hbv]; exact hi2⟩
    rcases Nat.lt_or_ge kb w.heap.size with h' | h'
    · exact h'
    · simp [World.cell?, Array.getElem?_eq_none h'] at hi2

theorem keeps_length (n : Nat) (B : Nat → Bool) : (keeps n B).length = min n 80 := by simp [keeps]

theorem cloneKeep_run {a : Option Addr} {n c : Nat} {B : Nat → Bool} (w : World) (h : KeepIn w a n c B) :
    Calls Try.prog 49 #[.slice a (min n 80 : Nat) c] w fun e w' => (∃ ka' kc', e = .returned (.slice ka' (min n 80) kc') ∧ BoolsAt w' ka' (keeps n B)) ∧ Upd (fun _ => False) w w' := by
  rcases h with ⟨rfl, rfl, rfl⟩ | ⟨a, rfl, h1, h2, h3⟩
  · refine (cloneBools_nil w).mono ?_
    rintro e w' ⟨rfl, rfl⟩
    exact ⟨⟨none, 0, rfl, fun i x hx => by simp [keeps] at hx⟩, Upd.refl _ _⟩
  · exact cloneBools_run (len := min n 80) (cap := c) B w (by omega) (fun i hi => h3 i (by omega))

/-- What holds between two rounds of the last loop: which disks stand as they stood. -/
def TwinSt (wD : World) (c p : Nat) (Fc F : Nat → Prop) (D : Dk) (k : Nat) (W : World) : Prop :=
  (k ≤ 0 → Dsk W c D Fc) ∧ (k ≤ 1 → Dsk W p D F) ∧ Upd (fun j => Fc j ∨ F j) wD W

/-- A disk that is read. -/
def ReadSt (w : World) (q : Nat) (G : Nat → Prop) (C : Dk) (m : Nat) (W : World) : Prop :=
  ∃ X, Dsk W q X G ∧ X.Calm ∧ X.arr = C.arr ∧ X.row = C.row ∧ X.Ok (1000 + m) ∧ Upd G w W

theorem shows_same {X C : Dk} (ha : X.arr = C.arr) (hr : X.row = C.row) (i : Nat) : X.shows i = C.shows i := by
  unfold Dk.shows Dk.vers; rw [ha, hr]

theorem Upd.trans_part {G H : Nat → Prop} {a b c : World} (h : Upd G a b) (k : Upd H b c) (hH : ∀ j, H j → G j ∨ a.heap.size ≤ j) : Upd G a c := h.step k (fun j hj e => (hH j e).resolve_right (by omega))

theorem run_cut80 {o : Oper} {a : Act} {ae : Option Addr} {ne ce t : Nat} {x : Operand} (ho : o.op = .slice 49 x none (some (.tmp t)) none) (hx : a.eval x = .slice ae ne ce) (hy : a.eval (.tmp t) = .int .i64 (min (ne : Int) 80)) (h : ne ≤ ce ∧ ce ≤ maxLen ∧ (ae = none → ne = 0 ∧ ce = 0)) (w : World) :
    (execOp a.eval o).run Try.prog w = .ok (.value (.slice ae (min ne 80) ce)) w := by
  obtain ⟨h1, h2, h3⟩ := h
  have e80 : (min (ne : Int) 80).toNat = min ne 80 := by omega
  have hb : (0 : Int) ≤ min (ne : Int) 80 := by omega
  have hb2 : min (ne : Int) 80 ≤ ce := by omega
  generalize min (ne : Int) 80 = z at *
  have hy' : a.tmps[t]?.getD undef = .int .i64 z := by simpa [Act.eval] using hy
  unfold execOp
  simp only [ho, hx]
  cases ae with
  | none =>
    obtain ⟨rfl, rfl⟩ := h3 rfl
    have hz : z = 0 := by simp at hb2; omega
    subst hz
    simp [go_sem, hy']
  | some b =>
    have hz : ¬ z < 0 := by omega
    have hz2 : ¬ (ce : Int) < z := by omega
    simp [go_sem, hy', e80, hb, hb2]

theorem ref_crash {F : Nat → Prop} {D : Dk} {K : Nat} {v : Value} {ka : Option Addr} {m kc : Nat} {keep : List Bool} (w : World) (h : RefAt F w D v) (hF : ∀ k, F k → k < w.heap.size) (hok : D.Ok K) (hK : K ≤ 1000000) (hk : BoolsAt w ka keep) (hm : keep.length = m) (hkl : m ≤ 1000) :
    Calls Try.prog 48 #[v, .slice ka m kc] w fun e w' => ∃ v', RefAt F w' (D.crash keep) v' ∧ e = .returned v' ∧ Upd (fun _ => False) w w' := by
  obtain ⟨Aa, Ac, Ra, Rc, rfl, hA, hR, hfA, hfR⟩ := h
  refine (crash_run' Aa Ra Ac Rc D.arr D.row D.ops D.arm D.fail D.dead ka m kc keep w hA hR (fun y hy => (hok.rblks y hy).1.1) (fun b hb => (hok.blks b hb).1) (Nat.le_trans hok.rowlen hK) hok.len hk hm hkl).mono ?_
  rintro e w' ⟨g, c', hg, he, ha, hu⟩
  have hfg : ∀ a, some (⟨g, 0, none⟩ : Addr) = some a → ¬ F a.block := fun a e h => by
    have := Option.some.inj e
    subst this
    have := hF g h
    omega
  have hca := crash_arr hok keep
  refine ⟨_, ⟨some ⟨g, 0, none⟩, c', none, 0, rfl, ?_, rowR_nil w', hfg, fun a e => by cases e⟩, ?_, hu⟩
  · rw [hca]; exact ha
  · rw [he, hca]; simp [refV, Dk.crash, Dk.arrive]

theorem ref_shows {F : Nat → Prop} {D : Dk} {K : Nat} {v : Value} {i : Nat} (w : World) (h : RefAt F w D v) (hok : D.Ok K) (hK : K ≤ 1000000) (hi : i < D.arr.length) :
    Calls Try.prog 50 #[v, .int .i64 i] w fun e w' => e = .returned (.agg (bcells (D.shows i)).toArray) ∧ Upd (fun _ => False) w w' := by
  obtain ⟨Aa, Ac, Ra, Rc, rfl, hA, hR, hfA, hfR⟩ := h
  have := refShows_run Aa Ra Ac Rc D.arr D.row D.ops D.arm D.fail D.dead i w hA hR (fun y hy => (hok.rblks y hy).1.1) (fun b hb => (hok.blks b hb).1) (Nat.le_trans hok.rowlen hK) hok.len.2 hi
  rw [shL_shows] at this
  exact this

theorem read_calm {X : Dk} (h : X.Calm) {i : Nat} (hi : i < X.arr.length) :
    X.callE i false = 0 ∧ X.reads i = X.shows i ∧ (X.callD i false).Calm ∧ (X.callD i false).arr = X.arr ∧ (X.callD i false).row = X.row := by
  have hno : ¬ X.off i := by unfold Dk.off; omega
  refine ⟨by rw [h.callE, if_neg hno], ?_, h.callD' _ _, ?_, ?_⟩
  · unfold Dk.reads
    rw [h.callR]
    simp [hno]
  · rw [h.callD, if_neg hno]
  · rw [h.callD, if_neg hno]

theorem crash_calm' (D : Dk) (keep : List Bool) : (D.crash keep).Calm := ⟨rfl, rfl, rfl⟩

set_option maxRecDepth 100000 in
set_option maxHeartbeats 4000000 in
theorem twins_run (n : Int) (sa : Option Addr) (sc : Nat) (L : List CallR) (a0 a1 : Option Addr) (n0 c0 n1 c1 : Nat) (B0 B1 : Nat → Bool) (w : World) (hin : CallsIn w sa sc L) (hgd : ∀ x ∈ L, GoodC w x) (hk0 : KeepIn w a0 n0 c0 B0) (hk1 : KeepIn w a1 n1 c1 B1) :
    Calls Try.prog 7 #[.int .i64 n, .slice sa L.length sc, .agg #[.slice a0 n0 c0, .slice a1 n1 c1]] w fun e w' => e = .returned (.bool true) ∧ Upd (fun _ => False) w w' := by
  have hLl : L.length ≤ 9223372036854775807 := by
    rcases hin with ⟨_, rfl, _⟩ | ⟨a, _, h1, h2, _⟩
    · simp
    · unfold maxLen at h2; omega
  obtain ⟨N, hN, hW⟩ := wide_any n
  obtain ⟨w0, hw0⟩ : ∃ w0, w0 = w.alloc (.cells #[.slice a0 n0 c0, .slice a1 n1 c1] 76) := ⟨_, rfl⟩
  have HB0 : RowKit.Hid (w0.heap[w.heap.size]? = some (.cells #[.slice a0 n0 c0, .slice a1 n1 c1] 76 (0, 0))) := Lib.hid (by rw [hw0]; exact alloc_at rfl)
  have HU0 : RowKit.Hid (Upd (fun _ => False) w w0) := Lib.hid (by rw [hw0]; exact (Upd.refl _ _).alloc _)
  have HW0 := Lib.hid hw0
  have HW := Lib.hid hW; have HIN := Lib.hid (hin.kept HU0.out); have HG := Lib.hid hgd; have HK0 := Lib.hid (hk0.kept HU0.out); have HK1 := Lib.hid (hk1.kept HU0.out)
  clear hW hin hgd hw0 hk0 hk1
  go_enter Try.func7, Try.ntmps7
  go_wp2_with (go_at_call 31; fail)
  have hwk := wakes_run w0
  rw [HW0.out] at hwk
  refine hwk.mono ?_
  rintro e w1 ⟨rfl, hu1⟩
  rw [← show w0 = _ from HW0.out] at hu1
  have HU1 := Lib.hid hu1
  clear hwk hu1 HW0
  simp only []
  go_wp2_with (go_at_call 33; refine (HW.out _).mono ?_; rintro e w2 ⟨rfl, rfl⟩)
  refine (new_good N _ (by omega)).mono ?_
  rintro e w2 ⟨rfl, hN2⟩
  obtain ⟨F2, hD2, hF2, hu2⟩ := hN2.dsk (by omega)
  have HU2 := Lib.hid (HU1.out.trans hu2)
  have HD2 := Lib.hid hD2; have HF2 := Lib.hid hF2
  have hz1 := HU1.out.size
  obtain ⟨p, hp⟩ : ∃ p, p = w1.heap.size + 1 := ⟨_, rfl⟩
  rw [← hp] at HD2 ⊢
  clear hN2 hD2 hF2 hu2 hp
  simp only []
  go_wp2_with (go_at_call 33; refine (HW.out _).mono ?_; rintro e w3 ⟨rfl, rfl⟩)
  refine (refNew_run N w2 (by omega)).mono ?_
  rintro e w3 ⟨⟨g, rfl, hg, hgb⟩, hu3⟩
  have hz3 := hu3.size
  have HR3 := Lib.hid (refAt_new (F := fun k => F2 k ∨ k = w3.heap.size) (by omega) hgb (fun e => by
    have := lt_of_heap hgb
    rcases e with e | e
    · have := HD2.out.lt g e; omega
    · omega))
  have HD3 := Lib.hid (HD2.out.kept hu3 (fun _ _ e => e))
  have HU3 := Lib.hid (HU2.out.trans hu3)
  clear hgb hu3 HD2 HU2
  simp only []
  go_wp2
  have hbmF : ¬ F2 w3.heap.size := fun e => by have := HD3.out.lt _ e; omega
  obtain ⟨wB, hwB⟩ : ∃ wB, wB = (w3.alloc (.cells #[.slice (some ⟨g, 0, none⟩) N N, .slice none 0 0, .int .i64 0, .int .i64 (-1), .int .i64 (-1), .bool false] 69)) := ⟨_, rfl⟩
  have huB : Upd (fun _ => False) w3 wB := by rw [hwB]; exact (Upd.refl _ w3).alloc _
  have hzB : wB.heap.size = w3.heap.size + 1 := by rw [hwB]; simp
  have hbB : wB.heap[w3.heap.size]? = some (.cells #[.slice (some ⟨g, 0, none⟩) N N, .slice none 0 0, .int .i64 0, .int .i64 (-1), .int .i64 (-1), .bool false] 69 (0, 0)) := by rw [hwB]; exact alloc_at rfl
  have hDB := HD3.out.kept huB (fun _ _ e => e)
  have HST : RowKit.Hid (CallSt wB p F2 w3.heap.size (Dk.new N) wB) := Lib.hid ⟨F2, [.slice (some ⟨g, 0, none⟩) N N, .slice none 0 0, .int .i64 0, .int .i64 (-1), .int .i64 (-1), .bool false], hDB, fun _ e => .inl e, HR3.out.kept (huB.mono (fun _ _ e => e.elim)), rfl, hbB, Upd.refl _ _⟩
  have HUB := Lib.hid (HU3.out.trans huB)
  have HBF := Lib.hid hbmF
  have HLT : RowKit.Hid (∀ k, F2 k → k < wB.heap.size) := Lib.hid hDB.lt
  rw [← hwB]
  obtain ⟨bm, hbm⟩ : ∃ bm, bm = w3.heap.size := ⟨_, rfl⟩
  have hz0 := HU3.out.size
  have hzw0 := lt_of_heap HB0.out
  rw [← hbm] at HST HBF hzB hz0 ⊢
  have hzz := HUB.out.size
  clear hwB huB hbB hDB hbmF HD3 HU3 HR3 hbm
  go_loopg [34] L.length (fun gk i wr => ∃ (j : Nat) (D : Dk), j ≤ L.length ∧ gk = L.length - j ∧ i = .int .i64 j ∧ D.Ok (2 * min j 50) ∧ CallSt wB p F2 bm D wr)
  case atStart => exact ⟨0, Dk.new N, Nat.zero_le _, rfl, rfl, Dk.new_ok (by omega) _, HST.out⟩
  case round =>
    clear HST
    obtain ⟨j, D, hj, rfl, rfl, hok, hst⟩ := hrel
    obtain ⟨wo, rfl⟩ : ∃ wo, wo = wr := ⟨_, rfl⟩
    obtain ⟨F, cs, hD, hF, hR, hcl, hb, hu⟩ := hst
    have hw : Upd (fun _ => False) w0 wo := HUB.out.step hu (fun k hk e => by
      rcases e with e | e
      · have := HF2.out k e; have := HU1.out.size; omega
      · omega)
    have HOK := Lib.hid hok; have HD := Lib.hid hD; have HF := Lib.hid hF; have HR := Lib.hid hR; have HB := Lib.hid hb; have HU := Lib.hid hu; have HW0 := Lib.hid hw
    by_cases hjn : j < L.length
    · have hjn2 : (j : Int) < L.length := by omega
      obtain ⟨x, hx⟩ : ∃ x, L[j]? = some x := ⟨L[j], by simp [hjn]⟩
      obtain ⟨sb, so, rfl, hsb, hcell⟩ := callsIn_cell (HIN.out.kept hw) hx
      obtain ⟨hxc, hxn, Bk, hkeep⟩ := HG.out x (List.mem_of_getElem? hx)
      have HK := Lib.hid ((hkeep.kept HU0.out).kept hw); have HKW := Lib.hid (hkeep.kept HU0.out); have HXC := Lib.hid hxc; have HXN := Lib.hid hxn
      have y0 : wo.cell? ⟨sb, so + j * 5, none⟩ = some (.int .i64 x.k) := hcell 0 (by omega)
      have y1 : wo.cell? ⟨sb, so + j * 5 + 1, none⟩ = some (.int .i64 x.i) := by rw [Nat.add_assoc]; exact hcell 1 (by omega)
      have y2 : wo.cell? ⟨sb, so + j * 5 + 2, none⟩ = some (.int .i64 x.n) := by rw [Nat.add_assoc]; exact hcell 2 (by omega)
      have y3 : wo.cell? ⟨sb, so + j * 5 + 3, none⟩ = some (.int .u8 x.c) := by rw [Nat.add_assoc]; exact hcell 3 (by omega)
      have y4 : wo.cell? ⟨sb, so + j * 5 + 4, none⟩ = some (.slice x.ka x.kn x.kc) := by rw [Nat.add_assoc]; exact hcell 4 (by omega)
      clear hcell hkeep hxc hxn hx hok hD hF hR hb hu hw HIN HG
      by_cases hj5 : j < 50
      · have hj5i : (j : Int) < 50 := by omega
        go_upto_region 11 with fail
        obtain ⟨wv, hwv⟩ : ∃ wv, wv = wo.alloc (.cells #[.int .i64 x.k, .int .i64 x.i, .int .i64 x.n, .int .u8 x.c, .slice x.ka x.kn x.kc] 51) := ⟨_, rfl⟩
        have huv : Upd (fun _ => False) wo wv := by rw [hwv]; exact (Upd.refl _ wo).alloc _
        have hbx : wv.heap[wo.heap.size]? = some (callBox x.k x.i x.n x.c x.ka x.kn x.kc) := by rw [hwv]; exact alloc_at rfl
        have hFo := HD.out.lt
        rw [← hwv]
        obtain ⟨x0, x1, x2, x3, x4⟩ := box_cells hbx
        have HUV := Lib.hid huv; have HBX := Lib.hid hbx; have HFO := Lib.hid hFo
        clear hwv huv hbx hFo y0 y1 y2 y3 y4
        go_wp2_with (go_at_call 44; fail)
        refine (on_any x Bk wv (HK.out.kept HUV.out) (HD.out.kept HUV.out (fun _ _ e => e)) HOK.out (by omega)).mono ?_
        rintro e w9 ⟨rfl, F9, hD9, hF9, hu9⟩
        have hbF : ¬ F bm := fun e => by rcases HF.out _ e with e | e; exact HBF.out e; omega
        have hzv := HUV.out.size
        have hbo : bm < wo.heap.size := lt_of_heap HB.out
        have hB9 := (hu9.block _ (by omega) hbF).trans ((HUV.out.block _ hbo (fun e => e)).trans HB.out)
        have hX9 := (hu9.block _ (lt_of_heap HBX.out) (fun e => by have := HFO.out _ e; omega)).trans HBX.out
        have hR9 := (HR.out.kept (HUV.out.mono (fun _ _ e => e.elim))).turn (F' := fun k => F9 k ∨ k = bm) (hu9.mono (fun k _ e => .inl e)) (fun k hk => by
          rcases hk with hk | hk
          · exact (hF9 k hk).imp .inl id
          · exact .inl (.inr hk))
        have HF9 : RowKit.Hid (∀ k, F9 k → F2 k ∨ wB.heap.size ≤ k) := Lib.hid (fun k hk => by
          rcases hF9 k hk with e | e
          · exact HF.out k e
          · have := HU.out.size; omega)
        have HU9 : RowKit.Hid (Upd (fun k => F2 k ∨ k = bm) wB w9) := Lib.hid ((HU.out.trans (HUV.out.mono (fun _ _ e => e.elim))).step hu9 (fun k hk e => by
          rcases HF.out k e with e | e
          · exact .inl e
          · omega))
        have HW9 : RowKit.Hid (Upd (fun _ => False) w0 w9) := Lib.hid ((HW0.out.trans HUV.out).step hu9 (fun k hk e => by
          rcases HF.out k e with e | e
          · have := HF2.out k e; have := HU1.out.size; omega
          · omega))
        have HK9 := Lib.hid (HKW.out.kept HW9.out)
        have HD9 := Lib.hid hD9; have HB9 := Lib.hid hB9; have HX9 := Lib.hid hX9; have HR9 := Lib.hid hR9
        clear hD9 hF9 hu9 hbF hzv hbo hB9 hX9 hR9 x0 x1 x2 x3 x4 HBX HFO HUV HU HR HB HF HD
        have hok2 := HOK.out.next x Bk HXC.out HXN.out.2
        have hbl := gotB_blk HOK.out x
        have HOK2 := Lib.hid hok2
        obtain ⟨DN, hDN⟩ : ∃ DN, DN = D.next x Bk := ⟨_, rfl⟩
        obtain ⟨E, hE⟩ : ∃ E, E = D.gotE x := ⟨_, rfl⟩
        obtain ⟨B, hB⟩ : ∃ B, B = D.gotB x := ⟨_, rfl⟩
        have HBL := Lib.hid hbl
        rw [← hDN] at HOK2 HD9
        rw [← hE, ← hB]
        rw [← hB] at HBL
        have HDN := Lib.hid hDN; have HE := Lib.hid hE; have HBB := Lib.hid hB
        obtain ⟨Aa, Ac, Ra, Rc, hcs, _⟩ := refV_cells HR9.out
        have hcs2 : cs = [.slice Aa D.arr.length Ac, .slice Ra D.row.length Rc, .int .i64 D.ops, .int .i64 D.arm, .int .i64 D.fail, .bool D.dead] := by simpa using hcs
        subst hcs2
        obtain ⟨x0, x1, x2, x3, x4⟩ := box_cells HX9.out
        obtain ⟨m0, m1, m2, m3, m4, m5⟩ := cells6_of HB9.out
        clear hok2 hbl hDN hE hB hcs
        simp only []
        go_wp2_with (go_at_call 45; fail)
        refine (says_any x Bk _ w9 HK9.out HR9.out (fun k hk => by
          rcases hk with hk | hk
          · exact HD9.out.lt k hk
          · have := lt_of_heap HB9.out; omega) HOK.out (by omega)).mono ?_
        rintro e wS ⟨v', hRS, rfl, huS⟩
        rw [← HDN.out] at hRS
        rw [← HE.out, ← HBB.out]
        obtain ⟨Ab, Bc, Rb, Rd, hv, _⟩ := refV_cells hRS
        subst hv
        have HRS := Lib.hid hRS; have HUS := Lib.hid huS
        have HBS := Lib.hid ((huS.block _ (lt_of_heap HB9.out) (fun e => e)).trans HB9.out)
        clear hRS huS x0 x1 x2 x3 x4 m0 m1 m2 m3 m4 m5
        obtain ⟨ms, hms⟩ : ∃ ms : List Value, ms = [.slice Ab DN.arr.length Bc, .slice Rb DN.row.length Rd, .int .i64 DN.ops, .int .i64 DN.arm, .int .i64 DN.fail, .bool DN.dead] := ⟨_, rfl⟩
        have hml : ms.length = 6 := by rw [hms]; rfl
        have hm1 : ∀ u ∈ ms, u.oneCell' = true := by rw [hms]; simp [Value.oneCell']
        rw [← hms] at HRS ⊢
        have HMS := Lib.hid hms; have HML := Lib.hid hml; have HM1 := Lib.hid hm1
        clear hms hml hm1
        simp only []
        iterate 13 go_step
        refine wpList_store_mid rfl 69 (.tmp 9) (.tmp 48) rfl bm 0 ms.toArray rfl rfl (by have := there_block HBS.out; simpa [HML.out] using this) (by rw [Try.size69q]; simp [HML.out]) (all_oneCell_toArray HM1.out) ?_
        refine (?_ : wpList _ _ _ _ _ (wS.setCells bm 0 ms))
        obtain ⟨wM, hwM⟩ : ∃ wM, wM = wS.setCells bm 0 ms := ⟨_, rfl⟩
        have huM : Upd (fun k => k = bm) wS wM := by rw [hwM]; exact upd_setCells wS bm 0 ms
        have hbM : wM.heap[bm]? = some (.cells ms.toArray 69 (0, 0)) := by rw [hwM]; exact heap_setCells_whole (vs := ms) HBS.out (by simp [HML.out])
        rw [← hwM]
        have hRM := HRS.out.kept (huM.mono (fun k _ e => .inr e))
        have hDM := (HD9.out.kept HUS.out (fun _ _ e => e)).kept huM (fun k hk e => by
          rcases HF9.out k hk with h | h
          · exact HBF.out (by rw [← e]; exact h)
          · omega)
        have hst : CallSt wB p F2 bm DN wM := ⟨F9, ms, hDM, HF9.out, hRM, HML.out, hbM, (HU9.out.trans (HUS.out.mono (fun _ _ e => e.elim))).trans (huM.mono (fun k _ e => .inr e))⟩
        have HST2 := Lib.hid hst
        clear hwM huM hbM hRM hDM hst
        go_wp2
        go_roundg (L.length - (j + 1))
        case measure => omega
        case rel => exact ⟨j + 1, DN, by omega, rfl, congrArg _ (by omega), HOK2.out.mono (by omega), HST2.out⟩
      · have hj5i : ¬ (j : Int) < 50 := by omega
        go_wp2
        have huv : Upd (fun _ => False) wo (wo.alloc (.cells #[.int .i64 x.k, .int .i64 x.i, .int .i64 x.n, .int .u8 x.c, .slice x.ka x.kn x.kc] 51)) := (Upd.refl _ wo).alloc _
        have hst : CallSt wB p F2 bm D (wo.alloc (.cells #[.int .i64 x.k, .int .i64 x.i, .int .i64 x.n, .int .u8 x.c, .slice x.ka x.kn x.kc] 51)) := ⟨F, cs, HD.out.kept huv (fun _ _ e => e), HF.out, HR.out.kept (huv.mono (fun _ _ e => e.elim)), hcl, (huv.block _ (lt_of_heap HB.out) (fun e => e)).trans HB.out, HU.out.trans (huv.mono (fun _ _ e => e.elim))⟩
        have HST2 := Lib.hid hst
        clear huv hst
        go_roundg (L.length - (j + 1))
        case measure => omega
        case rel => exact ⟨j + 1, D, by omega, rfl, congrArg _ (by omega), HOK.out.mono (by omega), HST2.out⟩
    · obtain rfl : j = L.length := by omega
      clear hok hD hF hR hb hu hw HIN HG
      go_wp2_with (go_at_call 47; fail)
      refine (copy_run wo HD.out (HOK.out.mono (by omega))).mono ?_
      rintro e wc ⟨rfl, g7, c7, hC⟩
      obtain ⟨Fc, hDc, hFc, huc⟩ := hC.dsk
      have HDC := Lib.hid hDc; have HFC := Lib.hid hFc; have HUC := Lib.hid huc
      obtain ⟨c, hc⟩ : ∃ c, c = wo.heap.size := ⟨_, rfl⟩
      rw [← hc] at HDC ⊢
      have HCE := Lib.hid hc
      clear hDc hFc huc hC hc
      simp only []
      go_wp2
      have hc := HCE.out
      clear HCE
      obtain ⟨wD, hwD⟩ : ∃ wD, wD = wc.alloc (.cells #[.pointer (some ⟨c, 0, none⟩), .pointer (some ⟨p, 0, none⟩)] 25) := ⟨_, rfl⟩
      have hucD : Upd (fun _ => False) wc wD := by rw [hwD]; exact (Upd.refl _ wc).alloc _
      have hbl : wD.heap[wc.heap.size]? = some (.cells #[.pointer (some ⟨c, 0, none⟩), .pointer (some ⟨p, 0, none⟩)] 25 (0, 0)) := by rw [hwD]; exact alloc_at rfl
      rw [← hwD]
      have HUD := Lib.hid (HUC.out.trans hucD)
      have HWD := Lib.hid (HW0.out.trans HUD.out)
      have HTW : RowKit.Hid (TwinSt wD c p Fc F D 0 wD) := Lib.hid ⟨fun _ => HDC.out.kept hucD (fun _ _ e => e), fun _ => HD.out.kept HUD.out (fun _ _ e => e), Upd.refl _ _⟩
      have HBLK := Lib.hid hbl
      have HFLT : RowKit.Hid (∀ k, F k → k < wo.heap.size) := Lib.hid HD.out.lt
      have HFCLT : RowKit.Hid (∀ k, Fc k → k < wc.heap.size) := Lib.hid HDC.out.lt
      have HBM := Lib.hid ((HUD.out.block _ (lt_of_heap HB.out) (fun e => e)).trans HB.out)
      have hRD := (HR.out.turn (F' := fun k => (F k ∨ k = bm) ∨ Fc k) (HUD.out.mono (fun _ _ e => e.elim)) (fun k hk => hk.imp id (fun e => HFC.out k e)))
      obtain ⟨Aa, Ac, Ra, Rc, hcs, _⟩ := refV_cells hRD
      have hcs2 : cs = [.slice Aa D.arr.length Ac, .slice Ra D.row.length Rc, .int .i64 D.ops, .int .i64 D.arm, .int .i64 D.fail, .bool D.dead] := by simpa using hcs
      subst hcs2
      have HRD := Lib.hid hRD
      have HB0D := Lib.hid ((HWD.out.block _ (lt_of_heap HB0.out) (fun e => e)).trans HB0.out)
      have hF1 : RowKit.Hid (∀ k, F k → w0.heap.size ≤ k) := Lib.hid (fun k hk => by
        rcases HF.out k hk with e | e
        · have := HF2.out k e; have := HU1.out.size; omega
        · omega)
      have hzo := HW0.out.size
      have hzc := HUC.out.size
      have hbmo : bm < wo.heap.size := lt_of_heap HB.out
      have hbmF : RowKit.Hid (¬ F bm) := Lib.hid (fun e => by rcases HF.out _ e with e | e; exact HBF.out e; omega)
      have hok1 := HOK.out.mono (K' := 1000) (by omega)
      have HOK1 := Lib.hid hok1
      obtain ⟨bl, hbl2⟩ : ∃ bl, bl = wc.heap.size := ⟨_, rfl⟩
      obtain ⟨b0, hb02⟩ : ∃ b0, b0 = w.heap.size := ⟨_, rfl⟩
      rw [← hbl2] at HBLK HFCLT hzc ⊢
      rw [← hb02] at HB0D hzw0 ⊢
      rw [← hc] at HFC HFLT hzo hzc hbmo
      clear hwD hucD hbl hcs hRD HB HD HR HU HW0 HUC HUD HDC HF HBF HLT HOK hok1 hbl2 hc hb02
      go_loopg [57] 2 (fun gk i wr => ∃ k : Nat, k ≤ 2 ∧ gk = 2 - k ∧ i = .int .i64 k ∧ TwinSt wD c p Fc F D k wr)
      case atStart => exact ⟨0, by omega, rfl, rfl, HTW.out⟩
      case round =>
        clear HTW
        obtain ⟨k, hk2, rfl, rfl, htw⟩ := hrel
        obtain ⟨wx, rfl⟩ : ∃ wx, wx = wr := ⟨_, rfl⟩
        have hWX : Upd (fun _ => False) w0 wx := HWD.out.step htw.2.2 (fun j hj e => by
          rcases e with e | e
          · have := HFC.out j e; omega
          · have := hF1.out j e; omega)
        have HBIG : RowKit.Hid (bl < wx.heap.size ∧ c ≤ wx.heap.size) := Lib.hid ⟨Nat.lt_of_lt_of_le (lt_of_heap HBLK.out) htw.2.2.size, by have := htw.2.2.size; have := lt_of_heap HBLK.out; omega⟩
        by_cases hk : k < 2
        · have hki : (k : Int) < 2 := by omega
          have hbx : wx.heap[b0]? = some (.cells #[.slice a0 n0 c0, .slice a1 n1 c1] 76 (0, 0)) := (htw.2.2.block _ (lt_of_heap HB0D.out) (fun e => by
            rcases e with e | e
            · have := HFC.out _ e; omega
            · have := hF1.out _ e; omega)).trans HB0D.out
          have hblx : wx.heap[bl]? = some (.cells #[.pointer (some ⟨c, 0, none⟩), .pointer (some ⟨p, 0, none⟩)] 25 (0, 0)) := (htw.2.2.block _ (lt_of_heap HBLK.out) (fun e => by
            rcases e with e | e
            · have := HFCLT.out _ e; omega
            · have := HFLT.out _ e; omega)).trans HBLK.out
          have hbmx := (htw.2.2.block _ (lt_of_heap HBM.out) (fun e => by
            rcases e with e | e
            · have := HFC.out _ e; omega
            · exact hbmF.out e)).trans HBM.out
          have hRx := HRD.out.kept (htw.2.2.mono (fun j _ e => e.elim .inr (fun e => .inl (.inl e))))
          obtain ⟨q, G, ae, ne, ce, Be, hp1, hp2, hp3, hp4, hp5, hp6⟩ : ∃ (q : Nat) (G : Nat → Prop) (ae : Option Addr) (ne ce : Nat) (Be : Nat → Bool), wx.cell? ⟨bl, k, none⟩ = some (.pointer (some ⟨q, 0, none⟩)) ∧ wx.cell? ⟨b0, k, none⟩ = some (.slice ae ne ce) ∧ KeepIn wx ae ne ce Be ∧ Dsk wx q D G ∧ (∀ j, G j → Fc j ∨ F j) ∧ (∀ W, Upd G wx W → TwinSt wD c p Fc F D (k + 1) W) := by
            rcases Nat.lt_or_ge k 1 with h1 | h1
            · obtain rfl : k = 0 := by omega
              refine ⟨c, Fc, a0, n0, c0, B0, by rw [cell_of_heap hblx]; rfl, by rw [cell_of_heap hbx]; rfl, HK0.out.kept hWX, htw.1 (by omega), fun j e => .inl e, fun W hu => ⟨fun e => by omega, fun _ => (htw.2.1 (by omega)).kept hu (fun j hj e => ?_), htw.2.2.trans (hu.mono (fun j _ e => .inl e))⟩⟩
              have := HFLT.out j hj; have := HFC.out j e; omega
            · obtain rfl : k = 1 := by omega
              exact ⟨p, F, a1, n1, c1, B1, by rw [cell_of_heap hblx]; rfl, by rw [cell_of_heap hbx]; rfl, HK1.out.kept hWX, htw.2.1 (by omega), fun j e => .inr e, fun W hu => ⟨fun e => by omega, fun e => by omega, htw.2.2.trans (hu.mono (fun j _ e => .inr e))⟩⟩
          have HP3 := Lib.hid hp3; have HP4 := Lib.hid hp4; have HP5 := Lib.hid hp5; have HP6 := Lib.hid hp6; have HBMX := Lib.hid hbmx; have HRX := Lib.hid hRx; have HWX := Lib.hid hWX
          have hal : RowKit.Hid (ne ≤ ce ∧ ce ≤ maxLen ∧ (ae = none → ne = 0 ∧ ce = 0)) := Lib.hid (by
            rcases hp3 with ⟨rfl, rfl, rfl⟩ | ⟨a, rfl, h1, h2, _⟩
            · exact ⟨Nat.le_refl _, by unfold maxLen; omega, fun _ => ⟨rfl, rfl⟩⟩
            · exact ⟨h1, h2, fun e => by cases e⟩)
          have hA : wx.drew.cell? ⟨b0, k, none⟩ = some (.slice ae ne ce) := by rw [World.cell?_drew]; exact hp2
          clear hbx hblx hbmx hRx hp3 hp4 hp5 hp6 hWX htw
          go_upto_region 17 with fail
          refine wp_region_G 9 (fun W => W.cell? ⟨b0, k, none⟩ = some (.slice ae ne ce)) [false, false, false, false, false, false, false, false, false, false] rfl (by kernel_rfl) ?_
          refine wpG_take (i := 0) (v := .int .i64 k) rfl (by kernel_rfl) (fun _ _ _ h => h) hA (.inl ⟨rfl, fun w5 q1 => ?_⟩) ?_
          · go_simp
          simp only [Act.put, List.setIfInBounds_toArray, List.set]
          refine wpG_take (i := 1) (v := .pointer (some ⟨b0, k, none⟩)) rfl (by kernel_rfl) (fun _ _ _ h => h) hA (.inl ⟨rfl, fun w5 q1 => ?_⟩) ?_
          · go_simp
          simp only [Act.put, List.setIfInBounds_toArray, List.set]
          refine wpG_take (i := 2) (v := .slice ae ne ce) rfl (by kernel_rfl) (fun _ _ _ h => h) hA (.inl ⟨rfl, fun w5 q1 => ?_⟩) ?_
          · go_simp
          simp only [Act.put, List.setIfInBounds_toArray, List.set]
          refine wpG_take (i := 3) (v := .int .i64 k) rfl (by kernel_rfl) (fun _ _ _ h => h) hA (.inl ⟨rfl, fun w5 q1 => ?_⟩) ?_
          · go_simp
          simp only [Act.put, List.setIfInBounds_toArray, List.set]
          refine wpG_take (i := 4) (v := .pointer (some ⟨b0, k, none⟩)) rfl (by kernel_rfl) (fun _ _ _ h => h) hA (.inl ⟨rfl, fun w5 q1 => ?_⟩) ?_
          · go_simp
          simp only [Act.put, List.setIfInBounds_toArray, List.set]
          refine wpG_take (i := 5) (v := .slice ae ne ce) rfl (by kernel_rfl) (fun _ _ _ h => h) hA (.inl ⟨rfl, fun w5 q1 => ?_⟩) ?_
          · go_simp
          simp only [Act.put, List.setIfInBounds_toArray, List.set]
          refine wpG_take (i := 6) (v := .int .i64 ne) rfl (by kernel_rfl) (fun _ _ _ h => h) hA (.inl ⟨rfl, fun w5 q1 => ?_⟩) ?_
          · go_simp
          simp only [Act.put, List.setIfInBounds_toArray, List.set]
          refine wpG_take (i := 7) (v := .int .i64 (min (ne : Int) 80)) rfl (by kernel_rfl) (fun _ _ _ h => h) hA (.inl ⟨rfl, fun w5 q1 => ?_⟩) ?_
          · go_simp
          simp only [Act.put, List.setIfInBounds_toArray, List.set]
          refine wpG_take (i := 8) (v := .slice ae (min ne 80) ce) rfl (by kernel_rfl) (fun _ _ _ h => h) hA (.inl ⟨rfl, fun w5 q1 => ?_⟩) ?_
          · exact run_cut80 rfl rfl rfl hal.out _
          simp only [Act.put, List.setIfInBounds_toArray, List.set]
          refine wpG_tail_lit (k := 9) rfl rfl (by kernel_rfl) ?_
          simp only [List.drop]
          obtain ⟨m0, m1, m2, m3, m4, m5⟩ := cells6_of (w := wx.drew) HBMX.out
          clear hA hp1 hp2 hal
          go_wp2_with (go_at_call 48; fail)
          have hux : Upd (fun _ => False) wx wx.drew := (Upd.refl _ wx).drew
          refine (ref_crash (keep := keeps ne Be) wx.drew (HRX.out.kept (hux.mono (fun _ _ e => e.elim))) (fun j hj => by
            have h1 := HWX.out.size
            show j < wx.heap.size
            rcases hj with (hj | hj) | hj
            · have := HFLT.out j hj; have := lt_of_heap HBMX.out; have := HBIG.out; omega
            · have := lt_of_heap HBMX.out; omega
            · have := HFCLT.out j hj; have := HBIG.out; omega) HOK1.out (by omega) (keepIn_bools (HP3.out.kept hux)) (keeps_length ne Be) (by omega)).mono ?_
          rintro e w5 ⟨v', hRE, rfl, hu5⟩
          obtain ⟨Ab, Bc, Rb, Rd, hv, _⟩ := refV_cells hRE
          obtain ⟨C, hC⟩ : ∃ C, C = D.crash (keeps ne Be) := ⟨_, rfl⟩
          rw [← hC] at hRE hv
          subst hv
          have HCE := Lib.hid hC
          have HRE := Lib.hid hRE
          have HU5 := Lib.hid (hux.trans hu5)
          clear hux hu5 hRE hC m0 m1 m2 m3 m4 m5
          simp only []
          go_upto_region 19 with fail
          obtain ⟨be, hbe⟩ : ∃ be, be = w5.heap.size := ⟨_, rfl⟩
          obtain ⟨wE, hwE⟩ : ∃ wE, wE = w5.alloc (.cells #[.slice Ab C.arr.length Bc, .slice Rb C.row.length Rd, .int .i64 C.ops, .int .i64 C.arm, .int .i64 C.fail, .bool C.dead] 69) := ⟨_, rfl⟩
          have huE : Upd (fun _ => False) w5 wE := by rw [hwE]; exact (Upd.refl _ w5).alloc _
          have hBE : wE.heap[be]? = some (.cells #[.slice Ab C.arr.length Bc, .slice Rb C.row.length Rd, .int .i64 C.ops, .int .i64 C.arm, .int .i64 C.fail, .bool C.dead] 69 (0, 0)) := by rw [hwE, hbe]; exact alloc_at rfl
          have hbx : RowKit.Hid (wx.heap.size ≤ be) := Lib.hid (by rw [hbe]; exact HU5.out.size)
          have HRE2 := Lib.hid (HRE.out.kept (huE.mono (fun _ _ e => e.elim)))
          have HUE := Lib.hid (HU5.out.trans huE)
          have HBE := Lib.hid hBE
          rw [← hwE, ← hbe]
          clear hbe hwE huE hBE HRE HU5
          go_wp2_with (go_at_call 49; fail)
          refine (cloneKeep_run wE (HP3.out.kept HUE.out)).mono ?_
          rintro e w6 ⟨⟨ka', kc', rfl, hb6⟩, hu6⟩
          have HB6 := Lib.hid hb6; have HU6 := Lib.hid (HUE.out.trans hu6); have HUS := Lib.hid hu6
          clear hb6 hu6
          simp only []
          go_wp2_with (go_at_call 40; fail)
          have hcr := crash_any w6 ka' kc' (keeps ne Be) HB6.out (by rw [keeps_length]; omega) (HP4.out.kept HU6.out (fun _ _ e => e)) (HOK1.out.mono (by omega))
          rw [keeps_length, ← HCE.out] at hcr
          refine hcr.mono ?_
          rintro e w7 ⟨rfl, G7, hD7, hG7, hu7⟩
          have hGx : ∀ j, G j → j < wx.heap.size := HP4.out.lt
          have hbe7 := (hu7.block _ (Nat.lt_of_lt_of_le (lt_of_heap HBE.out) HUS.out.size) (fun e => by have := hGx _ e; have := hbx.out; omega)).trans ((HUS.out.block _ (lt_of_heap HBE.out) (fun e => e)).trans HBE.out)
          have hR7 := (HRE2.out.kept (HUS.out.mono (fun _ _ e => e.elim))).turn (F' := fun j => ((F j ∨ j = bm) ∨ Fc j) ∨ G7 j) (hu7.mono (fun j _ e => (HP5.out j e).elim .inr (fun e => .inl (.inl e)))) (fun j hj => by
            rcases hj with hj | hj
            · exact .inl hj
            · rcases hG7 j hj with e | e
              · exact .inl ((HP5.out j e).elim .inr (fun e => .inl (.inl e)))
              · exact .inr e)
          have HG7 : RowKit.Hid (∀ j, G7 j → G j ∨ be < j) := Lib.hid (fun j hj => (hG7 j hj).imp id (fun e => by have := HUS.out.size; have := lt_of_heap HBE.out; omega))
          have HU7 : RowKit.Hid (Upd G wx w7) := Lib.hid ((HU6.out.mono (fun _ _ e => e.elim)).trans hu7)
          have HBE7 := Lib.hid hbe7; have HR7 := Lib.hid hR7; have HD7 := Lib.hid hD7; have HGX := Lib.hid hGx
          have hCok : C.Ok 1000 := by rw [HCE.out]; exact HOK1.out.crash _
          have hCcalm : C.Calm := by rw [HCE.out]; exact crash_calm' _ _
          have HCOK := Lib.hid hCok; have HCC := Lib.hid hCcalm
          obtain ⟨e0, e1, e2, e3, e4, e5⟩ := cells6_of hbe7
          clear hcr hD7 hG7 hu7 hGx hbe7 hR7 HUS HU6 HUE HB6 HBE HRE2 hCok hCcalm
          simp only []
          go_wp2_with (go_at_call 46; fail)
          refine (tells_ref w7 HD7.out HCOK.out (by omega) HR7.out).mono ?_
          rintro e w8 ⟨rfl, hu8⟩
          have HD8 := Lib.hid (HD7.out.kept hu8 (fun _ _ e => e)); have HR8 := Lib.hid (HR7.out.kept (hu8.mono (fun _ _ e => e.elim))); have HU8 := Lib.hid (HU7.out.trans (hu8.mono (fun _ _ e => e.elim)))
          have HBE8 := Lib.hid ((hu8.block _ (lt_of_heap HBE7.out) (fun e => e)).trans HBE7.out)
          clear hu8 e0 e1 e2 e3 e4 e5 HD7 HR7 HU7 HBE7
          simp only []
          go_wp2_with (go_at_call 41; fail)
          refine (len_any w8 HD8.out).mono ?_
          rintro e w9 ⟨rfl, rfl⟩
          simp only []
          go_wp2
          have HCL : RowKit.Hid (1 ≤ C.arr.length ∧ C.arr.length ≤ 2048) := Lib.hid HCOK.out.len
          have hcl2 := HCL.out.2
          go_loopg [87] C.arr.length (fun gk i wr => ∃ m : Nat, m ≤ C.arr.length ∧ gk = C.arr.length - m ∧ i = .int .i64 m ∧ ReadSt w8 q G7 C m wr)
          case atStart => exact ⟨0, Nat.zero_le _, rfl, rfl, C, HD8.out, HCC.out, rfl, rfl, HCOK.out, Upd.refl _ _⟩
          case round =>
            obtain ⟨m, hm, rfl, rfl, X, hDX, hXc, hXa, hXr, hXo, huX⟩ := hrel
            obtain ⟨wy, rfl⟩ : ∃ wy, wy = wr := ⟨_, rfl⟩
            by_cases hml : m < C.arr.length
            · have hmli : (m : Int) < C.arr.length := by omega
              obtain ⟨r1, r2, r3, r4, r5⟩ := read_calm hXc (i := m) (by rw [hXa]; exact hml)
              have hsh : X.reads m = C.shows m := by rw [r2]; exact shows_same hXa hXr m
              have hra := read_any m wy hDX (hXo.mono (by omega))
              rw [hsh, r1] at hra
              have hXo2 := (hXo.callD m false).mono (K' := 1000 + (m + 1)) (by omega)
              have hbl := (shows_blk HCOK.out hml).1
              have HRA := Lib.hid hra; have HXO2 := Lib.hid hXo2; have HBL := Lib.hid hbl; have HUX := Lib.hid huX
              have HX2 : RowKit.Hid ((X.callD m false).Calm ∧ (X.callD m false).arr = C.arr ∧ (X.callD m false).row = C.row) := Lib.hid ⟨r3, r4.trans hXa, r5.trans hXr⟩
              obtain ⟨X2, hX2⟩ : ∃ X2, X2 = X.callD m false := ⟨_, rfl⟩
              rw [← hX2] at HRA HXO2 HX2
              obtain ⟨B, hB⟩ : ∃ B, B = C.shows m := ⟨_, rfl⟩
              rw [← hB] at HRA HBL
              have HBB := Lib.hid hB
              clear hra hXo2 hbl huX r1 r2 r3 r4 r5 hsh hDX hXc hXa hXr hXo hX2 hB
              go_wp2_with (go_at_call 42; fail)
              refine HRA.out.mono ?_
              rintro e wz ⟨rfl, hDz, huz⟩
              have HUZ := Lib.hid (HUX.out.trans huz); have HDZ := Lib.hid hDz
              have H1B := Lib.hid (all_oneCell_toArray (bcells_one B))
              have HLE : RowKit.Hid ((bcells B).length = 64) := Lib.hid (by rw [bcells_length]; exact HBL.out)
              clear hDz huz HRA HUX
              simp only []
              iterate 13 go_step
              obtain ⟨f1, f2, f3⟩ := fresh56e wz (bcells B) HLE.out
              refine wpList_store_mid rfl 56 (.tmp 17) (.tmp 94) rfl wz.heap.size 0 (bcells B).toArray rfl rfl f1 (by rw [Try.info56p]; simp [HBL.out, bcells_length]) H1B.out ?_
              refine (?_ : wpList _ _ _ _ _ ((wz.alloc (.cells (bcells zblk).toArray 56)).setCells wz.heap.size 0 (bcells B)))
              obtain ⟨wA, hwA⟩ : ∃ wA, wA = (wz.alloc (.cells (bcells zblk).toArray 56)).setCells wz.heap.size 0 (bcells B) := ⟨_, rfl⟩
              rw [← hwA] at f2 f3 ⊢
              have hbeG : ¬ G7 be := fun e => by
                rcases HG7.out _ e with e | e
                · have := HGX.out _ e; have := hbx.out; omega
                · omega
              have hA : wA.drew.heap[wz.heap.size]? = some (.cells (bcells B).toArray 56 (0, 0)) ∧ wA.drew.heap[be]? = some (.cells [.slice Ab C.arr.length Bc, .slice Rb C.row.length Rd, .int .i64 C.ops, .int .i64 C.arm, .int .i64 C.fail, .bool C.dead].toArray 69 (0, 0)) :=
                ⟨f2, (f3.block _ (Nat.lt_of_lt_of_le (lt_of_heap HBE8.out) HUZ.out.size) (fun e => e)).trans ((HUZ.out.block _ (lt_of_heap HBE8.out) hbeG).trans HBE8.out)⟩
              have HUA := Lib.hid (HUZ.out.trans (f3.mono (fun _ _ e => e.elim))); have HDA := Lib.hid (HDZ.out.kept f3 (fun _ _ e => e))
              clear f1 f2 f3 hwA hbeG HUZ HDZ
              have HRA := Lib.hid (HR8.out.kept (HUA.out.mono (fun j _ e => .inr e)))
              have HNEQ : RowKit.Hid (∀ W, (binOp .neq 56 (.agg (bcells B).toArray) (.agg (bcells B).toArray)).run Try.prog W = .ok (.bool false) W) := Lib.hid (fun W => by rw [neq_bytes W HBL.out HBL.out]; simp)
              go_upto_region 25 with fail
              refine wp_region_G 7 (fun W => W.heap[wz.heap.size]? = some (.cells (bcells B).toArray 56 (0, 0)) ∧ W.heap[be]? = some (.cells [.slice Ab C.arr.length Bc, .slice Rb C.row.length Rd, .int .i64 C.ops, .int .i64 C.arm, .int .i64 C.fail, .bool C.dead].toArray 69 (0, 0))) [false, false, false, false, false, false, false, false, false] rfl (by kernel_rfl) ?_
              refine wpG_takeT (i := 0) (v := .int .i64 0) rfl (fun L hc h => (hc.waits (n := 7) (i := 2) (by kernel_rfl) (hc.waits (n := 2) (i := 1) (by kernel_rfl) (hc.waits (n := 1) (i := 0) (by kernel_rfl) h)))) (by kernel_rfl) (fun _ _ _ h => h) hA (.inl ⟨rfl, fun w5 q1 => ?_⟩) ?_
              · go_simp
              simp only [Act.put, List.setIfInBounds_toArray, List.set]
              refine wpG_takeT (i := 1) (v := .bool false) rfl (fun L hc h => (hc.waits (n := 7) (i := 2) (by kernel_rfl) (hc.waits (n := 2) (i := 1) (by kernel_rfl) h))) (by kernel_rfl) (fun _ _ _ h => h) hA (.inl ⟨rfl, fun w5 q1 => ?_⟩) ?_
              · go_simp
              simp only [Act.put, List.setIfInBounds_toArray, List.set]
              refine wpG_takeT (i := 2) (v := .bool false) rfl (fun L hc h => (hc.waits (n := 7) (i := 2) (by kernel_rfl) h)) (by kernel_rfl) (fun _ _ _ h => h) hA (.inl ⟨rfl, fun w5 q1 => ?_⟩) ?_
              · go_simp
              simp only [Act.put, List.setIfInBounds_toArray, List.set]
              refine wpG_takeT (i := 3) (v := .agg (bcells B).toArray) rfl (fun L hc h => (hc.waits (n := 7) (i := 3) (by kernel_rfl) h)) (by kernel_rfl) (fun _ _ _ h => h) hA (.inl ⟨rfl, fun w5 q1 => ?_⟩) ?_
              · exact run_load_mid' rfl rfl (bcells B) (rangeAt_block q1.1) Try.underlying56 rfl (by rw [Try.info56p, HLE.out])
              simp only [Act.put, List.setIfInBounds_toArray, List.set]
              refine wpG_takeT (i := 4) (v := .agg [.slice Ab C.arr.length Bc, .slice Rb C.row.length Rd, .int .i64 C.ops, .int .i64 C.arm, .int .i64 C.fail, .bool C.dead].toArray) rfl (fun L hc h => (hc.waits (n := 7) (i := 6) (by kernel_rfl) (hc.waits (n := 6) (i := 4) (by kernel_rfl) h))) (by kernel_rfl) (fun _ _ _ h => h) hA (.inl ⟨rfl, fun w5 q1 => ?_⟩) ?_
              · exact run_load_mid' rfl rfl [.slice Ab C.arr.length Bc, .slice Rb C.row.length Rd, .int .i64 C.ops, .int .i64 C.arm, .int .i64 C.fail, .bool C.dead] (rangeAt_block (cs := [.slice Ab C.arr.length Bc, .slice Rb C.row.length Rd, .int .i64 C.ops, .int .i64 C.arm, .int .i64 C.fail, .bool C.dead]) q1.2) Try.underlying69 rfl Try.size69q
              simp only [Act.put, List.setIfInBounds_toArray, List.set]
              refine wpG_takeT (i := 5) (v := .int .i64 m) rfl (fun L hc h => (hc.waits (n := 7) (i := 6) (by kernel_rfl) (hc.waits (n := 6) (i := 5) (by kernel_rfl) h))) (by kernel_rfl) (fun _ _ _ h => h) hA (.inl ⟨rfl, fun w5 q1 => ?_⟩) ?_
              · go_simp
              simp only [Act.put, List.setIfInBounds_toArray, List.set]
              refine wpG_doIf (i := 6) rfl (by kernel_rfl) rfl (fun K hK => ?_)
              have HKK := Lib.hid hK
              clear hK
              go_step
              refine (ref_shows wA.drew (HRA.out.kept ((Upd.refl _ wA).drew)) HCOK.out (by omega) hml).mono ?_
              rintro e wS ⟨rfl, huS⟩
              rw [← HBB.out]
              have huS2 : Upd (fun _ => False) wA wS := ((Upd.refl _ wA).drew).trans huS
              have hA : wS.heap[wz.heap.size]? = some (.cells (bcells B).toArray 56 (0, 0)) ∧ wS.heap[be]? = some (.cells [.slice Ab C.arr.length Bc, .slice Rb C.row.length Rd, .int .i64 C.ops, .int .i64 C.arm, .int .i64 C.fail, .bool C.dead].toArray 69 (0, 0)) := ⟨(huS.block _ (lt_of_heap hA.1) (fun e => e)).trans hA.1, (huS.block _ (lt_of_heap hA.2) (fun e => e)).trans hA.2⟩
              have hst : ReadSt w8 q G7 C (m + 1) wS := ⟨X2, HDA.out.kept huS2 (fun _ _ e => e), HX2.out.1, HX2.out.2.1, HX2.out.2.2, HXO2.out, HUA.out.trans (huS2.mono (fun _ _ e => e.elim))⟩
              have HST2 := Lib.hid hst
              clear huS huS2 hst
              simp only []
              refine HKK.out _ _ hA ?_
              clear HKK hA
              simp only [List.setIfInBounds_toArray, List.set]
              refine wpG_tail_lit (k := 7) rfl rfl (by kernel_rfl) ?_
              simp only [List.drop]
              refine wpList_execG rfl (run_exec_neq (xs := (bcells B).toArray) (ys := (bcells B).toArray) rfl rfl rfl (HNEQ.out _)) ?_
              go_wp2
              go_roundg (C.arr.length - (m + 1))
              case measure => omega
              case rel => exact ⟨m + 1, by omega, rfl, congrArg _ (by omega), HST2.out⟩
            · obtain rfl : m = C.arr.length := by omega
              have HT2 := Lib.hid (HP6.out wy (HU8.out.trans_part huX (fun j hj => (HG7.out j hj).imp id (fun e => by have := hbx.out; omega))))
              clear hDX hXc hXa hXr hXo huX
              go_wp2
              go_roundg (2 - (k + 1))
              case measure => omega
              case rel => exact ⟨k + 1, by omega, rfl, congrArg _ (by omega), HT2.out⟩
        · obtain rfl : k = 2 := by omega
          go_wp2
          go_ret
          exact ⟨rfl, HU0.out.trans hWX⟩

end Go.Proofs.Ytbimkhdiplnbfaa
end

section
namespace Go.Proofs.Ytbimkhdiplnbfaa
open Go.RowKit Go.Deep

theorem on_six {p : Nat} {D : Dk} {F : Nat → Prop} {K : Nat} (x : CallR) (h6 : kindOf x.k ≤ 6) (w : World) (h : Dsk w p D F) (hok : D.Ok K) (hK : K ≤ 1000000) :
    Calls Try.prog 44 #[.agg #[.int .i64 x.k, .int .i64 x.i, .int .i64 x.n, .int .u8 x.c, .slice x.ka x.kn x.kc], .pointer (some ⟨p, 0, none⟩)] w fun e w' =>
      e = .returned (.tuple #[.agg (bcells (D.gotB x)).toArray, .int .i64 (D.gotE x)]) ∧ Left w p (D.next x (fun _ => false)) F w' := by
  have hF := h.lt
  have hk2 : D.Ok 1099511627773 := hok.mono (by omega)
  have hr := kindOf_range x.k
  unfold Dk.gotB Dk.gotE Dk.next
  rw [if_neg (by omega : ¬ kindOf x.k = 9), if_neg (by omega : ¬ kindOf x.k = 9), if_neg (by omega : ¬ kindOf x.k = 8), if_neg (by omega : ¬ kindOf x.k = 8), if_neg (by omega : ¬ kindOf x.k = 7), if_neg (by omega : ¬ kindOf x.k = 7)]
  by_cases h6 : kindOf x.k = 6
  · rw [if_neg (by omega), if_pos h6, if_pos h6]
    refine (on_sync (F := F) x.k x.i x.n x.c x.ka x.kn x.kc w hF (D.callE 0 true) (fun W1 W2 => Left W1 p D.sync F W2) h6 (fun W hu => (sync_any W (h.kept hu (fun _ _ e => e)) hk2).mono ?_)).mono ?_
    · rintro e w' ⟨g1, g2⟩
      exact ⟨g1, g2, g2.upd⟩
    · rintro e w' ⟨g1, g2⟩
      exact ⟨g1, g2.left hF⟩
  rw [if_neg h6, if_neg h6]
  by_cases h5 : kindOf x.k = 5
  · rw [if_pos h5, if_pos h5, if_pos h5]
    refine (on_read (F := F) x.k x.i x.n x.c x.ka x.kn x.kc w hF (D.callE x.i false) (D.reads x.i) (reads_blk hok x.i).1 (fun W1 W2 => Left W1 p (D.callD x.i false) F W2) h5 (fun W hu => (read_any x.i W (h.kept hu (fun _ _ e => e)) (hk2.mono (by omega))).mono ?_)).mono ?_
    · rintro e w' ⟨g1, g2, g3⟩
      exact ⟨g1, ⟨F, g2, fun _ hk => .inl hk, g3⟩, g3⟩
    · rintro e w' ⟨g1, g2⟩
      exact ⟨g1, g2.left hF⟩
  · rw [if_neg h5, if_neg h5, if_neg h5]
    refine (on_write (F := F) x.k x.i x.n x.c x.ka x.kn x.kc (κ := kindOf x.k) (by omega) w hF (D.callE x.i true) (fun W1 W2 => Left W1 p (D.write x.i (fill x.c)) F W2) rfl (fun W hu => (write_any x.i (fill x.c) W (h.kept hu (fun _ _ e => e)) (hk2.mono (by omega)) (by simp [fill])).mono ?_)).mono ?_
    · rintro e w' ⟨g1, g2⟩
      exact ⟨g1, g2, g2.upd⟩
    · rintro e w' ⟨g1, g2⟩
      exact ⟨g1, g2.left hF⟩

/-- A disk that was written to, and its histories. -/
def Written (w w' : World) (p hb N K : Nat) (D : Dk) : Prop :=
  ∃ (F : Nat → Prop) (g off cap : Nat → Nat), Dsk w' p D F ∧ (∀ j, F j → w.heap.size ≤ j) ∧ HTab w' hb N N D.hist F g off cap ∧ (∀ i, i < N → w.heap.size ≤ g i) ∧ w.heap.size ≤ hb ∧ D.Calm ∧ D.Ok K ∧ D.arr.length = N ∧ Upd (fun _ => False) w w'

theorem run_exec_append66 {o : Oper} {a : Act} {w w' : World} {x y : Operand} {vs vx v : Value} (ho : o.op = .call { callee := .builtin .append, args := #[x, y], argTypes := #[66, 66] }) (hs : a.eval x = vs) (hx : a.eval y = vx)
    (hr : (Builtin.append_ #[66, 66] o.type #[vs, vx]).run Try.prog w = .ok v w') : (execOp a.eval o).run Try.prog w = .ok (.value v) w' := by
  simp [execOp, ho, resolve, invoke, builtin, hs, hx, hr, Result.andThen]

theorem Written.later {w a b : World} {p hb N K : Nat} {D : Dk} (h : Written w a p hb N K D) (hu : Upd (fun _ => False) a b) : Written w b p hb N K D := by
  obtain ⟨F, g, off, cap, h1, h2, h3, h4, h5, h6, h7, h8, h9⟩ := h
  exact ⟨F, g, off, cap, h1.kept hu (fun _ _ e => e), h2, h3.kept (hu.mono (fun _ _ e => e.elim)), h4, h5, h6, h7, h8, h9.trans hu⟩

theorem calm_len {D : Dk} (h : D.Calm) (i : Int) (wr : Bool) : (D.callD i wr).arr.length = D.arr.length := by
  rw [h.callD]; split <;> rfl

theorem run_build56_zero (w : World) : (Instr.build 56 #[]).run Try.prog w = .ok (.agg (bcells zblk).toArray) w := by kernel_rfl

theorem Try.info66 : (Try.prog.info? 66).map (fun i => (i.zero, i.size, i.bytes)) = some (some (.slice none 0 0), 1, 24) := by kernel_rfl

theorem run_tail66 {o : Oper} {a : Act} {g off n cap s t : Nat} (ho : o.op = .slice 66 (.tmp s) (some (.tmp t)) none none) (hx : a.eval (.tmp s) = .slice (some ⟨g, off, none⟩) n cap) (hy : a.eval (.tmp t) = .int .i64 ((n : Int) - 1)) (h1 : 1 ≤ n) (h2 : n ≤ cap) (w : World) :
    (execOp a.eval o).run Try.prog w = .ok (.value (.slice (some ⟨g, off + (n - 1) * 64, none⟩) 1 (cap - (n - 1)))) w := by
  have hz0 : (0 : Int) ≤ (n : Int) - 1 := by omega
  have hzn : ((n : Int) - 1).toNat = n - 1 := by omega
  have hz1 : (n : Int) - 1 ≤ n := by omega
  have hy' : a.tmps[t]?.getD undef = .int .i64 ((n : Int) - 1) := by simpa [Act.eval] using hy
  generalize (n : Int) - 1 = z at *
  unfold execOp
  simp only [ho, hx]
  have hne : ¬ cap = n - 1 := by omega
  have h11 : n - (n - 1) = 1 := by omega
  by_cases h0 : n - 1 = 0
  · simp [go_sem, hy', hzn, hz0, hz1, h0]
    omega
  · simp [go_sem, hy', hzn, hz0, hz1, hne, h11]

set_option maxRecDepth 100000 in
set_option maxHeartbeats 4000000 in
theorem written_run (n : Int) (va : Option Addr) (vc : Nat) (L : List CallR) (w : World) (hrow : L ≠ [] → ∃ g, va = some ⟨g, 0, none⟩ ∧ RowC w g vc L) (hLx : ∀ x ∈ L, kindOf x.k ≤ 6 ∧ 0 ≤ x.c ∧ x.c ≤ 255) (hL60 : L.length ≤ 60) :
    Calls Try.prog 53 #[.int .i64 n, .slice va L.length vc] w fun e w' => ∃ N p hb D, e = .returned (.tuple #[.pointer (some ⟨p, 0, none⟩), .slice (some ⟨hb, 0, none⟩) N N, .bool true]) ∧ Written w w' p hb N 200 D := by
  obtain ⟨N, hN, hW⟩ := wide_any n
  have HW := Lib.hid hW; have HROW := Lib.hid hrow; have HLX := Lib.hid hLx
  have hmk := run_make_row' (P := Try.prog) 85 66 (.slice none 0 0) 24 Try.underlying85 Try.info66 rfl .i64 .i64 N (by omega) (by omega)
  clear hW hrow hLx
  go_enter Try.func53, Try.ntmps53
  go_wp2_with (go_at_call 33; refine (HW.out _).mono ?_; rintro e w1 ⟨rfl, rfl⟩)
  refine (new_good N _ (by omega)).mono ?_
  rintro e w2 ⟨rfl, hN2⟩
  obtain ⟨F, hD2, hF2, hu2⟩ := hN2.dsk (by omega)
  have HU2 := Lib.hid hu2
  have HD2 := Lib.hid hD2; have HF2 := Lib.hid hF2
  obtain ⟨p, hp⟩ : ∃ p, p = w.heap.size + 1 := ⟨_, rfl⟩
  rw [← hp] at HD2 ⊢
  clear hN2 hD2 hF2 hu2 hp
  simp only []
  have el : (Dk.new N).arr.length = N := by simp [Dk.new]
  go_wp2_with (go_at_call 41; fail)
  refine (len_any w2 HD2.out).mono ?_
  rintro e w3 ⟨rfl, rfl⟩
  rw [el]
  clear el
  simp only []
  go_upto_region 5 with fail
  clear hmk
  obtain ⟨wB, hwB⟩ : ∃ wB, wB = w2.alloc (.cells (madeCells #[.slice none 0 0] N) 66) := ⟨_, rfl⟩
  have huB : Upd (fun _ => False) w2 wB := by rw [hwB]; exact (Upd.refl _ w2).alloc _
  have hblk : wB.heap[w2.heap.size]? = some (.cells ((List.range N).map fun _ => Value.slice none 0 0).toArray 66 (0, 0)) := by
    rw [hwB, alloc_at rfl]
    congr 2
    apply Array.toList_inj.1
    rw [toList_madeCells_one]
    simp [List.map_const']
  have hDB := HD2.out.kept huB (fun _ _ e => e)
  have hT : HTab wB w2.heap.size N 0 (fun _ => [zblk]) F (fun _ => 0) (fun _ => 0) (fun _ => 0) :=
    ⟨by rw [hblk]; simp, fun i h => by omega, fun i h => by omega, fun i h => by omega, fun i j h => by omega, fun i h => by omega, fun e => by have := HD2.out.lt _ e; omega⟩
  have HUB := Lib.hid (HU2.out.trans huB)
  have hzB : wB.heap.size = w2.heap.size + 1 := by rw [hwB]; simp
  have HT := Lib.hid hT; have HDB := Lib.hid hDB
  have HFLT : RowKit.Hid (∀ j, F j → j < w2.heap.size) := Lib.hid HD2.out.lt
  rw [← hwB]
  have hz2 := HU2.out.size
  obtain ⟨hb, hhb⟩ : ∃ hb, hb = w2.heap.size := ⟨_, rfl⟩
  rw [← hhb] at HT hzB HFLT hz2 ⊢
  clear hwB huB hblk hDB hT HD2 HU2 hhb
  go_wp2
  go_loopg [30] N (fun gk i wr => ∃ (k : Nat) (g off cap : Nat → Nat), k ≤ N ∧ gk = N - k ∧ i = .int .i64 k ∧ HTab wr hb N k (fun _ => [zblk]) F g off cap ∧ (∀ i, i < k → w.heap.size ≤ g i) ∧ Upd (fun j => j = hb) wB wr)
  case atStart => exact ⟨0, _, _, _, Nat.zero_le _, rfl, rfl, HT.out, fun i h => by omega, Upd.refl _ _⟩
  case round =>
    clear HT
    obtain ⟨k, g, off, cap, hk, rfl, rfl, ht, hgs, hu⟩ := hrel
    by_cases hkN : k < N
    · have hkN2 : (k : Int) < N := by omega
      have hbl := lt_of_heap ht.blk
      have hkc : ∀ o, (wr.alloc o).cell? ⟨hb, k, none⟩ = some (.slice none 0 0) := fun o => by
        rw [cell_of_heap ((alloc_lt hbl).trans ht.blk)]; simp [hkN]
      have hkf : ∀ o, (wr.alloc o).frozen? ⟨hb, k, none⟩ = false := fun o => frozen_of_heap ((alloc_lt hbl).trans ht.blk)
      have hst := ht.step (W := wr.alloc (.cells (bcells zblk).toArray 56)) (s := wr.heap.size) (b := zblk) rfl (by simp [zblk]) ((Upd.refl _ wr).alloc _) (alloc_at rfl) (Nat.le_refl _) (fun j hj => by have := HFLT.out j hj; omega)
      have HST := Lib.hid hst
      have hu2 : Upd (fun j => j = hb) wB ((wr.alloc (.cells (bcells zblk).toArray 56)).setCell ⟨hb, k, none⟩ (.slice (some ⟨wr.heap.size, 0, none⟩) 1 1)) := (hu.alloc _).setCell (p := ⟨hb, k, none⟩) (.inl rfl) _
      have HU2 := Lib.hid hu2
      have HGS : RowKit.Hid (∀ i, i < k + 1 → w.heap.size ≤ (fun j => if j = k then wr.heap.size else g j) i) := Lib.hid (fun i hi => by
        show w.heap.size ≤ (if i = k then wr.heap.size else g i)
        split
        · have := hu.size; have := HUB.out.size; omega
        · exact hgs i (by omega))
      clear ht hgs hu hst hu2
      go_upto_region 8 with fail
      iterate 7 go_step
      have hzz : (bcells zblk).length = 64 := by simp [bcells, zblk]
      refine wpList_exec rfl (run_exec_build (run_build56_zero _) rfl (by simp)) ?_
      refine wpList_exec rfl (run_exec_buildSlice (run_buildSlice66 (bcells zblk) _ hzz) rfl (by simp [Act.eval, Act.put])) ?_
      have c0 := hkc (.cells (bcells zblk).toArray 56)
      have f0 := hkf (.cells (bcells zblk).toArray 56)
      clear hkc hkf
      generalize wr.alloc (.cells (bcells zblk).toArray 56) = wA at *
      generalize wr.heap.size = ws at *
      go_wp2
      go_roundg (N - (k + 1))
      case measure => omega
      case rel => exact ⟨k + 1, _, _, _, by omega, rfl, congrArg _ (by omega), HST.out, HGS.out, HU2.out⟩
    · obtain rfl : N = k := by omega
      have HT := Lib.hid ht; have HGS := Lib.hid hgs; have HU := Lib.hid hu
      clear ht hgs hu
      have hl0 : HTab wr hb N N (Dk.new N).hist F g off cap := HT.out.more (fun i hi => hist_new hi)
      have hst : Written w wr p hb N 0 (Dk.new N) := ⟨F, g, off, cap, HDB.out.kept HU.out (fun j hj e => by have := HFLT.out j hj; omega), HF2.out, hl0, HGS.out, hz2, Dk.Calm.new N, Dk.new_ok (by omega) _, by simp [Dk.new], HUB.out.step HU.out (fun j hj e => by omega)⟩
      have HST := Lib.hid hst
      clear HT HGS HU hl0 hst HDB HFLT HUB HF2 hzB
      go_upto_region 10 with fail
      go_wp2
      go_loopg [41] L.length (fun gk i wr => ∃ (j : Nat) (D : Dk), j ≤ L.length ∧ gk = L.length - j ∧ i = .int .i64 j ∧ Written w wr p hb N (2 * j) D)
      case atStart => exact ⟨0, _, Nat.zero_le _, rfl, rfl, HST.out⟩
      case round =>
        clear HST
        obtain ⟨j, D, hj, rfl, rfl, F, g, off, cap, hD, hF, hT, hgs, hhb, hcalm, hok, hlen, hu⟩ := hrel
        obtain ⟨wo, rfl⟩ : ∃ wo, wo = wr := ⟨_, rfl⟩
        have HD := Lib.hid hD; have HF := Lib.hid hF; have HT := Lib.hid hT; have HGS := Lib.hid hgs; have HC := Lib.hid hcalm; have HOK := Lib.hid hok; have HLEN := Lib.hid hlen; have HU := Lib.hid hu
        have HGLT : RowKit.Hid (∀ m, m < N → g m < wo.heap.size) := Lib.hid (fun m hm => (hT.his m hm).lt)
        clear hD hF hT hgs hcalm hok hlen hu
        by_cases hjn : j < L.length
        · have hjn2 : (j : Int) < L.length := by omega
          have hj60 : ¬ ((j : Int) = 60) := by omega
          obtain ⟨gr, rfl, hrow⟩ := HROW.out (by intro e; rw [e] at hjn; simp at hjn)
          obtain ⟨x, hx⟩ : ∃ x, L[j]? = some x := ⟨L[j], by simp [hjn]⟩
          have hr := hrow.kept HU.out (fun e => e)
          have y0 : wo.cell? ⟨gr, j * 5, none⟩ = some (.int .i64 x.k) := hr.cell (t := 0) hx (by omega)
          have y1 : wo.cell? ⟨gr, j * 5 + 1, none⟩ = some (.int .i64 x.i) := hr.cell (t := 1) hx (by omega)
          have y2 : wo.cell? ⟨gr, j * 5 + 2, none⟩ = some (.int .i64 x.n) := hr.cell (t := 2) hx (by omega)
          have y3 : wo.cell? ⟨gr, j * 5 + 3, none⟩ = some (.int .u8 x.c) := hr.cell (t := 3) hx (by omega)
          have y4 : wo.cell? ⟨gr, j * 5 + 4, none⟩ = some (.slice x.ka x.kn x.kc) := hr.cell (t := 4) hx (by omega)
          obtain ⟨h6, hxc⟩ := HLX.out x (List.mem_of_getElem? hx)
          have HXC := Lib.hid hxc
          clear hr hx hrow HROW hxc
          go_upto_region 14 with fail
          obtain ⟨wv, hwv⟩ : ∃ wv, wv = wo.alloc (.cells #[.int .i64 x.k, .int .i64 x.i, .int .i64 x.n, .int .u8 x.c, .slice x.ka x.kn x.kc] 51) := ⟨_, rfl⟩
          have huv : Upd (fun _ => False) wo wv := by rw [hwv]; exact (Upd.refl _ wo).alloc _
          have hbx : wv.heap[wo.heap.size]? = some (callBox x.k x.i x.n x.c x.ka x.kn x.kc) := by rw [hwv]; exact alloc_at rfl
          rw [← hwv]
          obtain ⟨x0, x1, x2, x3, x4⟩ := box_cells hbx
          have HUV := Lib.hid huv; have HBX := Lib.hid hbx
          clear hwv huv hbx y0 y1 y2 y3 y4
          go_wp2_with (go_at_call 44; fail)
          refine (on_six x h6 wv (HD.out.kept HUV.out (fun _ _ e => e)) HOK.out (by omega)).mono ?_
          rintro e w9 ⟨rfl, F9, hD9, hF9, hu9⟩
          have hbF : ¬ F wo.heap.size := fun e => by have := HD.out.lt _ e; omega
          have hX9 := (hu9.block _ (lt_of_heap HBX.out) hbF).trans HBX.out
          have hT9 := (HT.out.turn (F' := F) (HUV.out.mono (fun _ _ e => e.elim)) (fun j e => .inl e)).turn (F' := F9) hu9 hF9
          have HF9 : RowKit.Hid (∀ k, F9 k → w.heap.size ≤ k) := Lib.hid (fun k hk => by
            rcases hF9 k hk with e | e
            · exact HF.out k e
            · have := HU.out.size; have := HUV.out.size; omega)
          have HU9 : RowKit.Hid (Upd (fun _ => False) w w9) := Lib.hid ((HU.out.trans HUV.out).step hu9 (fun k hk e => by have := HF.out k e; omega))
          have HD9 := Lib.hid hD9; have HX9 := Lib.hid hX9; have HT9 := Lib.hid hT9
          have hok2 := HOK.out.next x (fun _ => false) HXC.out
          have hbl := gotB_blk HOK.out x
          obtain ⟨B, hB⟩ : ∃ B, B = D.gotB x := ⟨_, rfl⟩
          rw [← hB] at hbl ⊢
          have HBL := Lib.hid hbl
          have H1B := Lib.hid (all_oneCell_toArray (bcells_one B))
          have HLE : RowKit.Hid ((bcells B).length = 64) := Lib.hid (by rw [bcells_length]; exact hbl)
          clear hD9 hF9 hu9 hbF hX9 hT9 hbl hB x0 x1 x2 x3 x4 HBX HUV HU HD HF HT hok2
          simp only []
          iterate 13 go_step
          obtain ⟨f1, f2, f3⟩ := fresh56e w9 (bcells B) HLE.out
          refine wpList_store_mid rfl 56 (.tmp 13) (.tmp 52) rfl w9.heap.size 0 (bcells B).toArray rfl rfl f1 (by rw [Try.info56p]; simp [HBL.out, bcells_length]) H1B.out ?_
          refine (?_ : wpList _ _ _ _ _ ((w9.alloc (.cells (bcells zblk).toArray 56)).setCells w9.heap.size 0 (bcells B)))
          obtain ⟨wA, hwA⟩ : ∃ wA, wA = (w9.alloc (.cells (bcells zblk).toArray 56)).setCells w9.heap.size 0 (bcells B) := ⟨_, rfl⟩
          rw [← hwA] at f3 ⊢
          have HXA := Lib.hid ((f3.block _ (lt_of_heap HX9.out) (fun e => e)).trans HX9.out)
          have HTA := Lib.hid (HT9.out.turn (F' := F9) (f3.mono (fun _ _ e => e.elim)) (fun j e => .inl e))
          have HDA := Lib.hid (HD9.out.kept f3 (fun _ _ e => e))
          have HUA := Lib.hid (HU9.out.trans f3)
          clear f1 f2 f3 hwA HX9 HT9 HD9 HU9 HBL H1B HLE
          obtain ⟨z0, z1, z2, z3, z4⟩ := box_cells HXA.out
          have hr := (kindOf_range x.k).1
          by_cases hκ6 : kindOf x.k = 6
          · have eD : D.next x (fun _ => false) = D.sync := by unfold Dk.next; simp [hκ6]
            rw [eD] at HDA
            clear eD
            generalize D.gotE x = E at *
            go_wp2_with (go_at_call 57; refine (kind_run' hκ6 x.i x.n x.c x.ka x.kn x.kc _).mono ?_; rintro e wq ⟨rfl, huq⟩; replace HXA := Lib.hid ((huq.block _ (lt_of_heap HXA.out) (fun e => e)).trans HXA.out); replace HTA := Lib.hid (HTA.out.turn (F' := F9) (huq.mono (fun _ _ e => e.elim)) (fun j e => .inl e)); replace HDA := Lib.hid (HDA.out.kept huq (fun _ _ e => e)); replace HUA := Lib.hid (HUA.out.trans huq); clear z0 z1 z2 z3 z4; obtain ⟨z0, z1, z2, z3, z4⟩ := box_cells HXA.out; clear huq)
            have HHL : RowKit.Hid (∀ i, (D.hist i).length ≤ 1000) := Lib.hid (fun i => by have := hist_len D i; have := HOK.out.rowlen; omega)
            have HBL : RowKit.Hid (∀ i, i < N → (D.shows i).length = 64) := Lib.hid (fun i hi => (shows_blk HOK.out (by rw [HLEN.out]; exact hi)).1)
            clear z0 z1 z2 z3 z4
            go_loopg [81] N (fun gk i wr => ∃ (k : Nat) (g off cap : Nat → Nat), k ≤ N ∧ gk = N - k ∧ i = .int .i64 k ∧ Dsk wr p D.sync F9 ∧ HTab wr hb N N (fun i => if i < k then [D.shows i] else D.hist i) F9 g off cap ∧ (∀ i, i < N → w.heap.size ≤ g i) ∧ Upd (fun _ => False) w wr)
            case atStart => exact ⟨0, g, off, cap, Nat.zero_le _, rfl, rfl, HDA.out, HTA.out.more (fun i _ => by simp), HGS.out, HUA.out⟩
            case round =>
              clear HDA HTA HGS HUA HXA
              obtain ⟨k, g, off, cap, hk, rfl, rfl, hD, hT, hgs, hu⟩ := hrel
              obtain ⟨wy, rfl⟩ : ∃ wy, wy = wr := ⟨_, rfl⟩
              by_cases hkN : k < N
              · have hkN2 : (k : Int) < N := by omega
                have hkk : ¬ k < k := by omega
                have c0 := hT.cell hkN hkN
                have hH := hT.his k hkN
                simp only [if_neg hkk] at c0 hH
                have f0 : wy.frozen? ⟨hb, k, none⟩ = false := frozen_of_heap hT.blk
                have hl64 : ∀ b ∈ D.hist k, b.length = 64 := by have := hT.lens k hkN; simpa only [if_neg hkk] using this
                have htl := hH.tail hl64 (hist_last D k)
                have hp := hT.put hkN (Upd.refl _ wy) htl (by intro b hb; simp at hb; rw [hb]; exact HBL.out k hkN) (.inl rfl) hD.lt
                have hlen1 := hist_pos D k
                have hlen2 := HHL.out k
                obtain ⟨cu, hcu⟩ := hH
                have hlen3 := hcu.2.1
                have hp2 := hp.more (Hs' := fun i => if i < k + 1 then [D.shows i] else D.hist i) (fun i _ => by
                  by_cases h1 : i = k
                  · subst h1; simp
                  · simp only [if_neg h1]
                    by_cases h2 : i < k
                    · rw [if_pos h2, if_pos (by omega)]
                    · rw [if_neg h2, if_neg (by omega)])
                have hu2 : Upd (fun j => j = hb) wy (wy.setCell ⟨hb, k, none⟩ (.slice (some ⟨g k, off k + ((D.hist k).length - 1) * 64, none⟩) 1 (cap k - ((D.hist k).length - 1)))) := upd_own _ _ _ _
                have HP2 := Lib.hid hp2; have HU2 := Lib.hid (hu.step hu2 (fun m hm e => by omega)); have HD2 := Lib.hid (hD.kept hu2 (fun m hm e => hT.hbF (by rw [← e]; exact hm)))
                have HGS2 : RowKit.Hid (∀ i, i < N → w.heap.size ≤ (fun j => if j = k then g k else g j) i) := Lib.hid (fun i hi => by
                  show w.heap.size ≤ (if i = k then g k else g i)
                  split
                  · exact hgs k hkN
                  · exact hgs i hi)
                clear hT hD hgs hu hp hp2 hu2 htl hl64 hcu
                generalize hnn : (D.hist k).length = nn at *
                clear hnn
                go_upto_region 21 with fail
                iterate 19 go_step
                refine wpList_exec rfl (run_tail66 rfl rfl rfl hlen1 hlen3 _) ?_
                go_wp2
                go_roundg (N - (k + 1))
                case measure => omega
                case rel => exact ⟨k + 1, _, _, _, by omega, rfl, congrArg _ (by omega), HD2.out, HP2.out, HGS2.out, HU2.out⟩
              · obtain rfl : N = k := by omega
                have hn1 : 1 ≤ D.arr.length := HOK.out.len.1
                have hst : Written w wy p hb N (2 * (j + 1)) D.sync := ⟨F9, g, off, cap, hD, HF9.out, hT.more (fun i hi => by
                  rw [if_pos hi]; exact HC.out.hist_sync hn1 (by rw [HLEN.out]; exact hi)), hgs, hhb, HC.out.sync' hn1, HOK.out.sync.mono (by omega), by rw [HC.out.sync hn1]; simp [HLEN.out], hu⟩
                have HST := Lib.hid hst
                clear hst hT hD hgs hu
                go_wp2
                go_roundg (L.length - (j + 1))
                case measure => omega
                case rel => exact ⟨j + 1, _, by omega, rfl, congrArg _ (by omega), HST.out⟩
          by_cases hκ5 : kindOf x.k = 5
          · have eD : D.next x (fun _ => false) = D.callD x.i false := by unfold Dk.next; simp [hκ5]
            have hst : Written w wA p hb N (2 * (j + 1)) (D.callD x.i false) := ⟨F9, g, off, cap, by rw [← eD]; exact HDA.out, HF9.out, HTA.out.more (fun i _ => HC.out.hist_read x.i false i), HGS.out, hhb, HC.out.callD' _ _, (HOK.out.callD _ _).mono (by omega), by rw [calm_len HC.out]; exact HLEN.out, HUA.out⟩
            have HST := Lib.hid hst
            clear hst eD HTA HDA HUA
            generalize D.gotE x = E at *
            go_wp2_with (go_at_call 57; refine (kind_run' hκ5 x.i x.n x.c x.ka x.kn x.kc _).mono ?_; rintro e wq ⟨rfl, huq⟩; replace HXA := Lib.hid ((huq.block _ (lt_of_heap HXA.out) (fun e => e)).trans HXA.out); replace HST := Lib.hid (HST.out.later huq); clear z0 z1 z2 z3 z4; obtain ⟨z0, z1, z2, z3, z4⟩ := box_cells HXA.out; clear huq)
            go_roundg (L.length - (j + 1))
            case measure => omega
            case rel => exact ⟨j + 1, _, by omega, rfl, congrArg _ (by omega), HST.out⟩
          have h5 : kindOf x.k < 5 := by omega
          have eD : D.next x (fun _ => false) = D.write x.i (fill x.c) := by
            unfold Dk.next
            rw [if_neg (by omega), if_neg (by omega), if_neg (by omega), if_neg (by omega), if_neg hκ5]
          have eE : D.gotE x = D.callE x.i true := by
            unfold Dk.gotE
            rw [if_neg (by omega), if_neg (by omega), if_neg (by omega), if_neg (by omega), if_neg hκ5]
          rw [eE]
          rw [eD] at HDA
          obtain ⟨κ, hκ⟩ : ∃ κ, kindOf x.k = κ := ⟨_, rfl⟩
          rw [hκ] at h5 hr hκ6
          by_cases hoff : D.off x.i
          · have hE2 : D.callE x.i true = 2 := by rw [HC.out.callE, if_pos hoff]
            rw [hE2]
            have hst : Written w wA p hb N (2 * (j + 1)) D := ⟨F9, g, off, cap, by have := HDA.out; rwa [HC.out.hist_off hoff] at this, HF9.out, HTA.out, HGS.out, hhb, HC.out, HOK.out.mono (by omega), HLEN.out, HUA.out⟩
            have HST := Lib.hid hst
            clear hst eD eE hE2 hoff HTA HDA HUA
            go_wp2_with (go_at_call 57; refine (kind_run' hκ x.i x.n x.c x.ka x.kn x.kc _).mono ?_; rintro e wq ⟨rfl, huq⟩; replace HXA := Lib.hid ((huq.block _ (lt_of_heap HXA.out) (fun e => e)).trans HXA.out); replace HST := Lib.hid (HST.out.later huq); clear z0 z1 z2 z3 z4; obtain ⟨z0, z1, z2, z3, z4⟩ := box_cells HXA.out; clear huq)
            go_roundg (L.length - (j + 1))
            case measure => omega
            case rel => exact ⟨j + 1, _, by omega, rfl, congrArg _ (by omega), HST.out⟩
          have hE0 : D.callE x.i true = 0 := by rw [HC.out.callE, if_neg hoff]
          rw [hE0]
          obtain ⟨i, hi⟩ : ∃ i : Nat, x.i = i := ⟨x.i.toNat, by unfold Dk.off at hoff; omega⟩
          have hiN : i < N := by unfold Dk.off at hoff; rw [HLEN.out] at hoff; omega
          have hiNi : (i : Int) < N := by omega
          have hdw : D.write (i : Int) (fill x.c) = D.write x.i (fill x.c) := by rw [hi]
          have hHist : RowKit.Hid (∀ m, (D.write (i : Int) (fill x.c)).hist m = if m = i then D.hist m ++ [fill x.c] else D.hist m) := Lib.hid (fun m => by
            have := HC.out.hist_write (i := (i : Int)) (by rw [← hi]; exact hoff) (fill x.c) m
            simpa using this)
          have HCW : RowKit.Hid ((D.write (i : Int) (fill x.c)).Calm ∧ (D.write (i : Int) (fill x.c)).Ok (2 * (j + 1)) ∧ (D.write (i : Int) (fill x.c)).arr.length = N) := Lib.hid ⟨HC.out.write' _ _, (HOK.out.write _ (fill_ok HXC.out)).mono (by omega), by rw [HC.out.length]; exact HLEN.out⟩
          rw [hi] at HXA HDA z1
          clear eD eE hE0 hoff hdw hi
          obtain ⟨DW, hDW⟩ : ∃ DW, DW = D.write (i : Int) (fill x.c) := ⟨_, rfl⟩
          rw [← hDW] at HDA hHist HCW
          clear hDW
          go_wp2_with (go_at_call 57; refine (kind_run' hκ i x.n x.c x.ka x.kn x.kc _).mono ?_; rintro e wq ⟨rfl, huq⟩; replace HXA := Lib.hid ((huq.block _ (lt_of_heap HXA.out) (fun e => e)).trans HXA.out); replace HTA := Lib.hid (HTA.out.turn (F' := F9) (huq.mono (fun _ _ e => e.elim)) (fun j e => .inl e)); replace HDA := Lib.hid (HDA.out.kept huq (fun _ _ e => e)); replace HUA := Lib.hid (HUA.out.trans huq); clear z0 z1 z2 z3 z4; obtain ⟨z0, z1, z2, z3, z4⟩ := box_cells HXA.out; clear huq)
          have hl64 := HTA.out.lens i hiN
          have hlen1 := hist_pos D i
          have hHi := HTA.out.his i hiN
          have HHI := Lib.hid hHi; have HL64 := Lib.hid hl64
          have hA := And.intro HXA.out (HTA.out.cell hiN hiN)
          have hnl : (D.hist i).length ≤ 1000000 := by have := hist_len D i; have := HOK.out.rowlen; omega
          clear hHi hl64 z0 z1 z2 z3 z4
          refine wp_region_G 12 (fun W => W.heap[wo.heap.size]? = some (callBox x.k (i : Int) x.n x.c x.ka x.kn x.kc) ∧ W.cell? ⟨hb, i, none⟩ = some (.slice (some ⟨g i, off i, none⟩) (D.hist i).length (cap i))) [false, false, false, false, false, false, false, false, false, false, false, false, false, false] rfl (by kernel_rfl) ?_
          refine wpG_take (i := 0) (v := .slice (some ⟨hb, 0, none⟩) N N) rfl (by kernel_rfl) (fun _ _ _ h => h) hA (.inl ⟨rfl, fun w5 q1 => ?_⟩) ?_
          · go_simp
          simp only [Act.put, List.setIfInBounds_toArray, List.set]
          refine wpG_take (i := 1) (v := .pointer (some ⟨wo.heap.size, 1, none⟩)) rfl (by kernel_rfl) (fun _ _ _ h => h) hA (.inl ⟨rfl, fun w5 q1 => ?_⟩) ?_
          · go_simp
          simp only [Act.put, List.setIfInBounds_toArray, List.set]
          refine wpG_take (i := 2) (v := .int .i64 i) rfl (by kernel_rfl) (fun _ _ _ h => h) hA (.inl ⟨rfl, fun w5 q1 => ?_⟩) ?_
          · have q2 := (box_cells q1.1).2.1
            go_simp
          simp only [Act.put, List.setIfInBounds_toArray, List.set]
          refine wpG_take (i := 3) (v := .slice (some ⟨hb, 0, none⟩) N N) rfl (by kernel_rfl) (fun _ _ _ h => h) hA (.inl ⟨rfl, fun w5 q1 => ?_⟩) ?_
          · go_simp
          simp only [Act.put, List.setIfInBounds_toArray, List.set]
          refine wpG_take (i := 4) (v := .pointer (some ⟨wo.heap.size, 1, none⟩)) rfl (by kernel_rfl) (fun _ _ _ h => h) hA (.inl ⟨rfl, fun w5 q1 => ?_⟩) ?_
          · go_simp
          simp only [Act.put, List.setIfInBounds_toArray, List.set]
          refine wpG_take (i := 5) (v := .int .i64 i) rfl (by kernel_rfl) (fun _ _ _ h => h) hA (.inl ⟨rfl, fun w5 q1 => ?_⟩) ?_
          · have q2 := (box_cells q1.1).2.1
            go_simp
          simp only [Act.put, List.setIfInBounds_toArray, List.set]
          refine wpG_take (i := 6) (v := .pointer (some ⟨hb, i, none⟩)) rfl (by kernel_rfl) (fun _ _ _ h => h) hA (.inl ⟨rfl, fun w5 q1 => ?_⟩) ?_
          · go_simp
          simp only [Act.put, List.setIfInBounds_toArray, List.set]
          refine wpG_take (i := 7) (v := .slice (some ⟨g i, off i, none⟩) (D.hist i).length (cap i)) rfl (by kernel_rfl) (fun _ _ _ h => h) hA (.inl ⟨rfl, fun w5 q1 => ?_⟩) ?_
          · have q2 := q1.2
            go_simp
          simp only [Act.put, List.setIfInBounds_toArray, List.set]
          refine wpG_take (i := 8) (v := .agg [.int .i64 x.k, .int .i64 (i : Int), .int .i64 x.n, .int .u8 x.c, .slice x.ka x.kn x.kc].toArray) rfl (by kernel_rfl) (fun _ _ _ h => h) hA (.inl ⟨rfl, fun w5 q1 => ?_⟩) ?_
          · exact run_load_mid' rfl rfl [.int .i64 x.k, .int .i64 (i : Int), .int .i64 x.n, .int .u8 x.c, .slice x.ka x.kn x.kc] (rangeAt_block (cs := [.int .i64 x.k, .int .i64 (i : Int), .int .i64 x.n, .int .u8 x.c, .slice x.ka x.kn x.kc]) q1.1) Try.underlying51 rfl Try.size51
          simp only [Act.put, List.setIfInBounds_toArray, List.set]
          refine wpG_do (i := 9) rfl (by kernel_rfl) rfl (fun K hK => ?_)
          have HKK := Lib.hid hK
          clear hK
          go_step
          refine (block_run x.k (i : Int) x.n x.c x.ka x.kn x.kc _).mono ?_
          rintro e wb ⟨rfl, hub⟩
          have HUB2 := Lib.hid ((Upd.refl _ wq).drew.trans hub)
          have hA := And.intro ((HUB2.out.block _ (lt_of_heap HXA.out) (fun e => e)).trans HXA.out) (cell_kept HUB2.out (HTA.out.cell hiN hiN))
          clear hub
          simp only []
          refine HKK.out _ _ hA ?_
          clear HKK
          simp only [List.setIfInBounds_toArray, List.set]
          refine wpG_do (i := 10) rfl (by kernel_rfl) rfl (fun K hK => ?_)
          have HKK := Lib.hid hK
          clear hK
          have hfl : (fill x.c).length = 64 := by simp [fill]
          have hfb : (bcells (fill x.c)).length = 64 := by rw [bcells_length, hfl]
          refine oper_val (run_exec_buildSlice (run_buildSlice66 (bcells (fill x.c)) _ hfb) rfl (by simp [Act.eval])) ?_
          have HUC2 := Lib.hid (HUB2.out.alloc (.cells (bcells (fill x.c)).toArray 56))
          have hA := And.intro ((HUC2.out.block _ (lt_of_heap HXA.out) (fun e => e)).trans HXA.out) (cell_kept HUC2.out (HTA.out.cell hiN hiN))
          refine HKK.out _ _ hA ?_
          clear HKK
          simp only [Act.put, List.setIfInBounds_toArray, List.set]
          refine wpG_do (i := 11) rfl (by kernel_rfl) rfl (fun K hK => ?_)
          have HKK := Lib.hid hK
          clear hK
          obtain ⟨g2, off2, cap2, w3, hrun, hH3, hg3, hu3⟩ := his_append (wb.alloc (.cells (bcells (fill x.c)).toArray 56)) 66 (HHI.out.kept HUC2.out (fun e => e)) hnl hfl (s := wb.heap.size) (alloc_at rfl)
          refine oper_val (run_exec_append66 rfl rfl rfl hrun) ?_
          have hgne : g i ≠ hb := HTA.out.ne i hiN
          have hgx : g i ≠ wo.heap.size := by have := HGLT.out i hiN; omega
          have hu4 : Upd (fun m => m = g i) wq w3 := (HUC2.out.mono (fun _ _ e => e.elim)).trans hu3
          have hblk3 := (hu4.block hb (lt_of_heap HTA.out.blk) (fun e => hgne e.symm)).trans HTA.out.blk
          have c0 : w3.cell? ⟨hb, i, none⟩ = some (.slice (some ⟨g i, off i, none⟩) (D.hist i).length (cap i)) := by rw [cell_of_heap hblk3, ← cell_of_heap HTA.out.blk]; exact HTA.out.cell hiN hiN
          have f0 : w3.frozen? ⟨hb, i, none⟩ = false := frozen_of_heap hblk3
          have hA := And.intro ((hu4.block _ (lt_of_heap HXA.out) (fun e => hgx e.symm)).trans HXA.out) c0
          have hsz4 := HUC2.out.size
          have hput := HTA.out.put hiN hu4 hH3 (by
            intro b hb2
            rw [List.mem_append] at hb2
            rcases hb2 with hb2 | hb2
            · exact HL64.out b hb2
            · simp at hb2; rw [hb2]; exact hfl) (hg3.imp id (fun e => Nat.le_trans hsz4 e)) HDA.out.lt
          have hlen4 : (D.hist i ++ [fill x.c]).length = (D.hist i).length + 1 := by simp
          rw [hlen4] at hput
          have hu5 : Upd (fun m => m = hb) w3 (w3.setCell ⟨hb, i, none⟩ (.slice (some ⟨g2, off2, none⟩) ((D.hist i).length + 1) cap2)) := upd_own _ _ _ _
          have hD5 := (HDA.out.kept hu4 (fun m hm e => HTA.out.apart i hiN (by rw [← e]; exact hm))).kept hu5 (fun m hm e => HTA.out.hbF (by rw [← e]; exact hm))
          have hU5 : Upd (fun _ => False) w (w3.setCell ⟨hb, i, none⟩ (.slice (some ⟨g2, off2, none⟩) ((D.hist i).length + 1) cap2)) := (HUA.out.step hu4 (fun m hm e => by have := HGS.out i hiN; omega)).step hu5 (fun m hm e => by omega)
          have hst : Written w (w3.setCell ⟨hb, i, none⟩ (.slice (some ⟨g2, off2, none⟩) ((D.hist i).length + 1) cap2)) p hb N (2 * (j + 1)) DW := ⟨F9, _, _, _, hD5, HF9.out, hput.more (fun m hm => hHist.out m ▸ (by
            by_cases h1 : m = i
            · subst h1; simp
            · simp [h1])), (fun m hm => by
            show w.heap.size ≤ (if m = i then g2 else g m)
            split
            · rcases hg3 with e | e
              · rw [e]; exact HGS.out i hiN
              · have := HUA.out.size; omega
            · exact HGS.out m hm), hhb, HCW.out.1, HCW.out.2.1, HCW.out.2.2, hU5⟩
          have HST := Lib.hid hst
          clear hst hD5 hU5 hu5 hput hlen4 hblk3 hu4 hu3 hH3 hg3 hrun HTA HDA HUA
          refine HKK.out _ _ hA ?_
          clear HKK hA
          simp only [Act.put, List.setIfInBounds_toArray, List.set]
          refine wpG_tail_lit (k := 12) rfl rfl (by kernel_rfl) ?_
          simp only [List.drop]
          go_wp2
          go_roundg (L.length - (j + 1))
          case measure => omega
          case rel => exact ⟨j + 1, _, by omega, rfl, congrArg _ (by omega), HST.out⟩
        · obtain rfl : j = L.length := by omega
          go_wp2
          go_ret3
          exact ⟨N, p, hb, D, rfl, F, g, off, cap, HD.out, HF.out, HT.out, HGS.out, hhb, HC.out, HOK.out.mono (by omega), HLEN.out, HU.out⟩

end Go.Proofs.Ytbimkhdiplnbfaa
end

section
namespace Go.Proofs.Ytbimkhdiplnbfaa
open Go.RowKit Go.Deep

theorem own_form {w : World} {B : Nat} {e : TypeId} {sz n : Nat} {u : Value} {xs : List Value} (h : w.ownsRow B e sz u n xs) : ∃ ua uc, u = .slice ua n uc := by
  rcases h.2 with ⟨rfl, rfl⟩ | ⟨g, cap, cur, rfl, _⟩
  · exact ⟨none, 0, rfl⟩
  · exact ⟨_, cap, rfl⟩

theorem own_cell1 {w : World} {B : Nat} {e : TypeId} {n uc : Nat} {ua : Option Addr} {xs : List Value} (h : w.ownsRow B e 1 (.slice ua n uc) n xs) {j : Nat} (hj : j < n) : ∃ g, ua = some ⟨g, 0, none⟩ ∧ g < w.heap.size ∧ B ≤ g ∧ w.cell? ⟨g, j, none⟩ = xs[j]? := by
  rcases h.2 with ⟨_, rfl⟩ | ⟨g, cap, cur, e1, h1, h2, _⟩
  · omega
  · simp only [Value.slice.injEq, true_and] at e1
    obtain ⟨rfl, rfl⟩ := e1
    exact ⟨g, rfl, lt_of_heap h2, h1, World.ownsRow.cellAt h j (by omega)⟩

theorem own_bools {w : World} {B n uc : Nat} {ua : Option Addr} {bs : List Bool} (h : w.ownsRow B 4 1 (.slice ua n uc) n (bs.map Value.bool)) (hn : bs.length = n) : BoolsAt w ua bs := fun i b hb => by
  have hi := (List.getElem?_eq_some_iff.1 hb).1
  obtain ⟨g, h1, h2, _, h3⟩ := own_cell1 h (j := i) (by omega)
  exact ⟨g, 0, h1, h2, by rw [Nat.zero_add, h3]; simp [hb]⟩

theorem run_last66 {o : Oper} {a : Act} {g off n cap s t : Nat} (ho : o.op = .indexAddr 66 (.tmp s) (.tmp t)) (hx : a.eval (.tmp s) = .slice (some ⟨g, off, none⟩) n cap) (hy : a.eval (.tmp t) = .int .i64 ((n : Int) - 1)) (h1 : 1 ≤ n) (w : World) :
    (execOp a.eval o).run Try.prog w = .ok (.value (.pointer (some ⟨g, off + (n - 1) * 64, none⟩))) w := by
  have hz0 : (0 : Int) ≤ (n : Int) - 1 := by omega
  have hzn : ((n : Int) - 1).toNat = n - 1 := by omega
  have hz1 : (n : Int) - 1 < n := by omega
  have hy' : a.tmps[t]?.getD undef = .int .i64 ((n : Int) - 1) := by simpa [Act.eval] using hy
  generalize (n : Int) - 1 = z at *
  unfold execOp
  simp only [ho, hx]
  simp [go_sem, hy', hzn, hz0, hz1]

theorem rem_range (at_ : Int) (N : Nat) (hN : 1 ≤ N ∧ N ≤ 2048) : ∃ q : Nat, q < N ∧ (IntKind.u64.wrap at_).tmod (N : Int) = q := by
  have h1 : 0 ≤ IntKind.u64.wrap at_ := by
    simp [IntKind.wrap, IntKind.signed, IntKind.bits]
    omega
  rw [Int.tmod_eq_emod_of_nonneg h1]
  have h2 := Int.emod_nonneg (IntKind.u64.wrap at_) (b := (N : Int)) (by omega)
  have h3 := Int.emod_lt_of_pos (IntKind.u64.wrap at_) (b := (N : Int)) (by omega)
  exact ⟨((IntKind.u64.wrap at_) % (N : Int)).toNat, by omega, by omega⟩

set_option maxRecDepth 100000 in
set_option maxHeartbeats 4000000 in
theorem alone_run (n at_ : Int) (sa : Option Addr) (sc : Nat) (L : List CallR) (w : World) (hin : CallsIn w sa sc L) (hLc : ∀ x ∈ L, 0 ≤ x.c ∧ x.c ≤ 255) :
    Calls Try.prog 9 #[.int .i64 n, .slice sa L.length sc, .int .i64 at_] w fun e w' => e = .returned (.bool true) ∧ Upd (fun _ => False) w w' := by
  have HIN := Lib.hid hin; have HLC := Lib.hid hLc
  clear hin hLc
  go_enter Try.func9, Try.ntmps9
  go_wp2_with (go_at_call 31; fail)
  refine (wakes_run _).mono ?_
  rintro e w1 ⟨rfl, hu1⟩
  have HU1 := Lib.hid hu1
  clear hu1
  simp only []
  go_wp2_with (go_at_call 54; fail)
  refine (calm_run w1 (HIN.out.kept HU1.out)).mono ?_
  rintro e w2 ⟨v, C, rfl, hcal, hC60, hCall, hu2⟩
  obtain ⟨va, vc, rfl, hrow⟩ : ∃ va vc, v = .slice va C.length vc ∧ (C ≠ [] → ∃ g, va = some ⟨g, 0, none⟩ ∧ RowC w2 g vc C) := by
    rcases hcal with ⟨h1, h2⟩ | ⟨g, cap, h1, h2, h3⟩
    · subst h2; exact ⟨none, 0, h1, fun e => absurd rfl e⟩
    · exact ⟨_, cap, h1, fun _ => ⟨g, rfl, h2⟩⟩
  have HU2 := Lib.hid (HU1.out.trans hu2)
  have HWR := Lib.hid (written_run n va vc C w2 hrow (fun x hx => ⟨(hCall x hx).1, HLC.out x (hCall x hx).2⟩) hC60)
  have hzw2 := HU2.out.size
  clear hcal hrow hCall hu2 HIN HU1 HLC
  simp only []
  go_wp2_with (go_at_call 53; fail)
  refine HWR.out.mono ?_
  rintro e w3 ⟨N, p, hb, D, rfl, F, g, off, cap, hD, hF, hT, hgs, hhb, hcalm, hok, hlen, hu⟩
  have HD := Lib.hid hD; have HF := Lib.hid hF; have HT := Lib.hid hT; have HC := Lib.hid hcalm; have HOK := Lib.hid hok; have HLEN := Lib.hid hlen; have HU := Lib.hid (HU2.out.trans hu)
  have hN := hok.len
  rw [hlen] at hN
  clear hD hF hT hgs hcalm hok hlen hu HWR HU2
  simp only []
  go_wp2_with (go_at_call 41; fail)
  refine (len_any w3 HD.out).mono ?_
  rintro e w4 ⟨rfl, rfl⟩
  rw [HLEN.out]
  simp only []
  obtain ⟨oN, hoN, hrem⟩ := rem_range at_ N hN
  go_wp2_with (go_at_call 52; fail)
  have hw64 : wrap64 ((IntKind.u64.wrap at_).tmod (N : Int)) = (oN : Int) := by
    rw [hrem]
    unfold wrap64; omega
  try rw [hw64]
  try rw [hrem]
  clear hw64 hrem
  refine (pending_any w3 HD.out (HOK.out.mono (by omega))).mono ?_
  rintro e w5 ⟨u, rfl, hown, hu5⟩
  obtain ⟨ua, uc, rfl⟩ := own_form hown
  have HOWN := Lib.hid hown
  have HD5 := Lib.hid (HD.out.kept hu5 (fun _ _ e => e)); have HT5 := Lib.hid (HT.out.turn (F' := F) (hu5.mono (fun _ _ e => e.elim)) (fun j e => .inl e)); have HU5 := Lib.hid (HU.out.trans hu5)
  have HRL : RowKit.Hid (D.row.length ≤ 1000) := Lib.hid (Nat.le_trans HOK.out.rowlen (by omega))
  have hrl := HRL.out
  clear hown hu5 HD HT HU
  simp only []
  go_wp2
  go_loopg [11, 41] D.row.length (fun gk v i wr => ∃ (j : Nat), j ≤ D.row.length ∧ gk = D.row.length - j ∧ i = .int .i64 j ∧ wr.ownsRow w5.heap.size 4 1 v j (((D.row.take j).map fun x => decide (x.1 ≠ oN)).map Value.bool) ∧ Upd (fun _ => False) w5 wr)
  case atStart => exact ⟨0, Nat.zero_le _, rfl, rfl, World.ownsRow_nil _ _ _ _, Upd.refl _ _⟩
  case round =>
    obtain ⟨j, hj, rfl, rfl, hv, hu⟩ := hrel
    have HV := Lib.hid hv; have HUV := Lib.hid hu
    clear hv hu
    obtain ⟨wo, rfl⟩ : ∃ wo, wo = wr := ⟨_, rfl⟩
    by_cases hjn : j < D.row.length
    · have hjn2 : (j : Int) < D.row.length := by omega
      obtain ⟨x, hx⟩ : ∃ x, D.row[j]? = some x := ⟨D.row[j], by simp [hjn]⟩
      obtain ⟨gu, rfl, hgu, _, hcu⟩ := own_cell1 (ownsRow_any HOWN.out HUV.out (fun _ _ e => e)) hjn
      have c0 : wo.cell? ⟨gu, j, none⟩ = some (.int .i64 x.1) := by rw [hcu]; simp [hx]
      have HX := Lib.hid hx
      clear hx hcu
      obtain ⟨bb, hbb⟩ : ∃ bb, decide (x.1 ≠ oN) = bb := ⟨_, rfl⟩
      have hne : ((x.1 : Int) != (oN : Int)) = bb := by rw [← hbb, Bool.eq_iff_iff]; simp; omega
      have HBB := Lib.hid hbb
      clear hbb
      go_upto_region 11 with fail
      iterate 16 go_step
      obtain ⟨i0, hi0, hz0, hz1, hz2⟩ := info_parts Try.info4p
      refine wpList_append_own _ rfl (.tmp 45) (.tmp 49) 49 rfl w5.heap.size 4 i0 (.bool false) 1 1 Try.underlying49 hi0 hz0 hz1 hz2 rfl (by omega) _ j _ rfl (HV.out.alloc _) ⟨wo.heap.size, 0, none⟩ 1 1 [.bool bb] rfl rfl (cell_one_new _ _ _) (by simp [Value.oneCell']) (by unfold maxLen; omega) (by omega) (by have := HUV.out.size; simp; omega) ?_
      intro v' w4 hown hgrow _
      have HN := Lib.hid hown
      have HUN : RowKit.Hid (Upd (fun _ => False) w5 w4) := Lib.hid (((HUV.out.alloc _).step (Upd.of_grown (F := fun k => w5.heap.size ≤ k) hgrow (fun k hk => (HV.out.lt k hk).1)) (fun k hk e => by omega)))
      clear hown hgrow hi0 hz0 hz1 hz2 HV HUV hne
      go_wp2
      go_roundg (D.row.length - (j + 1))
      case measure => omega
      case rel =>
        refine ⟨j + 1, by omega, rfl, congrArg _ (by omega), ?_, HUN.out⟩
        have := HN.out
        rw [List.take_add_one, HX.out]
        rw [← HBB.out] at this
        simpa using this
    · obtain rfl : j = D.row.length := by omega
      go_upto_region 13 with fail
      obtain ⟨ka, kc, hvf⟩ := own_form HV.out
      subst hvf
      obtain ⟨keep, hkeep⟩ : ∃ keep, keep = D.row.map fun x => decide (x.1 ≠ oN) := ⟨_, rfl⟩
      have hkl : keep.length = D.row.length := by rw [hkeep]; simp
      have hv2 := HV.out
      rw [List.take_length, ← hkeep] at hv2
      have hbo := own_bools hv2 hkl
      have hcr := crash_any wo ka kc keep hbo (by omega) (HD5.out.kept HUV.out (fun _ _ e => e)) (HOK.out.mono (by omega))
      rw [hkl] at hcr
      have HCR := Lib.hid hcr
      have HKE := Lib.hid hkeep
      clear hcr hkeep hkl hv2 hbo HV HOWN
      go_wp2_with (go_at_call 40; fail)
      refine HCR.out.mono ?_
      rintro e w6 ⟨rfl, F6, hD6, hF6, hu6⟩
      have HT6 := Lib.hid ((HT5.out.turn (F' := F) (HUV.out.mono (fun _ _ e => e.elim)) (fun j e => .inl e)).turn (F' := F6) hu6 hF6)
      obtain ⟨Cd, hCd⟩ : ∃ Cd, Cd = D.crash keep := ⟨_, rfl⟩
      rw [← hCd] at hD6
      have hCok : Cd.Ok 1000 := by rw [hCd]; exact (HOK.out.crash _).mono (by omega)
      have hCcalm : Cd.Calm := by rw [hCd]; exact crash_calm' _ _
      have hClen : Cd.arr.length = N := by rw [hCd]; simp [Dk.crash, Dk.arrive, HLEN.out]
      have hCrow : Cd.row = [] := by rw [hCd]; rfl
      have hCsh : ∀ i, i < N → Cd.shows i = if i = oN then D.arr.getD i [] else D.shows i := fun i hi => by
        rw [hCd, HKE.out]; exact crash_own HOK.out oN i (by rw [HLEN.out]; exact hi)
      have HU6 := Lib.hid ((HU5.out.trans HUV.out).step hu6 (fun m hm e => by have := HF.out m e; omega))
      have HF6 : RowKit.Hid (∀ k, F6 k → w.heap.size ≤ k) := Lib.hid (fun k hk => by
        rcases hF6 k hk with e | e
        · have := HF.out k e; omega
        · have := HU5.out.size; have := HUV.out.size; omega)
      have HD6 := Lib.hid hD6; have HCOK := Lib.hid hCok; have HCC := Lib.hid hCcalm; have HCL := Lib.hid hClen; have HCRW := Lib.hid hCrow; have HCS := Lib.hid hCsh
      clear hD6 hF6 hu6 hCd hCok hCcalm hClen hCrow hCsh HCR HT5 HD5 HUV
      simp only []
      go_wp2
      have hN2 := hN.2
      go_loopg [58] N (fun gk i wr => ∃ m : Nat, m ≤ N ∧ gk = N - m ∧ i = .int .i64 m ∧ ReadSt w6 p F6 Cd m wr)
      case atStart => exact ⟨0, Nat.zero_le _, rfl, rfl, Cd, HD6.out, HCC.out, rfl, rfl, HCOK.out, Upd.refl _ _⟩
      case round =>
        obtain ⟨m, hm, rfl, rfl, X, hDX, hXc, hXa, hXr, hXo, huX⟩ := hrel
        obtain ⟨wy, rfl⟩ : ∃ wy, wy = wr := ⟨_, rfl⟩
        by_cases hmN : m < N
        · have hmNi : (m : Int) < N := by omega
          have hTy := HT6.out.kept huX
          have c0 := hTy.cell hmN hmN
          have hl64 := hTy.lens m hmN
          have hr1 := (hTy.his m hmN).at hl64 (hist_last D m)
          have hr0 := (hTy.his m hmN).at hl64 (hist_first D m)
          have hp1 := hist_pos D m
          have hp2 : (D.hist m).length ≤ 1000 := by have := hist_len D m; have := HOK.out.rowlen; omega
          obtain ⟨r1, r2, r3, r4, r5⟩ := read_calm hXc (i := m) (by rw [hXa, HCL.out]; exact hmN)
          have hsh : X.reads m = Cd.shows m := by rw [r2]; exact shows_same hXa hXr m
          have hcs := HCS.out m hmN
          have hbl1 : (D.shows m).length = 64 := hl64 _ (List.mem_of_getElem? (hist_last D m))
          have hbl0 : (D.arr.getD m []).length = 64 := hl64 _ (List.mem_of_getElem? (hist_first D m))
          rw [Nat.zero_mul, Nat.add_zero] at hr0
          obtain ⟨A0, hA0⟩ : ∃ A0, A0 = D.arr.getD m [] := ⟨_, rfl⟩
          rw [← hA0] at hr0 hbl0 hcs
          clear hA0
          have HR1 := Lib.hid hr1; have HR0 := Lib.hid hr0
          have HB1 : RowKit.Hid ((bcells (D.shows m)).length = 64) := Lib.hid (by rw [bcells_length]; exact hbl1)
          have HB0 : RowKit.Hid ((bcells A0).length = 64) := Lib.hid (by rw [bcells_length]; exact hbl0)
          have H11 := Lib.hid (all_oneCell_toArray (bcells_one (D.shows m)))
          have H10 := Lib.hid (all_oneCell_toArray (bcells_one A0))
          clear hTy hl64 hr1 hr0 hbl1 hbl0
          generalize hnn : (D.hist m).length = nn at *
          clear hnn
          go_upto_region 18 with fail
          iterate 13 go_step
          refine wpList_exec rfl (run_last66 rfl rfl rfl hp1 _) ?_
          refine wpList_load_mid rfl 56 (.tmp 67) rfl (g m) (off m + (nn - 1) * 64) rfl (bcells (D.shows m)) _ HR1.out Try.underlying56 rfl (by rw [Try.info56p, HB1.out]) ?_
          iterate 3 go_step
          obtain ⟨f1, f2, f3⟩ := fresh56e wy (bcells (D.shows m)) HB1.out
          refine wpList_store_mid rfl 56 (.tmp 16) (.tmp 68) rfl wy.heap.size 0 (bcells (D.shows m)).toArray rfl rfl f1 (by rw [Try.info56p]; simp [HB1.out]) H11.out ?_
          refine (?_ : wpList _ _ _ _ _ ((wy.alloc (.cells (bcells zblk).toArray 56)).setCells wy.heap.size 0 (bcells (D.shows m))))
          obtain ⟨wW, hwW⟩ : ∃ wW, wW = (wy.alloc (.cells (bcells zblk).toArray 56)).setCells wy.heap.size 0 (bcells (D.shows m)) := ⟨_, rfl⟩
          rw [← hwW] at f2 f3 ⊢
          obtain ⟨ww, hww⟩ : ∃ ww, ww = wy.heap.size := ⟨_, rfl⟩
          have HWS : RowKit.Hid (wy.heap.size ≤ ww) := Lib.hid (by omega)
          rw [← hww] at f2 ⊢
          have HBW := Lib.hid f2; have HUW := Lib.hid f3
          clear f1 f2 f3 hwW hww
          have z0 : True := trivial
          by_cases hmo : m = oN
          · have hq : ((m : Int) == (oN : Int)) = true := by simp [hmo]
            rw [if_pos hmo] at hcs
            have HCE := Lib.hid hcs
            clear hcs hmo
            go_upto_region 20 with fail
            iterate 7 go_step
            refine wpList_load_mid rfl 56 (.tmp 73) rfl (g m) (off m) rfl (bcells A0) _ (fun j u hj => cell_kept HUW.out (HR0.out j u hj)) Try.underlying56 rfl (by rw [Try.info56p, HB0.out]) ?_
            refine wpList_store_mid rfl 56 (.tmp 16) (.tmp 74) rfl ww 0 (bcells A0).toArray rfl rfl (by have := there_block HBW.out; simpa [HB1.out, HB0.out] using this) (by rw [Try.info56p]; simp [HB0.out]) H10.out ?_
            refine (?_ : wpList _ _ _ _ _ (wW.setCells ww 0 (bcells A0)))
            obtain ⟨wV, hwV⟩ : ∃ wV, wV = wW.setCells ww 0 (bcells A0) := ⟨_, rfl⟩
            have huV : Upd (fun _ => False) wy wV := HUW.out.step (G := fun k => k = ww) (by rw [hwV]; exact upd_setCells wW ww 0 (bcells A0)) (fun k hk e => by have := HWS.out; omega)
            have hbV : wV.heap[ww]? = some (.cells (bcells A0).toArray 56 (0, 0)) := by rw [hwV]; exact heap_setCells_whole (vs := bcells A0) HBW.out (by simp [HB1.out, HB0.out])
            rw [← hwV]
            rw [← HCE.out] at hbV
            clear HBW HUW hwV HR1 HR0 HB0 HB1 H11 H10
            have HBW := Lib.hid hbV; have HUW := Lib.hid huV
            clear hbV huV HCE
            clear z0
            go_wp2_with (go_at_call 42; fail)
            have hra := read_any m wV (hDX.kept HUW.out (fun _ _ e => e)) (hXo.mono (by omega))
            rw [hsh, r1] at hra
            refine hra.mono ?_
            rintro e wz ⟨rfl, hDz, huz⟩
            have HBZ := Lib.hid ((huz.block _ (lt_of_heap HBW.out) (fun e => by have := hDX.lt _ e; have := HWS.out; omega)).trans HBW.out)
            have HUZ := Lib.hid ((huX.trans (HUW.out.mono (fun _ _ e => e.elim))).trans huz); have HDZ := Lib.hid hDz
            have HX2 : RowKit.Hid ((X.callD m false).Calm ∧ (X.callD m false).arr = Cd.arr ∧ (X.callD m false).row = Cd.row ∧ (X.callD m false).Ok (1000 + (m + 1))) := Lib.hid ⟨r3, r4.trans hXa, r5.trans hXr, (hXo.callD m false).mono (by omega)⟩
            have hbl := (shows_blk HCOK.out (by rw [HCL.out]; exact hmN)).1
            have HBL := Lib.hid hbl
            have HNEQ : RowKit.Hid (∀ W, (binOp .neq 56 (.agg (bcells (Cd.shows m)).toArray) (.agg (bcells (Cd.shows m)).toArray)).run Try.prog W = .ok (.bool false) W) := Lib.hid (fun W => by rw [neq_bytes W hbl hbl]; simp)
            have H1B := Lib.hid (all_oneCell_toArray (bcells_one (Cd.shows m)))
            have HLE : RowKit.Hid ((bcells (Cd.shows m)).length = 64) := Lib.hid (by rw [bcells_length]; exact hbl)
            clear hDz huz hra hbl hsh r1 r2 r3 r4 r5 hXc hXa hXr hXo
            clear huX hDX HBW HUW
            generalize X.callD m false = X2 at *
            generalize bcells (Cd.shows m) = bs at *
            simp only []
            iterate 13 go_step
            obtain ⟨f1, f2, f3⟩ := fresh56e wz bs HLE.out
            refine wpList_store_mid rfl 56 (.tmp 17) (.tmp 79) rfl wz.heap.size 0 bs.toArray rfl rfl f1 (by rw [Try.info56p]; simp [HLE.out]) H1B.out ?_
            refine (?_ : wpList _ _ _ _ _ ((wz.alloc (.cells (bcells zblk).toArray 56)).setCells wz.heap.size 0 bs))
            obtain ⟨wA, hwA⟩ : ∃ wA, wA = (wz.alloc (.cells (bcells zblk).toArray 56)).setCells wz.heap.size 0 bs := ⟨_, rfl⟩
            rw [← hwA] at f2 f3 ⊢
            have HG := Lib.hid f2
            have HWN := Lib.hid ((f3.block _ (lt_of_heap HBZ.out) (fun e => e)).trans HBZ.out)
            have hst : ReadSt w6 p F6 Cd (m + 1) wA := ⟨X2, HDZ.out.kept f3 (fun _ _ e => e), HX2.out.1, HX2.out.2.1, HX2.out.2.2.1, HX2.out.2.2.2, HUZ.out.trans (f3.mono (fun _ _ e => e.elim))⟩
            have HST2 := Lib.hid hst
            clear f1 f2 f3 hwA hst HDZ HUZ HBZ
            go_upto_region 22 with fail
            iterate 10 go_step
            refine wpList_execG rfl (run_load_mid' rfl rfl bs (rangeAt_block HG.out) Try.underlying56 rfl (by rw [Try.info56p, HLE.out])) ?_
            refine wpList_execG rfl (run_load_mid' rfl rfl bs (rangeAt_block HWN.out) Try.underlying56 rfl (by rw [Try.info56p, HLE.out])) ?_
            refine wpList_execG rfl (run_exec_neq (xs := bs.toArray) (ys := bs.toArray) rfl rfl rfl (HNEQ.out _)) ?_
            go_wp2
            go_roundg (N - (m + 1))
            case measure => omega
            case rel => exact ⟨m + 1, by omega, rfl, congrArg _ (by omega), HST2.out⟩
          · have hq : ((m : Int) == (oN : Int)) = false := by simp; omega
            rw [if_neg hmo] at hcs
            rw [← hcs] at HBW HB1
            clear hcs hmo HR1 HR0 HB0 H11 H10
            clear z0
            go_wp2_with (go_at_call 42; fail)
            have hra := read_any m wW (hDX.kept HUW.out (fun _ _ e => e)) (hXo.mono (by omega))
            rw [hsh, r1] at hra
            refine hra.mono ?_
            rintro e wz ⟨rfl, hDz, huz⟩
            have HBZ := Lib.hid ((huz.block _ (lt_of_heap HBW.out) (fun e => by have := hDX.lt _ e; have := HWS.out; omega)).trans HBW.out)
            have HUZ := Lib.hid ((huX.trans (HUW.out.mono (fun _ _ e => e.elim))).trans huz); have HDZ := Lib.hid hDz
            have HX2 : RowKit.Hid ((X.callD m false).Calm ∧ (X.callD m false).arr = Cd.arr ∧ (X.callD m false).row = Cd.row ∧ (X.callD m false).Ok (1000 + (m + 1))) := Lib.hid ⟨r3, r4.trans hXa, r5.trans hXr, (hXo.callD m false).mono (by omega)⟩
            have hbl := (shows_blk HCOK.out (by rw [HCL.out]; exact hmN)).1
            have HBL := Lib.hid hbl
            have HNEQ : RowKit.Hid (∀ W, (binOp .neq 56 (.agg (bcells (Cd.shows m)).toArray) (.agg (bcells (Cd.shows m)).toArray)).run Try.prog W = .ok (.bool false) W) := Lib.hid (fun W => by rw [neq_bytes W hbl hbl]; simp)
            have H1B := Lib.hid (all_oneCell_toArray (bcells_one (Cd.shows m)))
            have HLE : RowKit.Hid ((bcells (Cd.shows m)).length = 64) := Lib.hid (by rw [bcells_length]; exact hbl)
            clear hDz huz hra hbl hsh r1 r2 r3 r4 r5 hXc hXa hXr hXo
            clear huX hDX HBW HUW
            generalize X.callD m false = X2 at *
            generalize bcells (Cd.shows m) = bs at *
            simp only []
            iterate 13 go_step
            obtain ⟨f1, f2, f3⟩ := fresh56e wz bs HLE.out
            refine wpList_store_mid rfl 56 (.tmp 17) (.tmp 79) rfl wz.heap.size 0 bs.toArray rfl rfl f1 (by rw [Try.info56p]; simp [HLE.out]) H1B.out ?_
            refine (?_ : wpList _ _ _ _ _ ((wz.alloc (.cells (bcells zblk).toArray 56)).setCells wz.heap.size 0 bs))
            obtain ⟨wA, hwA⟩ : ∃ wA, wA = (wz.alloc (.cells (bcells zblk).toArray 56)).setCells wz.heap.size 0 bs := ⟨_, rfl⟩
            rw [← hwA] at f2 f3 ⊢
            have HG := Lib.hid f2
            have HWN := Lib.hid ((f3.block _ (lt_of_heap HBZ.out) (fun e => e)).trans HBZ.out)
            have hst : ReadSt w6 p F6 Cd (m + 1) wA := ⟨X2, HDZ.out.kept f3 (fun _ _ e => e), HX2.out.1, HX2.out.2.1, HX2.out.2.2.1, HX2.out.2.2.2, HUZ.out.trans (f3.mono (fun _ _ e => e.elim))⟩
            have HST2 := Lib.hid hst
            clear f1 f2 f3 hwA hst HDZ HUZ HBZ
            go_upto_region 22 with fail
            iterate 10 go_step
            refine wpList_execG rfl (run_load_mid' rfl rfl bs (rangeAt_block HG.out) Try.underlying56 rfl (by rw [Try.info56p, HLE.out])) ?_
            refine wpList_execG rfl (run_load_mid' rfl rfl bs (rangeAt_block HWN.out) Try.underlying56 rfl (by rw [Try.info56p, HLE.out])) ?_
            refine wpList_execG rfl (run_exec_neq (xs := bs.toArray) (ys := bs.toArray) rfl rfl rfl (HNEQ.out _)) ?_
            go_wp2
            go_roundg (N - (m + 1))
            case measure => omega
            case rel => exact ⟨m + 1, by omega, rfl, congrArg _ (by omega), HST2.out⟩
        · obtain rfl : m = N := by omega
          go_upto_region 25 with fail
          have hxr0 : X.row = [] := hXr.trans HCRW.out
          have hpe := pending_any wy hDX (hXo.mono (by omega))
          rw [hxr0] at hpe
          have HPE := Lib.hid hpe
          have HFIN := Lib.hid (HU6.out.step huX (fun k hk e => by have := HF6.out k e; omega))
          clear hxr0 hpe hDX hXc hXa hXr hXo huX
          go_wp2_with (go_at_call 52; fail)
          refine HPE.out.mono ?_
          rintro e wz ⟨u, rfl, hown, huz⟩
          obtain ⟨ua, uc, rfl⟩ := own_form hown
          have HFZ := Lib.hid (HFIN.out.trans huz)
          clear hown huz HPE HFIN
          simp only [List.length_nil]
          go_wp2
          go_ret
          exact ⟨rfl, HFZ.out⟩

end Go.Proofs.Ytbimkhdiplnbfaa
end

section
namespace Go.Proofs.Ytbimkhdiplnbfaa
open Go.RowKit Go.Deep

/-- Where a block comes first in a row; -1: it does not. -/
def idxN (b : List Int) (bs : List (List Int)) : Nat := (bs.takeWhile (fun x => !(x == b))).length
def idxL (b : List Int) (bs : List (List Int)) : Int := if idxN b bs < bs.length then idxN b bs else -1

theorem idxN_at {b : List Int} {bs : List (List Int)} {k : Nat} (hb : bs[k]? = some b) (hn : ∀ j, j < k → ∀ x, bs[j]? = some x → x ≠ b) : idxL b bs = k := by
  have hk := (List.getElem?_eq_some_iff.1 hb).1
  have h : idxN b bs = k := takeWhile_count (fun x => !(x == b)) bs k (fun j x hj hx => by simpa using hn j hj x hx) (by omega) (fun x hx => by rw [hb] at hx; cases hx; simp)
  unfold idxL
  rw [h, if_pos hk]

theorem idxN_none {b : List Int} {bs : List (List Int)} (hn : ∀ j, j < bs.length → ∀ x, bs[j]? = some x → x ≠ b) : idxL b bs = -1 := by
  have h : idxN b bs = bs.length := takeWhile_count (fun x => !(x == b)) bs bs.length (fun j x hj hx => by simpa using hn j hj x hx) (Nat.le_refl _) (fun x hx => by simp at hx)
  unfold idxL
  rw [h, if_neg (by omega)]

theorem idxL_le {b : List Int} : ∀ {bs : List (List Int)} {k : Nat}, bs[k]? = some b → 0 ≤ idxL b bs ∧ idxL b bs ≤ k := by
  intro bs k hb
  have hk := (List.getElem?_eq_some_iff.1 hb).1
  have hle : idxN b bs ≤ k := by
    unfold idxN
    induction bs generalizing k with
    | nil => simp at hb
    | cons x l ih =>
      simp only [List.takeWhile_cons]
      by_cases hx : x = b
      · simp [hx]
      · have : (!(x == b)) = true := by simpa using hx
        rw [if_pos this]
        cases k with
        | zero => simp at hb; exact absurd hb hx
        | succ k =>
          have := ih (k := k) (by simpa using hb) (by simp at hk; omega)
          simpa using this
  unfold idxL
  rw [if_pos (by omega)]
  omega

theorem run_exec_eqlB {o : Oper} {a : Act} {w : World} {x y : Operand} {rt : TypeId} {xs ys : List Int} (ho : o.op = .binOp .eql 56 x y rt) (hx : a.eval x = .agg (bcells xs).toArray) (hy : a.eval y = .agg (bcells ys).toArray) (h1 : xs.length = 64) (h2 : ys.length = 64) :
    (execOp a.eval o).run Try.prog w = .ok (.value (.bool (xs == ys))) w := by
  have hr : (binOp .eql 56 (.agg (bcells xs).toArray) (.agg (bcells ys).toArray)).run Try.prog w = .ok (.bool (xs == ys)) w := by
    rw [run_eql_struct, eq_bytes w h1 h2]; rfl
  have hg := run_eqGuard_agg (P := Try.prog) w .eql 56 x y (bcells xs).toArray (bcells ys).toArray (by kernel_rfl)
  simp [execOp, ho, hx, hy, hg, hr, Result.andThen]

set_option maxRecDepth 100000 in
set_option maxHeartbeats 4000000 in
theorem index_run {g off cap : Nat} {bs : List (List Int)} {b : List Int} (w : World) (h : HisAt w g off cap bs) (hl : ∀ x ∈ bs, x.length = 64) (hb : b.length = 64) (hn : bs.length ≤ 1000) :
    Calls Try.prog 59 #[.slice (some ⟨g, off, none⟩) bs.length cap, .agg (bcells b).toArray] w fun e w' => e = .returned (.int .i64 (idxL b bs)) ∧ Upd (fun _ => False) w w' := by
  have HH := Lib.hid h; have HL := Lib.hid hl; have HB := Lib.hid hb
  obtain ⟨w0, hw0⟩ : ∃ w0, w0 = w.alloc (.cells (bcells b).toArray 56) := ⟨_, rfl⟩
  have HB0 : RowKit.Hid (w0.heap[w.heap.size]? = some (.cells (bcells b).toArray 56 (0, 0))) := Lib.hid (by rw [hw0]; exact alloc_at rfl)
  have HU0 : RowKit.Hid (Upd (fun _ => False) w w0) := Lib.hid (by rw [hw0]; exact (Upd.refl _ _).alloc _)
  have HI : RowKit.Hid ((Try.prog.info? 56).map (·.size) = some (bcells b).length) := Lib.hid (by rw [Try.info56p, bcells_length, hb])
  have HW0 := Lib.hid hw0
  clear h hl hb hw0
  go_enter Try.func59, Try.ntmps59
  go_wp2
  rw [← show w0 = _ from HW0.out]
  clear HW0
  go_loopg [8] bs.length (fun gk i wr => ∃ k : Nat, k ≤ bs.length ∧ gk = bs.length - k ∧ i = .int .i64 k ∧ (∀ j, j < k → ∀ x, bs[j]? = some x → x ≠ b) ∧ Upd (fun _ => False) w0 wr)
  case atStart => exact ⟨0, Nat.zero_le _, rfl, rfl, fun j hj => by omega, Upd.refl _ _⟩
  case round =>
    obtain ⟨k, hk, rfl, rfl, hne, hu⟩ := hrel
    obtain ⟨wo, rfl⟩ : ∃ wo, wo = wr := ⟨_, rfl⟩
    have HNE := Lib.hid hne; have HU := Lib.hid hu
    clear hne hu
    by_cases hkn : k < bs.length
    · have hkni : (k : Int) < bs.length := by omega
      obtain ⟨x, hx⟩ : ∃ x, bs[k]? = some x := ⟨bs[k], by simp [hkn]⟩
      have hxl := HL.out x (List.mem_of_getElem? hx)
      have hA : wo.heap[w.heap.size]? = some (.cells (bcells b).toArray 56 (0, 0)) ∧ wo.rangeAt g (off + k * 64) (bcells x) := ⟨(HU.out.block _ (lt_of_heap HB0.out) (fun e => e)).trans HB0.out, ((HH.out.kept (HU0.out.trans HU.out) (fun e => e)).at HL.out hx)⟩
      have HX := Lib.hid hx; have HXL := Lib.hid hxl
      have HIX : RowKit.Hid ((Try.prog.info? 56).map (·.size) = some (bcells x).length) := Lib.hid (by rw [Try.info56p, bcells_length, hxl])
      clear hx hxl
      go_upto_region 4 with fail
      refine wp_region_G 5 (fun W => W.heap[w.heap.size]? = some (.cells (bcells b).toArray 56 (0, 0)) ∧ W.rangeAt g (off + k * 64) (bcells x)) [false, false, false, false, false, false] rfl (by kernel_rfl) ?_
      refine wpG_takeT (i := 0) (v := .agg (bcells b).toArray) rfl (fun L hc h => (hc.waits (n := 5) (i := 0) (by kernel_rfl) h)) (by kernel_rfl) (fun _ _ _ h => h) hA (.inl ⟨rfl, fun w5 q1 => ?_⟩) ?_
      · exact run_load_mid' rfl rfl (bcells b) (rangeAt_block q1.1) Try.underlying56 rfl HI.out
      simp only [Act.put, List.setIfInBounds_toArray, List.set]
      refine wpG_takeT (i := 1) (v := .slice (some ⟨g, off, none⟩) bs.length cap) rfl (fun L hc h => (hc.waits (n := 5) (i := 4) (by kernel_rfl) (hc.waits (n := 4) (i := 3) (by kernel_rfl) (hc.waits (n := 3) (i := 1) (by kernel_rfl) h)))) (by kernel_rfl) (fun _ _ _ h => h) hA (.inl ⟨rfl, fun w5 q1 => ?_⟩) ?_
      · go_simp
      simp only [Act.put, List.setIfInBounds_toArray, List.set]
      refine wpG_takeT (i := 2) (v := .int .i64 k) rfl (fun L hc h => (hc.waits (n := 5) (i := 4) (by kernel_rfl) (hc.waits (n := 4) (i := 3) (by kernel_rfl) (hc.waits (n := 3) (i := 2) (by kernel_rfl) h)))) (by kernel_rfl) (fun _ _ _ h => h) hA (.inl ⟨rfl, fun w5 q1 => ?_⟩) ?_
      · go_simp
      simp only [Act.put, List.setIfInBounds_toArray, List.set]
      refine wpG_takeT (i := 3) (v := .pointer (some ⟨g, off + k * 64, none⟩)) rfl (fun L hc h => (hc.waits (n := 5) (i := 4) (by kernel_rfl) (hc.waits (n := 4) (i := 3) (by kernel_rfl) h))) (by kernel_rfl) (fun _ _ _ h => h) hA (.inl ⟨rfl, fun w5 q1 => ?_⟩) ?_
      · go_simp
      simp only [Act.put, List.setIfInBounds_toArray, List.set]
      refine wpG_takeT (i := 4) (v := .agg (bcells x).toArray) rfl (fun L hc h => (hc.waits (n := 5) (i := 4) (by kernel_rfl) h)) (by kernel_rfl) (fun _ _ _ h => h) hA (.inl ⟨rfl, fun w5 q1 => ?_⟩) ?_
      · exact run_load_mid' rfl rfl (bcells x) q1.2 Try.underlying56 rfl HIX.out
      simp only [Act.put, List.setIfInBounds_toArray, List.set]
      refine wpG_tail_lit (k := 5) rfl rfl (by kernel_rfl) ?_
      simp only [List.drop]
      refine wpList_exec rfl (run_exec_eqlB (xs := b) (ys := x) rfl rfl rfl HB.out HXL.out) ?_
      have HUD := Lib.hid (HU.out.trans (Upd.refl _ wo).drew)
      clear hA
      by_cases hbx : b = x
      · have hq : (b == x) = true := by simpa using hbx
        rw [hq]
        have hres : idxL b bs = k := idxN_at (by rw [hbx]; exact HX.out) HNE.out
        have HRES := Lib.hid hres
        clear hbx hq hres
        go_wp2
        go_ret
        exact ⟨by rw [HRES.out]; rfl, HU0.out.trans HUD.out⟩
      · have hq : (b == x) = false := by simpa using hbx
        rw [hq]
        have HNE2 : RowKit.Hid (∀ j, j < k + 1 → ∀ y, bs[j]? = some y → y ≠ b) := Lib.hid (fun j hj y hy => by
          by_cases h1 : j = k
          · subst h1; rw [HX.out] at hy; cases hy; exact fun e => hbx e.symm
          · exact HNE.out j (by omega) y hy)
        clear hbx hq
        go_wp2
        go_roundg (bs.length - (k + 1))
        case measure => omega
        case rel => exact ⟨k + 1, by omega, rfl, congrArg _ (by omega), HNE2.out, HUD.out⟩
    · obtain rfl : k = bs.length := by omega
      go_wp2
      go_ret
      exact ⟨by rw [idxN_none HNE.out]; rfl, HU0.out.trans HU.out⟩

set_option maxRecDepth 100000 in
set_option maxHeartbeats 4000000 in
theorem contains_run {g off cap : Nat} {bs : List (List Int)} {b : List Int} (w : World) (h : HisAt w g off cap bs) (hl : ∀ x ∈ bs, x.length = 64) (hb : b.length = 64) (hn : bs.length ≤ 1000) (hin : ∃ k : Nat, bs[k]? = some b) :
    Calls Try.prog 58 #[.slice (some ⟨g, off, none⟩) bs.length cap, .agg (bcells b).toArray] w fun e w' => e = .returned (.bool true) ∧ Upd (fun _ => False) w w' := by
  obtain ⟨k, hk⟩ := hin
  have hix := (idxL_le hk).1
  obtain ⟨q, hq⟩ : ∃ q, q = idxL b bs := ⟨_, rfl⟩
  rw [← hq] at hix
  have HQ := Lib.hid hq
  have HIR := Lib.hid (fun (W : World) (hu : Upd (fun _ => False) w W) => index_run W (h.kept hu (fun e => e)) hl hb hn)
  have HLE : RowKit.Hid ((bcells b).length = 64) := Lib.hid (by rw [bcells_length]; exact hb)
  obtain ⟨w0, hw0⟩ : ∃ w0, w0 = w.alloc (.cells (bcells b).toArray 56) := ⟨_, rfl⟩
  have HB0 : RowKit.Hid (w0.heap[w.heap.size]? = some (.cells (bcells b).toArray 56 (0, 0))) := Lib.hid (by rw [hw0]; exact alloc_at rfl)
  have HU0 : RowKit.Hid (Upd (fun _ => False) w w0) := Lib.hid (by rw [hw0]; exact (Upd.refl _ _).alloc _)
  have HW0 := Lib.hid hw0
  clear h hl hb hn hw0 hk hq
  go_enter Try.func58, Try.ntmps58
  go_upto_region 1 with fail
  rw [← show w0 = _ from HW0.out]
  iterate 4 go_step
  refine wpList_load_mid rfl 56 (.tmp 3) rfl w.heap.size 0 rfl (bcells b) _ (rangeAt_block HB0.out) Try.underlying56 rfl (by rw [Try.info56p, HLE.out]) ?_
  go_wp2_with fail
  refine (HIR.out w0 HU0.out).mono ?_
  rintro e w1 ⟨rfl, hu1⟩
  rw [← HQ.out]
  have HU1 := Lib.hid (HU0.out.trans hu1)
  clear hu1
  simp only []
  have hge : q ≥ 0 := hix
  go_wp2
  go_ret
  exact ⟨rfl, HU1.out⟩

theorem flatB_length (bs : List (List Int)) (hl : ∀ x ∈ bs, x.length = 64) : (bs.flatMap bcells).length = bs.length * 64 := flat_length bcells 64 bs (fun y hy => by rw [bcells_length]; exact hl y hy)

theorem HisAt.cellAt {w : World} {g off cap : Nat} {bs : List (List Int)} (h : HisAt w g off cap bs) : ∀ j u, (bs.flatMap bcells)[j]? = some u → w.cell? ((⟨g, off, none⟩ : Addr).add j) = some u := fun j v hj => by
  obtain ⟨cur, h1, h2, h3, h4, h5, h6⟩ := h
  have ha : (⟨g, off, none⟩ : Addr).add j = ⟨g, off + j, none⟩ := by unfold Addr.add; split <;> simp_all
  rw [ha, cell_of_heap h1, ← Array.getElem?_toList, ← List.getElem?_drop]
  rw [← h6, List.getElem?_take] at hj
  split at hj
  · exact hj
  · cases hj

set_option maxHeartbeats 1000000 in
theorem cloneB_run {g off cap : Nat} {bs : List (List Int)} (w : World) (h : HisAt w g off cap bs) (hl : ∀ x ∈ bs, x.length = 64) (hn : bs.length ≤ 1000) :
    Calls Try.prog 102 #[.slice (some ⟨g, off, none⟩) bs.length cap] w fun e w' => ∃ g' c, e = .returned (.slice (some ⟨g', 0, none⟩) bs.length c) ∧ ArrS w' (some ⟨g', 0, none⟩) c bs ∧ w.heap.size ≤ g' ∧ Upd (fun _ => False) w w' := by
  have HC := Lib.hid h.cellAt
  have HFL := Lib.hid (flatB_length bs hl)
  clear h hl
  have q22 : (binOp .eql 66 (.slice (some ⟨g, off, none⟩) bs.length cap) (.slice none 0 0)).run Try.prog w = .ok (.bool false) w := Lib.run_eql_slice_nil w _ _ _ _ _ _ _ Try.underlying66
  go_enter Try.func102, Try.ntmps102
  go_upto_region 3 with fail
  clear q22
  iterate 7 go_step
  obtain ⟨i0, hi0, hz0, hz1, hz2⟩ := info_parts Try.info56h
  have hown0 : (w.alloc (.cells #[] 56)).ownsRow w.heap.size 56 64 (.slice (some ⟨w.heap.size, 0, none⟩) 0 0) 0 [] :=
    ⟨by simp, .inr ⟨w.heap.size, 0, #[], rfl, Nat.le_refl _, alloc_at rfl, Nat.le_refl _, Nat.zero_le _, rfl, rfl⟩⟩
  refine wpList_append_own _ rfl (.tmp 5) (.tmp 6) 66 rfl w.heap.size 56 i0 (.agg (bcells zblk).toArray) 64 64 Try.underlying66 hi0 hz0 hz1 hz2 (by show (bcells zblk).toArray.size = 64; simp [bcells, zblk]) (by omega) _ 0 [] rfl hown0 ⟨g, off, none⟩ bs.length cap (bs.flatMap bcells) rfl HFL.out (fun j u hj =>
    cell_kept ((Upd.refl _ w).alloc _) (HC.out j u hj)) (by
    intro u hu
    obtain ⟨y, _, hy⟩ := List.mem_flatMap.1 hu
    exact bcells_one y u hy) (by unfold maxLen; omega) (by omega) (by simp) ?_
  intro v' w1 hown hgrow hnil
  have hv : ∃ g' c, v' = .slice (some ⟨g', 0, none⟩) bs.length c ∧ w.heap.size ≤ g' := by
    rcases hown.2 with ⟨e, _⟩ | ⟨g', c, cur, e, hb, _, h1, h2, _⟩
    · have he := (hnil.1 e).1
      cases he
    · exact ⟨g', c, by simpa using e, hb⟩
  obtain ⟨g', c, rfl, hb⟩ := hv
  have HO := Lib.hid hown
  have HG := Lib.hid hgrow
  clear hown hgrow hnil hi0 hz0 hz1 hz2 hown0
  go_wp2
  go_ret
  refine ⟨g', c, rfl, ?_, hb, ?_⟩
  · have ho := HO.out
    simp only [Nat.zero_add, List.nil_append] at ho
    unfold ArrS
    obtain ⟨h1, h2⟩ := ho
    refine ⟨h1, ?_⟩
    rcases h2 with ⟨e, _⟩ | ⟨g'', c', cur, e, _, r⟩
    · cases e
    · exact .inr ⟨g'', c', cur, e, Nat.zero_le _, r⟩
  · have h2 : Upd (fun j => w.heap.size ≤ j) w w1 := (((Upd.refl _ w).alloc _).step (Upd.of_grown (F := fun j => w.heap.size ≤ j) HG.out (fun k hk => Nat.le_of_eq (Option.some.inj hk))) (fun _ _ e => e))
    exact h2.mono (fun j hj e => by omega)

end Go.Proofs.Ytbimkhdiplnbfaa
end

section
namespace Go.Proofs.Ytbimkhdiplnbfaa
open Go.RowKit Go.Deep

/-- A row whose ends are exchanged, k of them. -/
structure RevAt (arr M : List (List Int)) (k : Nat) : Prop where
  len : M.length = arr.length
  get : ∀ p, p < arr.length → M[p]? = if p < k ∨ arr.length - 1 - p < k then arr[arr.length - 1 - p]? else arr[p]?

theorem RevAt.start (arr : List (List Int)) : RevAt arr arr 0 := ⟨rfl, fun p hp => by simp⟩

theorem RevAt.mem {arr M : List (List Int)} {k : Nat} (h : RevAt arr M k) (hl : ∀ x ∈ arr, x.length = 64) : ∀ x ∈ M, x.length = 64 := fun x hx => by
  obtain ⟨p, hp⟩ := List.mem_iff_getElem?.1 hx
  have hpl : p < arr.length := by rw [← h.len]; exact (List.getElem?_eq_some_iff.1 hp).1
  rw [h.get p hpl] at hp
  split at hp
  · exact hl x (List.mem_of_getElem? hp)
  · exact hl x (List.mem_of_getElem? hp)

theorem RevAt.step {arr M : List (List Int)} {k j : Nat} (h : RevAt arr M k) (hkj : k + j + 1 = arr.length) (hlt : k < j) {x y : List Int} (hx : M[k]? = some x) (hy : M[j]? = some y) : RevAt arr ((M.set k y).set j x) (k + 1) := by
  have hxa : arr[k]? = some x := by
    rw [h.get k (by omega), if_neg (by omega)] at hx; exact hx
  have hya : arr[j]? = some y := by
    rw [h.get j (by omega), if_neg (by omega)] at hy; exact hy
  have hl := h.len
  refine ⟨by simp [h.len], fun p hp => ?_⟩
  by_cases h1 : p = j
  · subst h1
    rw [List.getElem?_set_self (by simp; omega), if_pos (.inr (by omega)), show arr.length - 1 - p = k by omega, hxa]
  · rw [List.getElem?_set_ne (by omega)]
    by_cases h2 : p = k
    · subst h2
      rw [List.getElem?_set_self (by omega), if_pos (.inl (by omega)), show arr.length - 1 - p = j by omega, hya]
    · rw [List.getElem?_set_ne (by omega), h.get p hp]
      by_cases h3 : p < k ∨ arr.length - 1 - p < k
      · rw [if_pos h3, if_pos (by omega)]
      · rw [if_neg h3, if_neg (by omega)]

theorem RevAt.done {arr M : List (List Int)} {k j : Nat} (h : RevAt arr M k) (hkj : k + j + 1 = arr.length) (hge : ¬ k < j) : M = arr.reverse := by
  apply List.ext_getElem?
  intro p
  by_cases hp : p < arr.length
  · rw [h.get p hp, List.getElem?_reverse hp]
    split
    · rfl
    · congr 1; omega
  · rw [List.getElem?_eq_none (by rw [h.len]; omega), List.getElem?_eq_none (by simp; omega)]

set_option maxRecDepth 100000 in
set_option maxHeartbeats 4000000 in
theorem reverse_run {g cap : Nat} {arr : List (List Int)} (w : World) (h : ArrS w (some ⟨g, 0, none⟩) cap arr) (hl : ∀ x ∈ arr, x.length = 64) (hn : 1 ≤ arr.length ∧ arr.length ≤ 1000) :
    Calls Try.prog 103 #[.slice (some ⟨g, 0, none⟩) arr.length cap] w fun e w' => e = .returned (.tuple #[]) ∧ ArrS w' (some ⟨g, 0, none⟩) cap arr.reverse ∧ Upd (fun k => k = g) w w' := by
  have HH := Lib.hid h; have HL := Lib.hid hl
  obtain ⟨hn1, hn2⟩ := hn
  clear h hl
  go_enter Try.func103, Try.ntmps103
  go_wp2
  go_loopg [2, 3] arr.length (fun gk i j wr => ∃ (k jj : Nat) (M : List (List Int)), gk = arr.length - k ∧ k + jj + 1 = arr.length ∧ i = .int .i64 k ∧ j = .int .i64 jj ∧ RevAt arr M k ∧ ArrS wr (some ⟨g, 0, none⟩) cap M ∧ Upd (fun k => k = g) w wr)
  case atStart => exact ⟨0, arr.length - 1, arr, rfl, by omega, rfl, congrArg _ (by omega), RevAt.start arr, HH.out, Upd.refl _ _⟩
  case round =>
    clear HH
    obtain ⟨k, jj, M, rfl, hkj, rfl, rfl, hM, hA0, hu⟩ := hrel
    obtain ⟨wo, rfl⟩ : ∃ wo, wo = wr := ⟨_, rfl⟩
    have HM := Lib.hid hM; have HA := Lib.hid hA0; have HU := Lib.hid hu
    clear hM hA0 hu
    by_cases hlt : k < jj
    · have hlti : (k : Int) < (jj : Int) := by omega
      have hki : (k : Int) < arr.length := by omega
      have hji : (jj : Int) < arr.length := by omega
      have hml := HM.out.len
      obtain ⟨x, hx⟩ : ∃ x, M[k]? = some x := ⟨M[k]'(by omega), by simp [show k < M.length by omega]⟩
      obtain ⟨y, hy⟩ : ∃ y, M[jj]? = some y := ⟨M[jj]'(by omega), by simp [show jj < M.length by omega]⟩
      have hm64 := HM.out.mem HL.out
      have hxl := hm64 x (List.mem_of_getElem? hx)
      have hyl := hm64 y (List.mem_of_getElem? hy)
      have hgx : M.getD k [] = x := by rw [List.getD_eq_getElem?_getD, hx]; rfl
      have hgy : M.getD jj [] = y := by rw [List.getD_eq_getElem?_getD, hy]; rfl
      obtain ⟨g1, e1, hr1⟩ := HA.out.at hm64 (j := k) (by omega)
      obtain ⟨g2, e2, hr2⟩ := HA.out.at hm64 (j := jj) (by omega)
      simp only [Option.some.injEq, Addr.mk.injEq, and_true] at e1 e2
      subst e1; subst e2
      rw [hgx] at hr1; rw [hgy] at hr2
      have hA : wo.rangeAt g (k * 64) (bcells x) ∧ wo.rangeAt g (jj * 64) (bcells y) := ⟨hr1, hr2⟩
      have HIX : RowKit.Hid ((bcells x).length = 64) := Lib.hid (by rw [bcells_length, hxl])
      have HIY : RowKit.Hid ((bcells y).length = 64) := Lib.hid (by rw [bcells_length, hyl])
      have HST := Lib.hid (HM.out.step hkj hlt hx hy)
      have HS1 := Lib.hid (fun (W : World) (hu : Upd (fun _ => False) wo W) => (HA.out.kept hu).store hm64 (i := k) (by omega) hyl)
      have HS2 := Lib.hid (fun (W : World) (hW : ArrS W (some ⟨g, 0, none⟩) cap (M.set k y)) => hW.store (by
        intro b hb
        rcases List.mem_or_eq_of_mem_set hb with h1 | h1
        · exact hm64 b h1
        · rw [h1]; exact hyl) (i := jj) (by rw [List.length_set]; omega) hxl)
      have HT1 := Lib.hid (fun (W : World) (hu : Upd (fun _ => False) wo W) => (HA.out.kept hu).there (i := k) (by omega))
      have HT2 := Lib.hid (fun (W : World) (hW : ArrS W (some ⟨g, 0, none⟩) cap (M.set k y)) => hW.there (i := jj) (by rw [List.length_set]; omega))
      clear hx hy hm64 hxl hyl hgx hgy hr1 hr2 hml
      go_upto_region 3 with fail
      refine wp_region_G 12 (fun W => W.rangeAt g (k * 64) (bcells x) ∧ W.rangeAt g (jj * 64) (bcells y)) [false, false, false, false, false, false, false, false, false, false, false, false, false, false, false, false] rfl (by kernel_rfl) ?_
      refine wpG_takeT (i := 0) (v := .slice (some ⟨g, 0, none⟩) arr.length cap) rfl (fun L hc h => (hc.waits (n := 12) (i := 0) (by kernel_rfl) h)) (by kernel_rfl) (fun _ _ _ h => h) hA (.inl ⟨rfl, fun w5 q1 => ?_⟩) ?_
      · go_simp
      simp only [Act.put, List.setIfInBounds_toArray, List.set]
      refine wpG_takeT (i := 1) (v := .int .i64 k) rfl (fun L hc h => (hc.waits (n := 12) (i := 1) (by kernel_rfl) h)) (by kernel_rfl) (fun _ _ _ h => h) hA (.inl ⟨rfl, fun w5 q1 => ?_⟩) ?_
      · go_simp
      simp only [Act.put, List.setIfInBounds_toArray, List.set]
      refine wpG_takeP (i := 2) (v := .slice (some ⟨g, 0, none⟩) arr.length cap) rfl (by kernel_rfl) (fun _ _ _ h => h) (fun _ => hA) (.inl ⟨rfl, fun w5 q1 => ?_⟩) ?_
      · go_simp
      simp only [Act.put, List.setIfInBounds_toArray, List.set]
      refine wpG_takeP (i := 3) (v := .int .i64 jj) rfl (by kernel_rfl) (fun _ _ _ h => h) (fun _ => hA) (.inl ⟨rfl, fun w5 q1 => ?_⟩) ?_
      · go_simp
      simp only [Act.put, List.setIfInBounds_toArray, List.set]
      refine wpG_takeT (i := 4) (v := .slice (some ⟨g, 0, none⟩) arr.length cap) rfl (fun L hc h => (hc.waits (n := 12) (i := 4) (by kernel_rfl) h)) (by kernel_rfl) (fun _ _ _ h => h) hA (.inl ⟨rfl, fun w5 q1 => ?_⟩) ?_
      · go_simp
      simp only [Act.put, List.setIfInBounds_toArray, List.set]
      refine wpG_takeT (i := 5) (v := .int .i64 jj) rfl (fun L hc h => (hc.waits (n := 12) (i := 5) (by kernel_rfl) h)) (by kernel_rfl) (fun _ _ _ h => h) hA (.inl ⟨rfl, fun w5 q1 => ?_⟩) ?_
      · go_simp
      simp only [Act.put, List.setIfInBounds_toArray, List.set]
      refine wpG_takeT (i := 6) (v := .pointer (some ⟨g, jj * 64, none⟩)) rfl (fun L hc h => (hc.waits (n := 12) (i := 6) (by kernel_rfl) h)) (by kernel_rfl) (fun _ _ _ h => h) hA (.inl ⟨rfl, fun w5 q1 => ?_⟩) ?_
      · go_simp
      simp only [Act.put, List.setIfInBounds_toArray, List.set]
      refine wpG_takeT (i := 7) (v := .agg (bcells y).toArray) rfl (fun L hc h => (hc.waits (n := 12) (i := 7) (by kernel_rfl) h)) (by kernel_rfl) (fun _ _ _ h => h) hA (.inl ⟨rfl, fun w5 q1 => ?_⟩) ?_
      · exact run_load_mid' rfl rfl (bcells y) q1.2 Try.underlying56 rfl (by rw [Try.info56p, HIY.out])
      simp only [Act.put, List.setIfInBounds_toArray, List.set]
      refine wpG_takeT (i := 8) (v := .slice (some ⟨g, 0, none⟩) arr.length cap) rfl (fun L hc h => (hc.waits (n := 12) (i := 11) (by kernel_rfl) (hc.waits (n := 11) (i := 10) (by kernel_rfl) (hc.waits (n := 10) (i := 8) (by kernel_rfl) h)))) (by kernel_rfl) (fun _ _ _ h => h) hA (.inl ⟨rfl, fun w5 q1 => ?_⟩) ?_
      · go_simp
      simp only [Act.put, List.setIfInBounds_toArray, List.set]
      refine wpG_takeT (i := 9) (v := .int .i64 k) rfl (fun L hc h => (hc.waits (n := 12) (i := 11) (by kernel_rfl) (hc.waits (n := 11) (i := 10) (by kernel_rfl) (hc.waits (n := 10) (i := 9) (by kernel_rfl) h)))) (by kernel_rfl) (fun _ _ _ h => h) hA (.inl ⟨rfl, fun w5 q1 => ?_⟩) ?_
      · go_simp
      simp only [Act.put, List.setIfInBounds_toArray, List.set]
      refine wpG_takeT (i := 10) (v := .pointer (some ⟨g, k * 64, none⟩)) rfl (fun L hc h => (hc.waits (n := 12) (i := 11) (by kernel_rfl) (hc.waits (n := 11) (i := 10) (by kernel_rfl) h))) (by kernel_rfl) (fun _ _ _ h => h) hA (.inl ⟨rfl, fun w5 q1 => ?_⟩) ?_
      · go_simp
      simp only [Act.put, List.setIfInBounds_toArray, List.set]
      refine wpG_takeT (i := 11) (v := .agg (bcells x).toArray) rfl (fun L hc h => (hc.waits (n := 12) (i := 11) (by kernel_rfl) h)) (by kernel_rfl) (fun _ _ _ h => h) hA (.inl ⟨rfl, fun w5 q1 => ?_⟩) ?_
      · exact run_load_mid' rfl rfl (bcells x) q1.1 Try.underlying56 rfl (by rw [Try.info56p, HIX.out])
      simp only [Act.put, List.setIfInBounds_toArray, List.set]
      refine wpG_tail_lit (k := 12) rfl rfl (by kernel_rfl) ?_
      simp only [List.drop]
      clear hA
      have hud : Upd (fun _ => False) wo wo.drew := (Upd.refl _ wo).drew
      have hs1 := HS1.out wo.drew hud
      have ht1 := HT1.out wo.drew hud
      iterate 3 go_step
      refine wpList_store_mid rfl 56 (.tmp 26) (.tmp 21) rfl g (k * 64) (bcells y).toArray rfl rfl (by simpa [HIY.out] using ht1) (by rw [Try.info56p]; simp [HIY.out]) (all_oneCell_toArray (bcells_one y)) ?_
      refine (?_ : wpList _ _ _ _ _ (wo.drew.setCells g (k * 64) (bcells y)))
      have hu1 : Upd (fun k => k = g) w (wo.drew.setCells g (k * 64) (bcells y)) := (HU.out.trans (hud.mono (fun _ _ e => e.elim))).trans (upd_setCells _ _ _ _)
      generalize wo.drew.setCells g (k * 64) (bcells y) = wa at *
      have hs2 := HS2.out wa hs1
      have ht2 := HT2.out wa hs1
      have HS3 := Lib.hid hs2; have HU3 := Lib.hid (hu1.trans (upd_setCells wa g (jj * 64) (bcells x))); have HT3 := Lib.hid ht2
      clear hs1 ht1 hu1 hs2 ht2 hud
      iterate 3 go_step
      refine wpList_store_mid rfl 56 (.tmp 27) (.tmp 25) rfl g (jj * 64) (bcells x).toArray rfl rfl (by have := HT3.out; simpa [HIX.out] using this) (by rw [Try.info56p]; simp [HIX.out]) (all_oneCell_toArray (bcells_one x)) ?_
      refine (?_ : wpList _ _ _ _ _ (wa.setCells g (jj * 64) (bcells x)))
      generalize wa.setCells g (jj * 64) (bcells x) = wb at *
      go_wp2
      go_roundg (arr.length - (k + 1))
      case measure => omega
      case rel => exact ⟨k + 1, jj - 1, _, rfl, by omega, congrArg _ (by omega), congrArg _ (by omega), HST.out, HS3.out, HU3.out⟩
    · have hlti : ¬ (k : Int) < (jj : Int) := by omega
      have hdone := HM.out.done hkj hlt
      subst hdone
      go_wp2
      go_returns
      exact ⟨rfl, HA.out, HU.out⟩

theorem ArrS.his {w : World} {g c : Nat} {arr : List (List Int)} (h : ArrS w (some ⟨g, 0, none⟩) c arr) : HisAt w g 0 c arr := by
  obtain ⟨h1, h2⟩ := h
  rcases h2 with ⟨e, _⟩ | ⟨g', c', cur, e, _, hb, hn, hm, hs, ht⟩
  · cases e
  · simp only [Value.slice.injEq, Option.some.injEq, Addr.mk.injEq, and_true, true_and] at e
    obtain ⟨rfl, rfl⟩ := e
    exact ⟨cur, hb, hn, hm, by omega, h1, by rw [List.drop_zero]; exact ht⟩

set_option maxHeartbeats 1000000 in
theorem reversed_run {g off cap : Nat} {bs : List (List Int)} (w : World) (h : HisAt w g off cap bs) (hl : ∀ x ∈ bs, x.length = 64) (hn : 1 ≤ bs.length ∧ bs.length ≤ 1000) :
    Calls Try.prog 60 #[.slice (some ⟨g, off, none⟩) bs.length cap] w fun e w' => ∃ g' c, e = .returned (.slice (some ⟨g', 0, none⟩) bs.length c) ∧ HisAt w' g' 0 c bs.reverse ∧ Upd (fun _ => False) w w' := by
  have HC := Lib.hid (cloneB_run w h hl hn.2)
  have HL := Lib.hid hl; have HN := Lib.hid hn
  clear h hl hn
  go_enter Try.func60, Try.ntmps60
  go_wp2_with (go_at_call 102; fail)
  refine HC.out.mono ?_
  rintro e w1 ⟨g', c, rfl, hA, hg, hu1⟩
  have HR := Lib.hid (reverse_run w1 hA HL.out HN.out)
  have HU1 := Lib.hid hu1
  clear hA hu1 HC
  simp only []
  go_wp2_with (go_at_call 103; fail)
  refine HR.out.mono ?_
  rintro e w2 ⟨rfl, hA2, hu2⟩
  have HH := Lib.hid hA2.his; have HU2 := Lib.hid (HU1.out.step hu2 (fun k hk e => by omega))
  clear hA2 hu2 HR
  simp only []
  go_wp2
  go_ret
  exact ⟨g', c, rfl, HH.out, HU2.out⟩

end Go.Proofs.Ytbimkhdiplnbfaa
end

