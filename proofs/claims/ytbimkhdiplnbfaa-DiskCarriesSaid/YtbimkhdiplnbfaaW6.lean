/- Walks of the laws: DiskCarries. -/
import Derived.Test.YtbimkhdiplnbfaaW3
import Derived.Test.YtbimkhdiplnbfaaK7
import Derived.Test.YtbimkhdiplnbfaaN4
import Derived.Test.YtbimkhdiplnbfaaR3
namespace Go.Proofs.Ytbimkhdiplnbfaa
open Go.RowKit Go.Deep

theorem rem9_range (n : Int) : 0 ≤ (IntKind.u64.wrap n).tmod 9 ∧ (IntKind.u64.wrap n).tmod 9 < 9 := by
  have h1 : 0 ≤ IntKind.u64.wrap n := by
    simp [IntKind.wrap, IntKind.signed, IntKind.bits]
    omega
  rw [Int.tmod_eq_emod_of_nonneg h1]
  omega

theorem fresh56c (W : World) (bs : List Value) (hb : bs.length = 64) : (W.alloc (.cells (bcells zblk).toArray 56)).there W.heap.size 0 bs.toArray.size ∧ ((W.alloc (.cells (bcells zblk).toArray 56)).setCells W.heap.size 0 bs).heap[W.heap.size]? = some (.cells bs.toArray 56 (0, 0)) ∧
    Upd (fun _ => False) W ((W.alloc (.cells (bcells zblk).toArray 56)).setCells W.heap.size 0 bs) := by
  have hblk : (W.alloc (.cells (bcells zblk).toArray 56)).heap[W.heap.size]? = some (.cells (bcells zblk).toArray 56 (0, 0)) := alloc_at rfl
  have hzl : (bcells zblk).toArray.size = bs.toArray.size := by simp [bcells, zblk, hb]
  refine ⟨?_, heap_setCells_whole (vs := bs) hblk (by rw [hzl]; simp), ?_⟩
  · have := there_block hblk
    rwa [hzl] at this
  · have := Upd.setCells (F := fun j => W.heap.size ≤ j) (b := W.heap.size) (Nat.le_refl _) bs 0 ((Upd.refl _ W).alloc (.cells (bcells zblk).toArray 56))
    exact this.mono (fun j hj e => by omega)

theorem callD_len (D : Dk) (i : Int) (wr : Bool) : (D.callD i wr).arr.length = D.arr.length := by
  unfold Dk.callD
  split <;> (try rfl)
  split <;> (try rfl)
  split <;> (try rfl)
  split <;> rfl

theorem Left.later {a b c : World} {p : Nat} {D : Dk} {F : Nat → Prop} (h : Left a p D F b) (hu : Upd (fun _ => False) b c) : Left a p D F c := by
  obtain ⟨F', h1, h2, h3⟩ := h
  exact ⟨F', h1.kept hu (fun _ _ e => e), h2, h3.trans (hu.mono (fun _ _ e => e.elim))⟩

theorem Left.turn {a b : World} {p : Nat} {D : Dk} {F : Nat → Prop} (h : Left a p D F b) : ∃ F', Dsk b p D F' ∧ ∀ D' c, Left b p D' F' c → Left a p D' F c := by
  obtain ⟨F', h1, h2, h3⟩ := h
  refine ⟨F', h1, fun D' c ⟨G, g1, g2, g3⟩ => ⟨G, g1, fun k hk => ?_, ?_⟩⟩
  · rcases g2 k hk with e | e
    · exact h2 k e
    · exact .inr (Nat.le_trans h3.size e)
  · exact h3.step g3 (fun k hk e => (h2 k e).resolve_right (by omega))

theorem Dk.Ok.nums {D : Dk} {K : Nat} (h : D.Ok K) (a f : Int) (ha : -1 ≤ a ∧ a ≤ 9223372036854775807) (hf : -1 ≤ f ∧ f ≤ 9223372036854775807) : Dk.Ok { D with arm := a, fail := f } K :=
  ⟨h.len, h.blks, h.rblks, h.sorted, h.sent, h.ops, ha, hf, h.rowlen⟩

set_option maxRecDepth 100000 in
set_option maxHeartbeats 4000000 in
theorem carries_run (n k0 k1 : Int) (sa : Option Addr) (sc : Nat) (L : List CallR) (w : World) (hin : CallsIn w sa sc L) (hLc : ∀ x ∈ L, 0 ≤ x.c ∧ x.c ≤ 255) :
    Calls Try.prog 10 #[.int .i64 n, .slice sa L.length sc, .agg #[.int .i64 k0, .int .i64 k1]] w fun e w' => e = .returned (.bool true) ∧ Upd (fun _ => False) w w' := by
  obtain ⟨N, hN, hW⟩ := wide_any n
  have HW := Lib.hid hW; have HIN := Lib.hid hin; have HLC := Lib.hid hLc
  have hr0 := rem9_range k0
  have hr1 := rem9_range k1
  clear hW hin hLc
  obtain ⟨w0, hw0⟩ : ∃ w0, w0 = w.alloc (.cells #[.int .i64 k0, .int .i64 k1] 90) := ⟨_, rfl⟩
  have HB0 : RowKit.Hid (w0.heap[w.heap.size]? = some (.cells #[.int .i64 k0, .int .i64 k1] 90 (0, 0))) := Lib.hid (by rw [hw0]; exact alloc_at rfl)
  have HU0 : RowKit.Hid (Upd (fun _ => False) w w0) := Lib.hid (by rw [hw0]; exact (Upd.refl _ _).alloc _)
  have HW0 := Lib.hid hw0
  clear hw0
  go_enter Try.func10, Try.ntmps10
  go_wp2_with (go_at_call 31; fail)
  have hwk := wakes_run w0
  rw [HW0.out] at hwk
  refine hwk.mono ?_
  rintro e w1 ⟨rfl, hu1⟩
  rw [← show w0 = _ from HW0.out] at hu1
  have HU1 := Lib.hid hu1
  clear hwk hu1 HW0
  simp only []
  go_wp2_with (go_at_call 33; refine (HW.out _).mono ?_; rintro e w2 ⟨rfl, rfl⟩)
  refine (new_good N _ (by omega)).mono ?_
  rintro e w2 ⟨rfl, hN2⟩
  obtain ⟨F2, hD2, hF2, hu2⟩ := hN2.dsk (by omega)
  have HU2 := Lib.hid (HU1.out.trans hu2)
  have hb2 : w2.heap[w.heap.size]? = some (.cells #[.int .i64 k0, .int .i64 k1] 90 (0, 0)) := (HU2.out.block _ (lt_of_heap HB0.out) (fun e => e)).trans HB0.out
  have q0 : w2.cell? ⟨w.heap.size, 0, none⟩ = some (.int .i64 k0) := by rw [cell_of_heap hb2]; rfl
  have q1 : w2.cell? ⟨w.heap.size, 1, none⟩ = some (.int .i64 k1) := by rw [cell_of_heap hb2]; rfl
  have HD2 := Lib.hid hD2; have HF2 := Lib.hid hF2
  have hz1 := HU1.out.size
  obtain ⟨p, hp⟩ : ∃ p, p = w1.heap.size + 1 := ⟨_, rfl⟩
  rw [← hp] at HD2 ⊢
  clear hN2 hD2 hF2 hu2 hb2 hp HW
  simp only []
  go_upto_region 4 with fail
  go_quiet (fail)
  obtain ⟨w3, hw3⟩ : ∃ w3, w3 = w2.drewN nq := ⟨_, rfl⟩
  have hu3 : Upd (fun _ => False) w2 w3 := by rw [hw3]; exact upd_drewN w2 nq
  have HD3 := Lib.hid (HD2.out.kept hu3 (fun _ _ e => e)); have HU3 := Lib.hid (HU2.out.trans hu3)
  rw [← hw3]
  clear hw3 hu3 HD2 HU2 q0 q1
  generalize (IntKind.u64.wrap k0).tmod 9 = A at *
  generalize (IntKind.u64.wrap k1).tmod 9 = B at *
  go_wp2_with (go_at_call 55; fail)
  refine (doArm_any A w3 HD3.out).mono ?_
  rintro e w4 ⟨rfl, hD4, hu4⟩
  have ea : (Dk.new N).awake = 0 := rfl
  rw [ea]
  have HD4 := Lib.hid hD4
  have HU4 : RowKit.Hid (Upd (fun _ => False) w0 w4) := Lib.hid (HU3.out.step hu4 (fun k hk e => by have := HF2.out _ HD3.out.mem; omega))
  clear hD4 hu4 HD3 HU3
  simp only []
  go_wp2_with (go_at_call 56; fail)
  refine (doFail_any B w4 HD4.out).mono ?_
  rintro e w5 ⟨rfl, hD5, hu5⟩
  have ea2 : ((Dk.new N).doArm A).awake = 0 := rfl
  rw [ea2]
  have eD : ((Dk.new N).doArm A).doFail B = { Dk.new N with arm := A, fail := B } := by
    simp only [Dk.doArm, Dk.doFail, Dk.new, Bool.false_eq_true, if_false]
    rw [show max A (-1) = A by omega, show max B (-1) = B by omega]
  rw [eD] at hD5
  have HD5 := Lib.hid hD5
  have HU5 : RowKit.Hid (Upd (fun _ => False) w0 w5) := Lib.hid (HU4.out.step hu5 (fun k hk e => by have := HF2.out _ HD4.out.mem; omega))
  clear hD5 hu5 HD4 HU4 ea ea2 eD
  simp only []
  go_wp2_with (go_at_call 54; fail)
  refine (calm_run w5 (HIN.out.kept (HU0.out.trans HU5.out))).mono ?_
  rintro e w6 ⟨v, C, rfl, hcal, hC60, hCall, hu6⟩
  obtain ⟨va, vc, rfl, hrow⟩ : ∃ va vc, v = .slice va C.length vc ∧ (C ≠ [] → ∃ g, va = some ⟨g, 0, none⟩ ∧ RowC w6 g vc C ∧ w5.heap.size ≤ g) := by
    rcases hcal with ⟨h1, h2⟩ | ⟨g, cap, h1, h2, h3⟩
    · subst h2; exact ⟨none, 0, h1, fun e => absurd rfl e⟩
    · exact ⟨_, cap, h1, fun _ => ⟨g, rfl, h2, h3⟩⟩
  have HD6 := Lib.hid (HD5.out.kept hu6 (fun _ _ e => e))
  have HU6 := Lib.hid (HU5.out.trans hu6)
  have HLT : RowKit.Hid (∀ k, F2 k → k < w5.heap.size) := Lib.hid HD5.out.lt
  have HROW := Lib.hid hrow; have HCA := Lib.hid hCall
  clear hcal hrow hCall hu6 HD5 HU5 HIN
  simp only []
  go_wp2
  go_loopg [11, 12, 13, 55] C.length (fun gk c1 c2 c3 i wr => ∃ (j : Nat) (cn wn : Int) (fb : Bool) (D : Dk), j ≤ C.length ∧ gk = C.length - j ∧ c1 = .int .i64 cn ∧ c2 = .int .i64 wn ∧ c3 = .bool fb ∧ i = .int .i64 j ∧ (0 ≤ cn ∧ cn ≤ j) ∧ (0 ≤ wn ∧ wn ≤ j) ∧ Carry D A B cn wn fb ∧ D.Ok (2 * j) ∧ D.arr.length = N ∧ Left w6 p D F2 wr)
  case atStart =>
    refine ⟨0, 0, 0, false, { Dk.new N with arm := A, fail := B }, Nat.zero_le _, rfl, rfl, rfl, rfl, rfl, by omega, by omega, ⟨fun _ => ⟨by show A = A - 0; omega, hr0.1⟩, fun _ _ => ⟨by show B = B - 0; omega, hr1.1⟩, fun _ e => by cases e⟩, ?_, by simp [Dk.new], Left.same HD6.out⟩
    exact (Dk.new_ok (by omega) _).nums A B (by omega) (by omega)
  case round =>
    clear HD6
    obtain ⟨j, cn, wn, fb, D, hj, rfl, rfl, rfl, rfl, rfl, hcn, hwn, hca, hok, hlen, hleft⟩ := hrel
    have HCY := Lib.hid hca; have HOK := Lib.hid hok; have HLEN := Lib.hid hlen; have HL := Lib.hid hleft
    clear hca hok hlen hleft
    obtain ⟨wo, rfl⟩ : ∃ wo, wo = wr := ⟨_, rfl⟩
    by_cases hjn : j < C.length
    · have hjn2 : (j : Int) < C.length := by omega
      obtain ⟨g, rfl, hrow6, hg5⟩ := HROW.out (by intro e; rw [e] at hjn; simp at hjn)
      obtain ⟨x, hx⟩ : ∃ x, C[j]? = some x := ⟨C[j], by simp [hjn]⟩
      have hr := hrow6.kept HL.out.upd (fun e => by have := HLT.out g e; omega)
      have y0 : wo.cell? ⟨g, j * 5, none⟩ = some (.int .i64 x.k) := hr.cell (t := 0) hx (by omega)
      have y1 : wo.cell? ⟨g, j * 5 + 1, none⟩ = some (.int .i64 x.i) := hr.cell (t := 1) hx (by omega)
      have y2 : wo.cell? ⟨g, j * 5 + 2, none⟩ = some (.int .i64 x.n) := hr.cell (t := 2) hx (by omega)
      have y3 : wo.cell? ⟨g, j * 5 + 3, none⟩ = some (.int .u8 x.c) := hr.cell (t := 3) hx (by omega)
      have y4 : wo.cell? ⟨g, j * 5 + 4, none⟩ = some (.slice x.ka x.kn x.kc) := hr.cell (t := 4) hx (by omega)
      have hxm := List.mem_of_getElem? hx
      have h6 := (HCA.out x hxm).1
      have HXC := Lib.hid (HLC.out x (HCA.out x hxm).2)
      clear hr hx hrow6 hg5 hxm HROW
      go_upto_region 11 with fail
      obtain ⟨wv, hwv⟩ : ∃ wv, wv = wo.alloc (.cells #[.int .i64 x.k, .int .i64 x.i, .int .i64 x.n, .int .u8 x.c, .slice x.ka x.kn x.kc] 51) := ⟨_, rfl⟩
      have hA : wv.drew.heap[wo.heap.size]? = some (callBox x.k x.i x.n x.c x.ka x.kn x.kc) := by rw [hwv]; exact alloc_at rfl
      have HLV := Lib.hid (HL.out.later (c := wv) (by rw [hwv]; exact (Upd.refl _ wo).alloc _))
      have HUV : RowKit.Hid (Upd (fun _ => False) wo wv.drew) := Lib.hid (by rw [hwv]; exact ((Upd.refl _ wo).alloc _).drew)
      obtain ⟨F3, hD3, hturn⟩ := HL.out.turn
      have HF3 := Lib.hid hD3.lt; have HD3 := Lib.hid hD3; have HTN := Lib.hid hturn
      rw [← hwv]
      clear hD3 hturn hwv HL y0 y1 y2 y3 y4
      by_cases hk6 : kindOf x.k = 6
      · have hk6n : ¬ kindOf x.k < 6 := by omega
        have hnoff : ¬ D.off x.tgt := by unfold Dk.off CallR.tgt; rw [if_pos hk6, HLEN.out]; omega
        refine wp_region_G 12 (fun W => W.heap[wo.heap.size]? = some (callBox x.k x.i x.n x.c x.ka x.kn x.kc)) [false, false, false, false, false, false, false, false, false, false, false, false, false, false, false] rfl (by kernel_rfl) ?_
        refine wpG_takeT (i := 0) (v := .agg [.int .i64 x.k, .int .i64 x.i, .int .i64 x.n, .int .u8 x.c, .slice x.ka x.kn x.kc].toArray) rfl (fun L hc h => hc.waits (n := 12) (i := 9) (by kernel_rfl) (hc.waits (n := 9) (i := 8) (by kernel_rfl) (hc.waits (n := 8) (i := 7) (by kernel_rfl) (hc.waits (n := 7) (i := 6) (by kernel_rfl) (hc.waits (n := 6) (i := 5) (by kernel_rfl) (hc.waits (n := 5) (i := 4) (by kernel_rfl) (hc.waits (n := 4) (i := 3) (by kernel_rfl) (hc.waits (n := 3) (i := 2) (by kernel_rfl) (hc.waits (n := 2) (i := 1) (by kernel_rfl) (hc.waits (n := 1) (i := 0) (by kernel_rfl) (h))))))))))) (by kernel_rfl) (fun _ _ _ h => h) hA (.inl ⟨rfl, fun w5 q1 => ?_⟩) ?_
        · exact run_load_mid' rfl rfl [.int .i64 x.k, .int .i64 x.i, .int .i64 x.n, .int .u8 x.c, .slice x.ka x.kn x.kc] (rangeAt_block (cs := [.int .i64 x.k, .int .i64 x.i, .int .i64 x.n, .int .u8 x.c, .slice x.ka x.kn x.kc]) q1) Try.underlying51 rfl Try.size51
        simp only [Act.put, List.setIfInBounds_toArray, List.set]
        refine wpG_do (i := 1) rfl (by kernel_rfl) rfl (fun K hK => ?_)
        have HK := Lib.hid hK
        clear hK
        go_step
        refine (kind_run x.k x.i x.n x.c x.ka x.kn x.kc wv.drew).mono ?_
        rintro e wk ⟨rfl, huk⟩
        have hA := (huk.block _ (lt_of_heap hA) (fun e => e)).trans hA
        have HLK := Lib.hid (HLV.out.later (((Upd.refl _ wv).drew).trans huk))
        have HUK := Lib.hid (HUV.out.trans huk)
        clear huk HLV HUV
        simp only []
        refine HK.out _ _ hA ?_
        clear HK
        simp only [Act.put, List.setIfInBounds_toArray, List.set]
        refine wpG_takeT (i := 2) (v := .bool false) rfl (fun L hc h => hc.waits (n := 12) (i := 9) (by kernel_rfl) (hc.waits (n := 9) (i := 8) (by kernel_rfl) (hc.waits (n := 8) (i := 7) (by kernel_rfl) (hc.waits (n := 7) (i := 6) (by kernel_rfl) (hc.waits (n := 6) (i := 5) (by kernel_rfl) (hc.waits (n := 5) (i := 4) (by kernel_rfl) (hc.waits (n := 4) (i := 3) (by kernel_rfl) (hc.waits (n := 3) (i := 2) (by kernel_rfl) (h))))))))) (by kernel_rfl) (fun _ _ _ h => h) hA (.inl ⟨rfl, fun w5 q1 => ?_⟩) ?_
        · go_simp
        simp only [Act.put, List.setIfInBounds_toArray, List.set]
        refine wpG_takeT (i := 3) (v := .bool false) rfl (fun L hc h => hc.waits (n := 12) (i := 9) (by kernel_rfl) (hc.waits (n := 9) (i := 8) (by kernel_rfl) (hc.waits (n := 8) (i := 7) (by kernel_rfl) (hc.waits (n := 7) (i := 6) (by kernel_rfl) (hc.waits (n := 6) (i := 5) (by kernel_rfl) (hc.waits (n := 5) (i := 4) (by kernel_rfl) (hc.waits (n := 4) (i := 3) (by kernel_rfl) (h)))))))) (by kernel_rfl) (fun _ _ _ h => h) hA (.inl ⟨rfl, fun w5 q1 => ?_⟩) ?_
        · go_simp
        simp only [Act.put, List.setIfInBounds_toArray, List.set]
        refine wpG_takeT (i := 4) (v := undef) rfl (fun L hc h => hc.waits (n := 12) (i := 9) (by kernel_rfl) (hc.waits (n := 9) (i := 8) (by kernel_rfl) (hc.waits (n := 8) (i := 7) (by kernel_rfl) (hc.waits (n := 7) (i := 6) (by kernel_rfl) (hc.waits (n := 6) (i := 5) (by kernel_rfl) (hc.waits (n := 5) (i := 4) (by kernel_rfl) (h))))))) (by kernel_rfl) (fun _ _ _ h => h) hA (.inr ⟨rfl, rfl⟩) ?_
        simp only [Act.put, List.setIfInBounds_toArray, List.set]
        refine wpG_takeT (i := 5) (v := undef) rfl (fun L hc h => hc.waits (n := 12) (i := 9) (by kernel_rfl) (hc.waits (n := 9) (i := 8) (by kernel_rfl) (hc.waits (n := 8) (i := 7) (by kernel_rfl) (hc.waits (n := 7) (i := 6) (by kernel_rfl) (hc.waits (n := 6) (i := 5) (by kernel_rfl) (h)))))) (by kernel_rfl) (fun _ _ _ h => h) hA (.inr ⟨rfl, rfl⟩) ?_
        simp only [Act.put, List.setIfInBounds_toArray, List.set]
        refine wpG_takeT (i := 6) (v := undef) rfl (fun L hc h => hc.waits (n := 12) (i := 9) (by kernel_rfl) (hc.waits (n := 9) (i := 8) (by kernel_rfl) (hc.waits (n := 8) (i := 7) (by kernel_rfl) (hc.waits (n := 7) (i := 6) (by kernel_rfl) (h))))) (by kernel_rfl) (fun _ _ _ h => h) hA (.inr ⟨rfl, rfl⟩) ?_
        simp only [Act.put, List.setIfInBounds_toArray, List.set]
        refine wpG_takeT (i := 7) (v := undef) rfl (fun L hc h => hc.waits (n := 12) (i := 9) (by kernel_rfl) (hc.waits (n := 9) (i := 8) (by kernel_rfl) (hc.waits (n := 8) (i := 7) (by kernel_rfl) (h)))) (by kernel_rfl) (fun _ _ _ h => h) hA (.inr ⟨rfl, rfl⟩) ?_
        simp only [Act.put, List.setIfInBounds_toArray, List.set]
        refine wpG_takeT (i := 8) (v := undef) rfl (fun L hc h => hc.waits (n := 12) (i := 9) (by kernel_rfl) (hc.waits (n := 9) (i := 8) (by kernel_rfl) (h))) (by kernel_rfl) (fun _ _ _ h => h) hA (.inr ⟨rfl, rfl⟩) ?_
        simp only [Act.put, List.setIfInBounds_toArray, List.set]
        refine wpG_takeT (i := 9) (v := undef) rfl (fun L hc h => hc.waits (n := 12) (i := 9) (by kernel_rfl) (h)) (by kernel_rfl) (fun _ _ _ h => h) hA (.inr ⟨rfl, rfl⟩) ?_
        simp only [Act.put, List.setIfInBounds_toArray, List.set]
        refine wpG_takeT (i := 10) (v := undef) rfl (fun L hc h => hc.waits (n := 12) (i := 11) (by kernel_rfl) (hc.waits (n := 11) (i := 10) (by kernel_rfl) (h))) (by kernel_rfl) (fun _ _ _ h => h) hA (.inr ⟨rfl, rfl⟩) ?_
        simp only [Act.put, List.setIfInBounds_toArray, List.set]
        refine wpG_takeT (i := 11) (v := undef) rfl (fun L hc h => hc.waits (n := 12) (i := 11) (by kernel_rfl) (h)) (by kernel_rfl) (fun _ _ _ h => h) hA (.inr ⟨rfl, rfl⟩) ?_
        simp only [Act.put, List.setIfInBounds_toArray, List.set]
        refine wpG_tail_lit (k := 12) rfl rfl (by kernel_rfl) ?_
        simp only [List.drop]
        have hDK := HD3.out.kept HUK.out (fun _ _ e => e)
        obtain ⟨z0, z1, z2, z3, z4⟩ := box_cells hA
        go_wp2_with (first | (go_at_call 51; refine (dead_any wk hDK).mono ?_; rintro e wz ⟨rfl, rfl⟩) | (go_at_call 36; refine (ops_any wk hDK).mono ?_; rintro e wz ⟨rfl, rfl⟩) | (go_at_call 44; fail))
        refine (on_calm x HXC.out h6 wk hDK HOK.out (by omega)).mono ?_
        rintro e w9 ⟨Bk, D', rfl, hBl, hnums, hok9, hl9⟩
        have hA9 := (hl9.upd.block _ (lt_of_heap hA) (fun e => by have := HF3.out _ e; omega)).trans hA
        have hL9 := HTN.out D' w9 (hl9.of_upd (HUK.out.mono (fun _ _ e => e.elim)) HUK.out.size)
        have HNU := Lib.hid hnums; have HOK9 := Lib.hid hok9
        have H1B := Lib.hid (all_oneCell_toArray (bcells_one Bk))
        have hle : (bcells Bk).length = 64 := by simp [bcells, hBl]
        have hi : (Try.prog.info? 56).map (·.size) = some (bcells Bk).length := by rw [Try.info56p, hle]
        have HI := Lib.hid hi; have HLE := Lib.hid hle
        clear hle hi hBl z0 z1 z2 z3 z4 hl9 hnums hok9 hDK hA HLK HUK HTN HD3 HF3
        generalize bcells Bk = bs at *
        simp only []
        iterate 13 go_step
        obtain ⟨f1, f2, f3⟩ := fresh56c w9 bs HLE.out
        refine wpList_store_mid rfl 56 (.tmp 18) (.tmp 82) rfl w9.heap.size 0 bs.toArray rfl rfl f1 (by rw [HI.out]; simp) H1B.out ?_
        refine (?_ : wpList _ _ _ _ _ ((w9.alloc (.cells (bcells zblk).toArray 56)).setCells w9.heap.size 0 bs))
        have hA10 := (f3.block _ (lt_of_heap hA9) (fun e => e)).trans hA9
        have hL10 := hL9.later f3
        clear f1 f2 hA9 hL9 HI HLE H1B f3
        generalize (w9.alloc (.cells (bcells zblk).toArray 56)).setCells w9.heap.size 0 bs = w10 at *
        obtain ⟨F9, hD9, _⟩ := hL10.turn
        have HD9 := Lib.hid hD9; have HL10 := Lib.hid hL10
        obtain ⟨z0, z1, z2, z3, z4⟩ := box_cells hA10
        have HA10 := Lib.hid hA10
        clear hD9 hL10 hA10
        obtain ⟨n1, n2, n3, n4, n5⟩ := HNU.out
        have hlen9 : D'.arr.length = N := by rw [n5, callD_len]; exact HLEN.out
        have HNO := Lib.hid n1; have HND := Lib.hid n4; have HL9 := Lib.hid hlen9
        clear n1 n2 n3 n4 n5 hlen9
        by_cases hdd : D.dead = true
        · obtain ⟨c1, c2⟩ := carry_dead hdd x.tgt x.wr
          have hops : D'.ops = D.ops := by rw [HNO.out, c2]
          have hCY : Carry D' A B cn wn fb := by
            have hd' : D'.dead = true := by rw [HND.out, c2]; exact hdd
            exact ⟨fun e => (by rw [hd'] at e; cases e), fun e => (by rw [hd'] at e; cases e), fun e => (by rw [hd'] at e; cases e)⟩
          have HC9 := Lib.hid hCY
          rw [c1, hdd]
          clear c1 c2 hCY HNO HND HNU
          go_wp2_with (go_at_call 36; refine (ops_any w10 HD9.out).mono ?_; rintro e wz ⟨rfl, rfl⟩)
          go_roundg (C.length - (j + 1))
          case measure => omega
          case rel => exact ⟨j + 1, cn, wn, fb, D', by omega, rfl, rfl, rfl, rfl, congrArg _ (by omega), by omega, by omega, HC9.out, HOK9.out.mono (by omega), HL9.out, HL10.out⟩
        have hdf : D.dead = false := by simpa using hdd
        by_cases hdie : x.wr = true ∧ wn = A
        · obtain ⟨c1, c2, c3⟩ := carry_dies HCY.out hdf hnoff hdie.1 hdie.2
          have hops : D'.ops = D.ops := by rw [HNO.out, c3]
          have hdd9 : D'.dead = true := by rw [HND.out, c2]
          have hwa : wn = A := hdie.2
          have hκ : ¬ kindOf x.k = 5 := by have := hdie.1; unfold CallR.wr at this; simpa using this
          have hCY : Carry D' A B cn wn fb := ⟨fun e => (by rw [hdd9] at e; cases e), fun e => (by rw [hdd9] at e; cases e), fun e => (by rw [hdd9] at e; cases e)⟩
          have HC9 := Lib.hid hCY
          rw [c1, hdf]
          clear c1 c2 c3 hCY HNO HND HNU hdie
          go_wp2_with (first | (go_at_call 57; refine (kind_run x.k x.i x.n x.c x.ka x.kn x.kc _).mono ?_; rintro e wq ⟨rfl, huq⟩; replace HL10 := Lib.hid (HL10.out.later huq); replace HD9 := Lib.hid (HD9.out.kept huq (fun _ _ e => e)); replace HA10 := Lib.hid ((huq.block _ (lt_of_heap HA10.out) (fun e => e)).trans HA10.out); clear z0 z1 z2 z3 z4; obtain ⟨z0, z1, z2, z3, z4⟩ := box_cells HA10.out; clear huq) | (go_at_call 51; refine (dead_any _ HD9.out).mono ?_; rintro e wz ⟨rfl, rfl⟩) | (go_at_call 36; refine (ops_any _ HD9.out).mono ?_; rintro e wz ⟨rfl, rfl⟩))
          any_goals (first | (exfalso; omega) | exact absurd (eq_of_beq (And.right (a := (kindOf x.k != 5) = true) (by assumption))) hwa | skip)
          go_roundg (C.length - (j + 1))
          case measure => omega
          case rel => exact ⟨j + 1, cn, wn, fb, D', by omega, rfl, rfl, congrArg _ hwa.symm, rfl, congrArg _ (by omega), by omega, by omega, HC9.out, HOK9.out.mono (by omega), HL9.out, HL10.out⟩
        by_cases hfl : fb = false ∧ cn = B
        · obtain ⟨c1, c2, c3⟩ := carry_fails HCY.out hdf hnoff hdie hfl.1 hfl.2
          have hops : D'.ops = D.ops := by rw [HNO.out, c2]
          have HC9 := Lib.hid (c3.same HNU.out)
          obtain ⟨rfl, hcb⟩ := hfl
          rw [c1, hdf]
          clear c1 c2 c3 HNO HND HNU
          by_cases hκ : kindOf x.k = 5
          · exfalso; omega
          · have hwa : ¬ wn = A := fun e => hdie ⟨by unfold CallR.wr; simp [hκ], e⟩
            go_wp2_with (first | (go_at_call 57; refine (kind_run x.k x.i x.n x.c x.ka x.kn x.kc _).mono ?_; rintro e wq ⟨rfl, huq⟩; replace HL10 := Lib.hid (HL10.out.later huq); replace HD9 := Lib.hid (HD9.out.kept huq (fun _ _ e => e)); replace HA10 := Lib.hid ((huq.block _ (lt_of_heap HA10.out) (fun e => e)).trans HA10.out); clear z0 z1 z2 z3 z4; obtain ⟨z0, z1, z2, z3, z4⟩ := box_cells HA10.out; clear huq) | (go_at_call 51; refine (dead_any _ HD9.out).mono ?_; rintro e wz ⟨rfl, rfl⟩) | (go_at_call 36; refine (ops_any _ HD9.out).mono ?_; rintro e wz ⟨rfl, rfl⟩))
            any_goals (first | (exfalso; omega) | exact absurd (eq_of_beq (And.right (a := (kindOf x.k != 5) = true) (by assumption))) hwa | skip)
            go_roundg (C.length - (j + 1))
            case measure => omega
            case rel => exact ⟨j + 1, cn, wn, true, D', by omega, rfl, congrArg _ hcb.symm, rfl, rfl, congrArg _ (by omega), by omega, by omega, HC9.out, HOK9.out.mono (by omega), HL9.out, HL10.out⟩
        obtain ⟨c1, c2, c2d, c3⟩ := carry_goes HCY.out hdf hnoff hdie hfl
        have hops : D'.ops = D.ops + 1 := by rw [HNO.out, c2]
        have HC9 := Lib.hid (c3.same HNU.out)
        have hob1 := HOK.out.ops.1
        have hob2 : D.ops ≤ 1000 := by have := HOK.out.ops.2; omega
        rw [c1, hdf]
        clear c1 c2 c2d c3 HNO HND HNU
        by_cases hκ : kindOf x.k = 5
        · exfalso; omega
        · have hwr : x.wr = true := by unfold CallR.wr; simp [hκ]
          have hwa : ¬ wn = A := fun e => hdie ⟨hwr, e⟩
          rw [hwr] at HC9
          cases hfb : fb
          · have hcb : ¬ cn = B := fun e => hfl ⟨hfb, e⟩
            rw [hfb] at HC9
            go_wp2_with (first | (go_at_call 57; refine (kind_run x.k x.i x.n x.c x.ka x.kn x.kc _).mono ?_; rintro e wq ⟨rfl, huq⟩; replace HL10 := Lib.hid (HL10.out.later huq); replace HD9 := Lib.hid (HD9.out.kept huq (fun _ _ e => e)); replace HA10 := Lib.hid ((huq.block _ (lt_of_heap HA10.out) (fun e => e)).trans HA10.out); clear z0 z1 z2 z3 z4; obtain ⟨z0, z1, z2, z3, z4⟩ := box_cells HA10.out; clear huq) | (go_at_call 51; refine (dead_any _ HD9.out).mono ?_; rintro e wz ⟨rfl, rfl⟩) | (go_at_call 36; refine (ops_any _ HD9.out).mono ?_; rintro e wz ⟨rfl, rfl⟩))
            any_goals (first | (exfalso; omega) | exact absurd (eq_of_beq (And.right (a := (kindOf x.k != 5) = true) (by assumption))) hwa | skip)
            go_roundg (C.length - (j + 1))
            case measure => omega
            case rel => exact ⟨j + 1, cn + 1, wn + 1, _, D', by omega, rfl, congrArg _ (by omega), congrArg _ (by omega), rfl, congrArg _ (by omega), by omega, by omega, by have := HC9.out; simpa using this, HOK9.out.mono (by omega), HL9.out, HL10.out⟩
          · rw [hfb] at HC9
            go_wp2_with (first | (go_at_call 57; refine (kind_run x.k x.i x.n x.c x.ka x.kn x.kc _).mono ?_; rintro e wq ⟨rfl, huq⟩; replace HL10 := Lib.hid (HL10.out.later huq); replace HD9 := Lib.hid (HD9.out.kept huq (fun _ _ e => e)); replace HA10 := Lib.hid ((huq.block _ (lt_of_heap HA10.out) (fun e => e)).trans HA10.out); clear z0 z1 z2 z3 z4; obtain ⟨z0, z1, z2, z3, z4⟩ := box_cells HA10.out; clear huq) | (go_at_call 51; refine (dead_any _ HD9.out).mono ?_; rintro e wz ⟨rfl, rfl⟩) | (go_at_call 36; refine (ops_any _ HD9.out).mono ?_; rintro e wz ⟨rfl, rfl⟩))
            any_goals (first | (exfalso; omega) | exact absurd (eq_of_beq (And.right (a := (kindOf x.k != 5) = true) (by assumption))) hwa | skip)
            go_roundg (C.length - (j + 1))
            case measure => omega
            case rel => exact ⟨j + 1, cn + 1, wn + 1, _, D', by omega, rfl, congrArg _ (by omega), congrArg _ (by omega), rfl, congrArg _ (by omega), by omega, by omega, by have := HC9.out; simpa using this, HOK9.out.mono (by omega), HL9.out, HL10.out⟩
      · have hk6l : kindOf x.k < 6 := by omega
        by_cases hneg : x.i < 0
        · skip
          refine wp_region_G 12 (fun W => W.heap[wo.heap.size]? = some (callBox x.k x.i x.n x.c x.ka x.kn x.kc)) [false, false, false, false, false, false, false, false, false, false, false, false, false, false, false] rfl (by kernel_rfl) ?_
          refine wpG_takeT (i := 0) (v := .agg [.int .i64 x.k, .int .i64 x.i, .int .i64 x.n, .int .u8 x.c, .slice x.ka x.kn x.kc].toArray) rfl (fun L hc h => hc.waits (n := 12) (i := 9) (by kernel_rfl) (hc.waits (n := 9) (i := 8) (by kernel_rfl) (hc.waits (n := 8) (i := 7) (by kernel_rfl) (hc.waits (n := 7) (i := 6) (by kernel_rfl) (hc.waits (n := 6) (i := 5) (by kernel_rfl) (hc.waits (n := 5) (i := 4) (by kernel_rfl) (hc.waits (n := 4) (i := 3) (by kernel_rfl) (hc.waits (n := 3) (i := 2) (by kernel_rfl) (hc.waits (n := 2) (i := 1) (by kernel_rfl) (hc.waits (n := 1) (i := 0) (by kernel_rfl) (h))))))))))) (by kernel_rfl) (fun _ _ _ h => h) hA (.inl ⟨rfl, fun w5 q1 => ?_⟩) ?_
          · exact run_load_mid' rfl rfl [.int .i64 x.k, .int .i64 x.i, .int .i64 x.n, .int .u8 x.c, .slice x.ka x.kn x.kc] (rangeAt_block (cs := [.int .i64 x.k, .int .i64 x.i, .int .i64 x.n, .int .u8 x.c, .slice x.ka x.kn x.kc]) q1) Try.underlying51 rfl Try.size51
          simp only [Act.put, List.setIfInBounds_toArray, List.set]
          refine wpG_do (i := 1) rfl (by kernel_rfl) rfl (fun K hK => ?_)
          have HK := Lib.hid hK
          clear hK
          go_step
          refine (kind_run x.k x.i x.n x.c x.ka x.kn x.kc wv.drew).mono ?_
          rintro e wk ⟨rfl, huk⟩
          have hA := (huk.block _ (lt_of_heap hA) (fun e => e)).trans hA
          have HLK := Lib.hid (HLV.out.later (((Upd.refl _ wv).drew).trans huk))
          have HUK := Lib.hid (HUV.out.trans huk)
          clear huk HLV HUV
          simp only []
          refine HK.out _ _ hA ?_
          clear HK
          simp only [Act.put, List.setIfInBounds_toArray, List.set]
          refine wpG_takeT (i := 2) (v := .bool true) rfl (fun L hc h => hc.waits (n := 12) (i := 9) (by kernel_rfl) (hc.waits (n := 9) (i := 8) (by kernel_rfl) (hc.waits (n := 8) (i := 7) (by kernel_rfl) (hc.waits (n := 7) (i := 6) (by kernel_rfl) (hc.waits (n := 6) (i := 5) (by kernel_rfl) (hc.waits (n := 5) (i := 4) (by kernel_rfl) (hc.waits (n := 4) (i := 3) (by kernel_rfl) (hc.waits (n := 3) (i := 2) (by kernel_rfl) (h))))))))) (by kernel_rfl) (fun _ _ _ h => h) hA (.inl ⟨rfl, fun w5 q1 => ?_⟩) ?_
          · go_simp
          simp only [Act.put, List.setIfInBounds_toArray, List.set]
          refine wpG_takeT (i := 3) (v := .bool true) rfl (fun L hc h => hc.waits (n := 12) (i := 9) (by kernel_rfl) (hc.waits (n := 9) (i := 8) (by kernel_rfl) (hc.waits (n := 8) (i := 7) (by kernel_rfl) (hc.waits (n := 7) (i := 6) (by kernel_rfl) (hc.waits (n := 6) (i := 5) (by kernel_rfl) (hc.waits (n := 5) (i := 4) (by kernel_rfl) (hc.waits (n := 4) (i := 3) (by kernel_rfl) (h)))))))) (by kernel_rfl) (fun _ _ _ h => h) hA (.inl ⟨rfl, fun w5 q1 => ?_⟩) ?_
          · go_simp
          simp only [Act.put, List.setIfInBounds_toArray, List.set]
          refine wpG_takeT (i := 4) (v := .pointer (some ⟨wo.heap.size, 1, none⟩)) rfl (fun L hc h => hc.waits (n := 12) (i := 9) (by kernel_rfl) (hc.waits (n := 9) (i := 8) (by kernel_rfl) (hc.waits (n := 8) (i := 7) (by kernel_rfl) (hc.waits (n := 7) (i := 6) (by kernel_rfl) (hc.waits (n := 6) (i := 5) (by kernel_rfl) (hc.waits (n := 5) (i := 4) (by kernel_rfl) (h))))))) (by kernel_rfl) (fun _ _ _ h => h) hA (.inl ⟨rfl, fun w5 q1 => ?_⟩) ?_
          · go_simp
          simp only [Act.put, List.setIfInBounds_toArray, List.set]
          refine wpG_takeT (i := 5) (v := .int .i64 x.i) rfl (fun L hc h => hc.waits (n := 12) (i := 9) (by kernel_rfl) (hc.waits (n := 9) (i := 8) (by kernel_rfl) (hc.waits (n := 8) (i := 7) (by kernel_rfl) (hc.waits (n := 7) (i := 6) (by kernel_rfl) (hc.waits (n := 6) (i := 5) (by kernel_rfl) (h)))))) (by kernel_rfl) (fun _ _ _ h => h) hA (.inl ⟨rfl, fun w5 q1 => ?_⟩) ?_
          · have q2 := (box_cells q1).2.1
            go_simp
          simp only [Act.put, List.setIfInBounds_toArray, List.set]
          refine wpG_takeT (i := 6) (v := .bool true) rfl (fun L hc h => hc.waits (n := 12) (i := 9) (by kernel_rfl) (hc.waits (n := 9) (i := 8) (by kernel_rfl) (hc.waits (n := 8) (i := 7) (by kernel_rfl) (hc.waits (n := 7) (i := 6) (by kernel_rfl) (h))))) (by kernel_rfl) (fun _ _ _ h => h) hA (.inl ⟨rfl, fun w5 q1 => ?_⟩) ?_
          · go_simp
          simp only [Act.put, List.setIfInBounds_toArray, List.set]
          refine wpG_takeT (i := 7) (v := .bool true) rfl (fun L hc h => hc.waits (n := 12) (i := 9) (by kernel_rfl) (hc.waits (n := 9) (i := 8) (by kernel_rfl) (hc.waits (n := 8) (i := 7) (by kernel_rfl) (h)))) (by kernel_rfl) (fun _ _ _ h => h) hA (.inl ⟨rfl, fun w5 q1 => ?_⟩) ?_
          · go_simp
          simp only [Act.put, List.setIfInBounds_toArray, List.set]
          refine wpG_takeT (i := 8) (v := undef) rfl (fun L hc h => hc.waits (n := 12) (i := 9) (by kernel_rfl) (hc.waits (n := 9) (i := 8) (by kernel_rfl) (h))) (by kernel_rfl) (fun _ _ _ h => h) hA (.inr ⟨rfl, rfl⟩) ?_
          simp only [Act.put, List.setIfInBounds_toArray, List.set]
          refine wpG_takeT (i := 9) (v := undef) rfl (fun L hc h => hc.waits (n := 12) (i := 9) (by kernel_rfl) (h)) (by kernel_rfl) (fun _ _ _ h => h) hA (.inr ⟨rfl, rfl⟩) ?_
          simp only [Act.put, List.setIfInBounds_toArray, List.set]
          refine wpG_takeT (i := 10) (v := undef) rfl (fun L hc h => hc.waits (n := 12) (i := 11) (by kernel_rfl) (hc.waits (n := 11) (i := 10) (by kernel_rfl) (h))) (by kernel_rfl) (fun _ _ _ h => h) hA (.inr ⟨rfl, rfl⟩) ?_
          simp only [Act.put, List.setIfInBounds_toArray, List.set]
          refine wpG_takeT (i := 11) (v := undef) rfl (fun L hc h => hc.waits (n := 12) (i := 11) (by kernel_rfl) (h)) (by kernel_rfl) (fun _ _ _ h => h) hA (.inr ⟨rfl, rfl⟩) ?_
          simp only [Act.put, List.setIfInBounds_toArray, List.set]
          refine wpG_tail_lit (k := 12) rfl rfl (by kernel_rfl) ?_
          simp only [List.drop]
          go_wp2
          go_roundg (C.length - (j + 1))
          case measure => omega
          case rel => exact ⟨j + 1, cn, wn, fb, D, by omega, rfl, rfl, rfl, rfl, congrArg _ (by omega), by omega, by omega, HCY.out, HOK.out.mono (by omega), HLEN.out, HLK.out⟩
        · skip
          refine wp_region_G 12 (fun W => W.heap[wo.heap.size]? = some (callBox x.k x.i x.n x.c x.ka x.kn x.kc)) [false, false, false, false, false, false, false, false, false, false, false, false, false, false, false] rfl (by kernel_rfl) ?_
          refine wpG_takeT (i := 0) (v := .agg [.int .i64 x.k, .int .i64 x.i, .int .i64 x.n, .int .u8 x.c, .slice x.ka x.kn x.kc].toArray) rfl (fun L hc h => hc.waits (n := 12) (i := 9) (by kernel_rfl) (hc.waits (n := 9) (i := 8) (by kernel_rfl) (hc.waits (n := 8) (i := 7) (by kernel_rfl) (hc.waits (n := 7) (i := 6) (by kernel_rfl) (hc.waits (n := 6) (i := 5) (by kernel_rfl) (hc.waits (n := 5) (i := 4) (by kernel_rfl) (hc.waits (n := 4) (i := 3) (by kernel_rfl) (hc.waits (n := 3) (i := 2) (by kernel_rfl) (hc.waits (n := 2) (i := 1) (by kernel_rfl) (hc.waits (n := 1) (i := 0) (by kernel_rfl) (h))))))))))) (by kernel_rfl) (fun _ _ _ h => h) hA (.inl ⟨rfl, fun w5 q1 => ?_⟩) ?_
          · exact run_load_mid' rfl rfl [.int .i64 x.k, .int .i64 x.i, .int .i64 x.n, .int .u8 x.c, .slice x.ka x.kn x.kc] (rangeAt_block (cs := [.int .i64 x.k, .int .i64 x.i, .int .i64 x.n, .int .u8 x.c, .slice x.ka x.kn x.kc]) q1) Try.underlying51 rfl Try.size51
          simp only [Act.put, List.setIfInBounds_toArray, List.set]
          refine wpG_do (i := 1) rfl (by kernel_rfl) rfl (fun K hK => ?_)
          have HK := Lib.hid hK
          clear hK
          go_step
          refine (kind_run x.k x.i x.n x.c x.ka x.kn x.kc wv.drew).mono ?_
          rintro e wk ⟨rfl, huk⟩
          have hA := (huk.block _ (lt_of_heap hA) (fun e => e)).trans hA
          have HLK := Lib.hid (HLV.out.later (((Upd.refl _ wv).drew).trans huk))
          have HUK := Lib.hid (HUV.out.trans huk)
          clear huk HLV HUV
          simp only []
          refine HK.out _ _ hA ?_
          clear HK
          simp only [Act.put, List.setIfInBounds_toArray, List.set]
          refine wpG_takeT (i := 2) (v := .bool true) rfl (fun L hc h => hc.waits (n := 12) (i := 9) (by kernel_rfl) (hc.waits (n := 9) (i := 8) (by kernel_rfl) (hc.waits (n := 8) (i := 7) (by kernel_rfl) (hc.waits (n := 7) (i := 6) (by kernel_rfl) (hc.waits (n := 6) (i := 5) (by kernel_rfl) (hc.waits (n := 5) (i := 4) (by kernel_rfl) (hc.waits (n := 4) (i := 3) (by kernel_rfl) (hc.waits (n := 3) (i := 2) (by kernel_rfl) (h))))))))) (by kernel_rfl) (fun _ _ _ h => h) hA (.inl ⟨rfl, fun w5 q1 => ?_⟩) ?_
          · go_simp
          simp only [Act.put, List.setIfInBounds_toArray, List.set]
          refine wpG_takeT (i := 3) (v := .bool true) rfl (fun L hc h => hc.waits (n := 12) (i := 9) (by kernel_rfl) (hc.waits (n := 9) (i := 8) (by kernel_rfl) (hc.waits (n := 8) (i := 7) (by kernel_rfl) (hc.waits (n := 7) (i := 6) (by kernel_rfl) (hc.waits (n := 6) (i := 5) (by kernel_rfl) (hc.waits (n := 5) (i := 4) (by kernel_rfl) (hc.waits (n := 4) (i := 3) (by kernel_rfl) (h)))))))) (by kernel_rfl) (fun _ _ _ h => h) hA (.inl ⟨rfl, fun w5 q1 => ?_⟩) ?_
          · go_simp
          simp only [Act.put, List.setIfInBounds_toArray, List.set]
          refine wpG_takeT (i := 4) (v := .pointer (some ⟨wo.heap.size, 1, none⟩)) rfl (fun L hc h => hc.waits (n := 12) (i := 9) (by kernel_rfl) (hc.waits (n := 9) (i := 8) (by kernel_rfl) (hc.waits (n := 8) (i := 7) (by kernel_rfl) (hc.waits (n := 7) (i := 6) (by kernel_rfl) (hc.waits (n := 6) (i := 5) (by kernel_rfl) (hc.waits (n := 5) (i := 4) (by kernel_rfl) (h))))))) (by kernel_rfl) (fun _ _ _ h => h) hA (.inl ⟨rfl, fun w5 q1 => ?_⟩) ?_
          · go_simp
          simp only [Act.put, List.setIfInBounds_toArray, List.set]
          refine wpG_takeT (i := 5) (v := .int .i64 x.i) rfl (fun L hc h => hc.waits (n := 12) (i := 9) (by kernel_rfl) (hc.waits (n := 9) (i := 8) (by kernel_rfl) (hc.waits (n := 8) (i := 7) (by kernel_rfl) (hc.waits (n := 7) (i := 6) (by kernel_rfl) (hc.waits (n := 6) (i := 5) (by kernel_rfl) (h)))))) (by kernel_rfl) (fun _ _ _ h => h) hA (.inl ⟨rfl, fun w5 q1 => ?_⟩) ?_
          · have q2 := (box_cells q1).2.1
            go_simp
          simp only [Act.put, List.setIfInBounds_toArray, List.set]
          refine wpG_takeT (i := 6) (v := .bool false) rfl (fun L hc h => hc.waits (n := 12) (i := 9) (by kernel_rfl) (hc.waits (n := 9) (i := 8) (by kernel_rfl) (hc.waits (n := 8) (i := 7) (by kernel_rfl) (hc.waits (n := 7) (i := 6) (by kernel_rfl) (h))))) (by kernel_rfl) (fun _ _ _ h => h) hA (.inl ⟨rfl, fun w5 q1 => ?_⟩) ?_
          · go_simp
          simp only [Act.put, List.setIfInBounds_toArray, List.set]
          refine wpG_takeT (i := 7) (v := .bool false) rfl (fun L hc h => hc.waits (n := 12) (i := 9) (by kernel_rfl) (hc.waits (n := 9) (i := 8) (by kernel_rfl) (hc.waits (n := 8) (i := 7) (by kernel_rfl) (h)))) (by kernel_rfl) (fun _ _ _ h => h) hA (.inl ⟨rfl, fun w5 q1 => ?_⟩) ?_
          · go_simp
          simp only [Act.put, List.setIfInBounds_toArray, List.set]
          refine wpG_takeT (i := 8) (v := .pointer (some ⟨wo.heap.size, 1, none⟩)) rfl (fun L hc h => hc.waits (n := 12) (i := 9) (by kernel_rfl) (hc.waits (n := 9) (i := 8) (by kernel_rfl) (h))) (by kernel_rfl) (fun _ _ _ h => h) hA (.inl ⟨rfl, fun w5 q1 => ?_⟩) ?_
          · go_simp
          simp only [Act.put, List.setIfInBounds_toArray, List.set]
          refine wpG_takeT (i := 9) (v := .int .i64 x.i) rfl (fun L hc h => hc.waits (n := 12) (i := 9) (by kernel_rfl) (h)) (by kernel_rfl) (fun _ _ _ h => h) hA (.inl ⟨rfl, fun w5 q1 => ?_⟩) ?_
          · have q2 := (box_cells q1).2.1
            go_simp
          simp only [Act.put, List.setIfInBounds_toArray, List.set]
          refine wpG_takeT (i := 10) (v := .pointer (some ⟨p, 0, none⟩)) rfl (fun L hc h => hc.waits (n := 12) (i := 11) (by kernel_rfl) (hc.waits (n := 11) (i := 10) (by kernel_rfl) (h))) (by kernel_rfl) (fun _ _ _ h => h) hA (.inl ⟨rfl, fun w5 q1 => ?_⟩) ?_
          · go_simp
          simp only [Act.put, List.setIfInBounds_toArray, List.set]
          refine wpG_doIf (i := 11) rfl (by kernel_rfl) rfl (fun K hK => ?_)
          have HK := Lib.hid hK
          clear hK
          go_step
          refine (len_any wk (HLK.out.turn.choose_spec.1)).mono ?_
          rintro e wl ⟨rfl, rfl⟩
          simp only []
          refine HK.out _ _ hA ?_
          clear HK
          simp only [Act.put, List.setIfInBounds_toArray, List.set]
          rw [HLEN.out]
          by_cases hoff : (N : Int) ≤ x.i
          · have hoff2 : x.i ≥ (N : Int) := hoff
            refine wpG_tail_lit (k := 12) rfl rfl (by kernel_rfl) ?_
            simp only [List.drop]
            go_wp2
            go_roundg (C.length - (j + 1))
            case measure => omega
            case rel => exact ⟨j + 1, cn, wn, fb, D, by omega, rfl, rfl, rfl, rfl, congrArg _ (by omega), by omega, by omega, HCY.out, HOK.out.mono (by omega), HLEN.out, HLK.out⟩
          · have hoff2 : ¬ x.i ≥ (N : Int) := by omega
            have hnoff : ¬ D.off x.tgt := by unfold Dk.off CallR.tgt; rw [if_neg hk6, HLEN.out]; omega
            refine wpG_tail_lit (k := 12) rfl rfl (by kernel_rfl) ?_
            simp only [List.drop]
            have hDK := HD3.out.kept HUK.out (fun _ _ e => e)
            obtain ⟨z0, z1, z2, z3, z4⟩ := box_cells hA
            go_wp2_with (first | (go_at_call 51; refine (dead_any wk hDK).mono ?_; rintro e wz ⟨rfl, rfl⟩) | (go_at_call 36; refine (ops_any wk hDK).mono ?_; rintro e wz ⟨rfl, rfl⟩) | (go_at_call 44; fail))
            refine (on_calm x HXC.out h6 wk hDK HOK.out (by omega)).mono ?_
            rintro e w9 ⟨Bk, D', rfl, hBl, hnums, hok9, hl9⟩
            have hA9 := (hl9.upd.block _ (lt_of_heap hA) (fun e => by have := HF3.out _ e; omega)).trans hA
            have hL9 := HTN.out D' w9 (hl9.of_upd (HUK.out.mono (fun _ _ e => e.elim)) HUK.out.size)
            have HNU := Lib.hid hnums; have HOK9 := Lib.hid hok9
            have H1B := Lib.hid (all_oneCell_toArray (bcells_one Bk))
            have hle : (bcells Bk).length = 64 := by simp [bcells, hBl]
            have hi : (Try.prog.info? 56).map (·.size) = some (bcells Bk).length := by rw [Try.info56p, hle]
            have HI := Lib.hid hi; have HLE := Lib.hid hle
            clear hle hi hBl z0 z1 z2 z3 z4 hl9 hnums hok9 hDK hA HLK HUK HTN HD3 HF3
            generalize bcells Bk = bs at *
            simp only []
            iterate 13 go_step
            obtain ⟨f1, f2, f3⟩ := fresh56c w9 bs HLE.out
            refine wpList_store_mid rfl 56 (.tmp 18) (.tmp 82) rfl w9.heap.size 0 bs.toArray rfl rfl f1 (by rw [HI.out]; simp) H1B.out ?_
            refine (?_ : wpList _ _ _ _ _ ((w9.alloc (.cells (bcells zblk).toArray 56)).setCells w9.heap.size 0 bs))
            have hA10 := (f3.block _ (lt_of_heap hA9) (fun e => e)).trans hA9
            have hL10 := hL9.later f3
            clear f1 f2 hA9 hL9 HI HLE H1B f3
            generalize (w9.alloc (.cells (bcells zblk).toArray 56)).setCells w9.heap.size 0 bs = w10 at *
            obtain ⟨F9, hD9, _⟩ := hL10.turn
            have HD9 := Lib.hid hD9; have HL10 := Lib.hid hL10
            obtain ⟨z0, z1, z2, z3, z4⟩ := box_cells hA10
            have HA10 := Lib.hid hA10
            clear hD9 hL10 hA10
            obtain ⟨n1, n2, n3, n4, n5⟩ := HNU.out
            have hlen9 : D'.arr.length = N := by rw [n5, callD_len]; exact HLEN.out
            have HNO := Lib.hid n1; have HND := Lib.hid n4; have HL9 := Lib.hid hlen9
            clear n1 n2 n3 n4 n5 hlen9
            by_cases hdd : D.dead = true
            · obtain ⟨c1, c2⟩ := carry_dead hdd x.tgt x.wr
              have hops : D'.ops = D.ops := by rw [HNO.out, c2]
              have hCY : Carry D' A B cn wn fb := by
                have hd' : D'.dead = true := by rw [HND.out, c2]; exact hdd
                exact ⟨fun e => (by rw [hd'] at e; cases e), fun e => (by rw [hd'] at e; cases e), fun e => (by rw [hd'] at e; cases e)⟩
              have HC9 := Lib.hid hCY
              rw [c1, hdd]
              clear c1 c2 hCY HNO HND HNU
              go_wp2_with (go_at_call 36; refine (ops_any w10 HD9.out).mono ?_; rintro e wz ⟨rfl, rfl⟩)
              go_roundg (C.length - (j + 1))
              case measure => omega
              case rel => exact ⟨j + 1, cn, wn, fb, D', by omega, rfl, rfl, rfl, rfl, congrArg _ (by omega), by omega, by omega, HC9.out, HOK9.out.mono (by omega), HL9.out, HL10.out⟩
            have hdf : D.dead = false := by simpa using hdd
            by_cases hdie : x.wr = true ∧ wn = A
            · obtain ⟨c1, c2, c3⟩ := carry_dies HCY.out hdf hnoff hdie.1 hdie.2
              have hops : D'.ops = D.ops := by rw [HNO.out, c3]
              have hdd9 : D'.dead = true := by rw [HND.out, c2]
              have hwa : wn = A := hdie.2
              have hκ : ¬ kindOf x.k = 5 := by have := hdie.1; unfold CallR.wr at this; simpa using this
              have hCY : Carry D' A B cn wn fb := ⟨fun e => (by rw [hdd9] at e; cases e), fun e => (by rw [hdd9] at e; cases e), fun e => (by rw [hdd9] at e; cases e)⟩
              have HC9 := Lib.hid hCY
              rw [c1, hdf]
              clear c1 c2 c3 hCY HNO HND HNU hdie
              go_wp2_with (first | (go_at_call 57; refine (kind_run x.k x.i x.n x.c x.ka x.kn x.kc _).mono ?_; rintro e wq ⟨rfl, huq⟩; replace HL10 := Lib.hid (HL10.out.later huq); replace HD9 := Lib.hid (HD9.out.kept huq (fun _ _ e => e)); replace HA10 := Lib.hid ((huq.block _ (lt_of_heap HA10.out) (fun e => e)).trans HA10.out); clear z0 z1 z2 z3 z4; obtain ⟨z0, z1, z2, z3, z4⟩ := box_cells HA10.out; clear huq) | (go_at_call 51; refine (dead_any _ HD9.out).mono ?_; rintro e wz ⟨rfl, rfl⟩) | (go_at_call 36; refine (ops_any _ HD9.out).mono ?_; rintro e wz ⟨rfl, rfl⟩))
              any_goals (first | (exfalso; omega) | exact absurd (eq_of_beq (And.right (a := (kindOf x.k != 5) = true) (by assumption))) hwa | skip)
              go_roundg (C.length - (j + 1))
              case measure => omega
              case rel => exact ⟨j + 1, cn, wn, fb, D', by omega, rfl, rfl, congrArg _ hwa.symm, rfl, congrArg _ (by omega), by omega, by omega, HC9.out, HOK9.out.mono (by omega), HL9.out, HL10.out⟩
            by_cases hfl : fb = false ∧ cn = B
            · obtain ⟨c1, c2, c3⟩ := carry_fails HCY.out hdf hnoff hdie hfl.1 hfl.2
              have hops : D'.ops = D.ops := by rw [HNO.out, c2]
              have HC9 := Lib.hid (c3.same HNU.out)
              obtain ⟨rfl, hcb⟩ := hfl
              rw [c1, hdf]
              clear c1 c2 c3 HNO HND HNU
              by_cases hκ : kindOf x.k = 5
              · go_wp2_with (first | (go_at_call 57; refine (kind_run' hκ x.i x.n x.c x.ka x.kn x.kc _).mono ?_; rintro e wq ⟨rfl, huq⟩; replace HL10 := Lib.hid (HL10.out.later huq); replace HD9 := Lib.hid (HD9.out.kept huq (fun _ _ e => e)); replace HA10 := Lib.hid ((huq.block _ (lt_of_heap HA10.out) (fun e => e)).trans HA10.out); clear z0 z1 z2 z3 z4; obtain ⟨z0, z1, z2, z3, z4⟩ := box_cells HA10.out; clear huq) | (go_at_call 51; refine (dead_any _ HD9.out).mono ?_; rintro e wz ⟨rfl, rfl⟩) | (go_at_call 36; refine (ops_any _ HD9.out).mono ?_; rintro e wz ⟨rfl, rfl⟩))
                any_goals (first | (exfalso; omega) | exact absurd (eq_of_beq (And.right (a := (kindOf x.k != 5) = true) (by assumption))) hwa | skip)
                go_roundg (C.length - (j + 1))
                case measure => omega
                case rel => exact ⟨j + 1, cn, wn, true, D', by omega, rfl, congrArg _ hcb.symm, rfl, rfl, congrArg _ (by omega), by omega, by omega, HC9.out, HOK9.out.mono (by omega), HL9.out, HL10.out⟩
              · have hwa : ¬ wn = A := fun e => hdie ⟨by unfold CallR.wr; simp [hκ], e⟩
                go_wp2_with (first | (go_at_call 57; refine (kind_run x.k x.i x.n x.c x.ka x.kn x.kc _).mono ?_; rintro e wq ⟨rfl, huq⟩; replace HL10 := Lib.hid (HL10.out.later huq); replace HD9 := Lib.hid (HD9.out.kept huq (fun _ _ e => e)); replace HA10 := Lib.hid ((huq.block _ (lt_of_heap HA10.out) (fun e => e)).trans HA10.out); clear z0 z1 z2 z3 z4; obtain ⟨z0, z1, z2, z3, z4⟩ := box_cells HA10.out; clear huq) | (go_at_call 51; refine (dead_any _ HD9.out).mono ?_; rintro e wz ⟨rfl, rfl⟩) | (go_at_call 36; refine (ops_any _ HD9.out).mono ?_; rintro e wz ⟨rfl, rfl⟩))
                any_goals (first | (exfalso; omega) | exact absurd (eq_of_beq (And.right (a := (kindOf x.k != 5) = true) (by assumption))) hwa | skip)
                go_roundg (C.length - (j + 1))
                case measure => omega
                case rel => exact ⟨j + 1, cn, wn, true, D', by omega, rfl, congrArg _ hcb.symm, rfl, rfl, congrArg _ (by omega), by omega, by omega, HC9.out, HOK9.out.mono (by omega), HL9.out, HL10.out⟩
            obtain ⟨c1, c2, c2d, c3⟩ := carry_goes HCY.out hdf hnoff hdie hfl
            have hops : D'.ops = D.ops + 1 := by rw [HNO.out, c2]
            have HC9 := Lib.hid (c3.same HNU.out)
            have hob1 := HOK.out.ops.1
            have hob2 : D.ops ≤ 1000 := by have := HOK.out.ops.2; omega
            rw [c1, hdf]
            clear c1 c2 c2d c3 HNO HND HNU
            by_cases hκ : kindOf x.k = 5
            · have hwr : x.wr = false := by unfold CallR.wr; simp [hκ]
              rw [hwr] at HC9
              cases hfb : fb
              · have hcb : ¬ cn = B := fun e => hfl ⟨hfb, e⟩
                rw [hfb] at HC9
                go_wp2_with (first | (go_at_call 57; refine (kind_run' hκ x.i x.n x.c x.ka x.kn x.kc _).mono ?_; rintro e wq ⟨rfl, huq⟩; replace HL10 := Lib.hid (HL10.out.later huq); replace HD9 := Lib.hid (HD9.out.kept huq (fun _ _ e => e)); replace HA10 := Lib.hid ((huq.block _ (lt_of_heap HA10.out) (fun e => e)).trans HA10.out); clear z0 z1 z2 z3 z4; obtain ⟨z0, z1, z2, z3, z4⟩ := box_cells HA10.out; clear huq) | (go_at_call 51; refine (dead_any _ HD9.out).mono ?_; rintro e wz ⟨rfl, rfl⟩) | (go_at_call 36; refine (ops_any _ HD9.out).mono ?_; rintro e wz ⟨rfl, rfl⟩))
                any_goals (first | (exfalso; omega) | exact absurd (eq_of_beq (And.right (a := (kindOf x.k != 5) = true) (by assumption))) hwa | skip)
                go_roundg (C.length - (j + 1))
                case measure => omega
                case rel => exact ⟨j + 1, cn + 1, wn, _, D', by omega, rfl, congrArg _ (by omega), rfl, rfl, congrArg _ (by omega), by omega, by omega, by have := HC9.out; simpa using this, HOK9.out.mono (by omega), HL9.out, HL10.out⟩
              · rw [hfb] at HC9
                go_wp2_with (first | (go_at_call 57; refine (kind_run' hκ x.i x.n x.c x.ka x.kn x.kc _).mono ?_; rintro e wq ⟨rfl, huq⟩; replace HL10 := Lib.hid (HL10.out.later huq); replace HD9 := Lib.hid (HD9.out.kept huq (fun _ _ e => e)); replace HA10 := Lib.hid ((huq.block _ (lt_of_heap HA10.out) (fun e => e)).trans HA10.out); clear z0 z1 z2 z3 z4; obtain ⟨z0, z1, z2, z3, z4⟩ := box_cells HA10.out; clear huq) | (go_at_call 51; refine (dead_any _ HD9.out).mono ?_; rintro e wz ⟨rfl, rfl⟩) | (go_at_call 36; refine (ops_any _ HD9.out).mono ?_; rintro e wz ⟨rfl, rfl⟩))
                any_goals (first | (exfalso; omega) | exact absurd (eq_of_beq (And.right (a := (kindOf x.k != 5) = true) (by assumption))) hwa | skip)
                go_roundg (C.length - (j + 1))
                case measure => omega
                case rel => exact ⟨j + 1, cn + 1, wn, _, D', by omega, rfl, congrArg _ (by omega), rfl, rfl, congrArg _ (by omega), by omega, by omega, by have := HC9.out; simpa using this, HOK9.out.mono (by omega), HL9.out, HL10.out⟩
            · have hwr : x.wr = true := by unfold CallR.wr; simp [hκ]
              have hwa : ¬ wn = A := fun e => hdie ⟨hwr, e⟩
              rw [hwr] at HC9
              cases hfb : fb
              · have hcb : ¬ cn = B := fun e => hfl ⟨hfb, e⟩
                rw [hfb] at HC9
                go_wp2_with (first | (go_at_call 57; refine (kind_run x.k x.i x.n x.c x.ka x.kn x.kc _).mono ?_; rintro e wq ⟨rfl, huq⟩; replace HL10 := Lib.hid (HL10.out.later huq); replace HD9 := Lib.hid (HD9.out.kept huq (fun _ _ e => e)); replace HA10 := Lib.hid ((huq.block _ (lt_of_heap HA10.out) (fun e => e)).trans HA10.out); clear z0 z1 z2 z3 z4; obtain ⟨z0, z1, z2, z3, z4⟩ := box_cells HA10.out; clear huq) | (go_at_call 51; refine (dead_any _ HD9.out).mono ?_; rintro e wz ⟨rfl, rfl⟩) | (go_at_call 36; refine (ops_any _ HD9.out).mono ?_; rintro e wz ⟨rfl, rfl⟩))
                any_goals (first | (exfalso; omega) | exact absurd (eq_of_beq (And.right (a := (kindOf x.k != 5) = true) (by assumption))) hwa | skip)
                go_roundg (C.length - (j + 1))
                case measure => omega
                case rel => exact ⟨j + 1, cn + 1, wn + 1, _, D', by omega, rfl, congrArg _ (by omega), congrArg _ (by omega), rfl, congrArg _ (by omega), by omega, by omega, by have := HC9.out; simpa using this, HOK9.out.mono (by omega), HL9.out, HL10.out⟩
              · rw [hfb] at HC9
                go_wp2_with (first | (go_at_call 57; refine (kind_run x.k x.i x.n x.c x.ka x.kn x.kc _).mono ?_; rintro e wq ⟨rfl, huq⟩; replace HL10 := Lib.hid (HL10.out.later huq); replace HD9 := Lib.hid (HD9.out.kept huq (fun _ _ e => e)); replace HA10 := Lib.hid ((huq.block _ (lt_of_heap HA10.out) (fun e => e)).trans HA10.out); clear z0 z1 z2 z3 z4; obtain ⟨z0, z1, z2, z3, z4⟩ := box_cells HA10.out; clear huq) | (go_at_call 51; refine (dead_any _ HD9.out).mono ?_; rintro e wz ⟨rfl, rfl⟩) | (go_at_call 36; refine (ops_any _ HD9.out).mono ?_; rintro e wz ⟨rfl, rfl⟩))
                any_goals (first | (exfalso; omega) | exact absurd (eq_of_beq (And.right (a := (kindOf x.k != 5) = true) (by assumption))) hwa | skip)
                go_roundg (C.length - (j + 1))
                case measure => omega
                case rel => exact ⟨j + 1, cn + 1, wn + 1, _, D', by omega, rfl, congrArg _ (by omega), congrArg _ (by omega), rfl, congrArg _ (by omega), by omega, by omega, by have := HC9.out; simpa using this, HOK9.out.mono (by omega), HL9.out, HL10.out⟩
    · obtain rfl : j = C.length := by omega
      go_wp2
      go_ret
      refine ⟨rfl, ((HU0.out.trans HU6.out)).step HL.out.upd (fun k hk e => ?_)⟩
      have h1 := HF2.out k e
      have h2 := HU0.out.size
      omega

end Go.Proofs.Ytbimkhdiplnbfaa
