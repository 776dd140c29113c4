/- Walks: RegisterBack. -/
import Derived.Test.YtbimkhdiplnbfaaGreatU25
import Derived.Test.YtbimkhdiplnbfaaGreatU27
import Derived.Test.YtbimkhdiplnbfaaGreatU29
import Derived.Test.YtbimkhdiplnbfaaGreatU30

namespace Go.Proofs.YtbimkhdiplnbfaaGreat
set_option maxRecDepth 100000
open Go.RowKit Go.Shelf

/-- The first so many bytes. -/
theorem BytesIn.head {w : World} {a : Option Addr} {c : Nat} {bs : List Int} (h : BytesIn w (.slice a bs.length c) bs) (hc : bs.length ≤ c) {n : Nat} (hn : n ≤ bs.length) :
    (∀ W, (Instr.slice 39 (.slice a bs.length c) none (some (.int .i64 n)) none).run Tryz.prog W = .ok (.slice a n c) W) ∧ BytesIn w (.slice a n c) (bs.take n) := by
  have hl : (bs.take n).length = n := by simp; omega
  rcases h with ⟨h1, rfl⟩ | ⟨ad, c', h1, h2, h3, h4⟩
  · injection h1 with e1 _ e3
    subst e1
    subst e3
    obtain rfl : n = 0 := by simpa using hn
    refine ⟨fun W => ?_, .inl ⟨rfl, rfl⟩⟩
    have := run_slice_h W 39 none 0 0 elem39 .i64 0 (by omega) (by omega)
    rw [show ((0 : Nat) : Int) = 0 from rfl, show ([] : List Int).length = 0 from rfl, this, size39e]
    rfl
  · injection h1 with e1 _ e3
    subst e1
    subst e3
    refine ⟨fun W => ?_, .inr ⟨ad, c, by rw [hl], by rw [hl]; omega, h3, fun i u hi => ?_⟩⟩
    · rw [run_slice_h W 39 _ bs.length c elem39 .i64 n (by omega) (by omega), size39e]
      simp [Result.andThen, sliced, Addr.add_zero']
    · have hi2 := (List.getElem?_eq_some_iff.1 hi).1
      simp only [bcells, List.length_map, hl] at hi2
      refine h4 i u ?_
      simp only [bcells, List.getElem?_map, List.getElem?_take_of_lt hi2] at hi ⊢
      exact hi

theorem clipB_fine {w : World} {B : BatchV} {a : Option Addr} {c : Nat} (h : BatchIn w B a c) : (clipB B).Ok ∧ (clipB B).sets.length ≤ 49 := by
  refine ⟨⟨h.epoch, fun x hx => ?_⟩, by simp [clipB]; omega⟩
  simp only [clipB, List.mem_map] at hx
  obtain ⟨y, hy, rfl⟩ := hx
  have := h.bytes y (List.mem_of_mem_take hy)
  exact ⟨fun z hz => this.1 z (List.mem_of_mem_take hz), fun z hz => this.2 z (List.mem_of_mem_take hz)⟩

theorem store3 {W : World} {t : Nat} {x0 x1 x2 a b c : Value} {ty : TypeId} (h : W.heap[t]? = some (.cells #[x0, x1, x2] ty (0, 0))) :
    (((W.setCell ⟨t, 0, none⟩ a).setCell ⟨t, 1, none⟩ b).setCell ⟨t, 2, none⟩ c).heap[t]? = some (.cells #[a, b, c] ty (0, 0)) ∧ Upd (fun k => k = t) W (((W.setCell ⟨t, 0, none⟩ a).setCell ⟨t, 1, none⟩ b).setCell ⟨t, 2, none⟩ c) := by
  refine ⟨?_, ((upd_own W t 0 _).trans (upd_own _ t 1 _)).trans (upd_own _ t 2 _)⟩
  have := blk_set (i := 2) (v := c) (blk_set (i := 1) (v := b) (blk_set (i := 0) (v := a) h))
  simpa using this

theorem row_lt {w : World} {B0 : Nat} {C : Nat → Prop} {a1 : Option Addr} {n c1 : Nat} {l : List SetV} (h : SetRow w B0 C (.slice a1 n c1) l) : ∀ b o, a1 = some ⟨b, o, none⟩ → b < w.heap.size := fun b o e => by
  obtain ⟨L, _, q, _⟩ := h
  rcases q.2 with ⟨e1, _⟩ | ⟨g, cap, cur, e1, _, hg, _⟩
  · injection e1 with e1; rw [e1] at e; cases e
  · injection e1 with e1; rw [e1] at e; injection e with e; injection e with e; subst e; exact lt_of_heap hg

theorem batch_any2 {c n0 : Nat} {a : Option Addr} {B : BatchV} (w : World) (hB : BatchIn w B a c) (hn : n0 = B.sets.length) :
    Calls Tryz.prog 19 #[.agg #[.int .i64 0, .int .i64 0, .int .u64 B.epoch, .bool B.large, .slice a n0 c, .slice none 0 0, .slice none 0 0], .agg #[.int .u64 0, .slice none 0 0]] w fun e w' => ∃ a1 c1, e = .returned (.agg #[.int .u64 (clipB B).epoch, .bool (clipB B).large, .slice a1 (clipB B).sets.length c1]) ∧ (∃ C1, SetsAt w' (fun k => w.heap.size ≤ k) C1 a1 (clipB B).sets ∧ ∀ k, C1 k → w.heap.size ≤ k) ∧ (∀ b o, a1 = some ⟨b, o, none⟩ → b < w'.heap.size) ∧ (clipB B).sets.length ≤ c1 ∧ Upd (fun _ => False) w w' := by
  subst hn
  refine (batch_any (B := B) (c := c) w hB.sets hB.bytes hB.len (by have := hB.cap; unfold maxLen; omega)).mono ?_
  rintro e w3 ⟨a1, c1, rfl, ⟨C1, hr1, hr2, hr3⟩, hc1, hu3⟩
  exact ⟨a1, c1, rfl, ⟨C1, hr1.setsAt, hr3⟩, row_lt hr1, hc1, hu3⟩

theorem same_any2 {c d : Nat} {a b : Option Addr} {A B : BatchV} (w : World) (ha : SetsIn w a A.sets) (hb : SetsIn w b B.sets) (hl : A.sets.length ≤ 1000000) :
    Calls Tryz.prog 23 #[.agg #[.int .u64 A.epoch, .bool A.large, .slice a A.sets.length c], .agg #[.int .u64 B.epoch, .bool B.large, .slice b B.sets.length d]] w fun e w' => ∃ r, e = .returned (.bool r) ∧ (r = true ↔ A = B) ∧ Upd (fun _ => False) w w' := by
  have ks : ∀ {a : Option Addr} {l : List SetV}, SetsIn w a l → ∀ x ∈ l, Bytes x.old ∧ Bytes x.new := fun {a l} h x hx => by
    obtain ⟨i, hi⟩ := List.getElem?_of_mem hx
    obtain ⟨_, _, _, _, _, _, _, _, _, _, _, _, _, _, _, _, _, h7, h8⟩ := h i x hi
    exact ⟨h7, h8⟩
  exact (same_any (c := c) (d := d) w ha hb (ks ha) (ks hb) hl)

/-- Decode, of a row of bytes at any place. -/
theorem decode_any2 {v : Value} {bs : List Int} (w : World) (hv : BytesIn w v bs) (hB : Bytes bs) (hl : bs.length ≤ 1000000) :
    Calls Tryz.prog 27 #[v] w fun e w' => ∃ a c, e = .returned (.tuple #[.agg #[.int .u64 (decF bs).1.epoch, .bool (decF bs).1.large, .slice a (decF bs).1.sets.length c], .int .i64 (decF bs).2]) ∧ SetsIn w' a (decF bs).1.sets ∧ (∀ x ∈ (decF bs).1.sets, x.fine) ∧ (∀ b o, a = some ⟨b, o, none⟩ → w.heap.size ≤ b ∧ b < w'.heap.size) ∧ Upd (fun _ => False) w w' := by
  refine (decode_any w hv hB (by omega)).mono ?_
  rintro e w' ⟨a, c, rfl, ⟨C, h1, _⟩, h2, h4, h3⟩
  exact ⟨a, c, rfl, h1.setsIn, h2, h4, h3⟩

theorem dec_epoch {l : List Int} (hB : Bytes l) : 0 ≤ (decF l).1.epoch ∧ (decF l).1.epoch ≤ 18446744073709551615 := by
  have hz : (0 : Int) ≤ BatchV.zero.epoch ∧ BatchV.zero.epoch ≤ 18446744073709551615 := by decide
  rw [decF_read]
  split
  · exact hz
  · split
    · exact hz
    · have := numS_bound (n := 8) (st := some l) (fun bs e => by injection e with e; rw [← e]; exact hB)
      have e : (readAll l).1.epoch = (numS 8 (some l)).1 := rfl
      rw [e]
      omega

set_option maxHeartbeats 8000000 in
theorem back_run {B : BatchV} {a ba : Option Addr} {c bc : Nat} {bs : List Int} (w : World) (hB : BatchIn w B a c) (hb : BytesIn w (.slice ba bs.length bc) bs) (hby : Bytes bs) (hbl : bs.length ≤ bc) (hbc : bc ≤ 140737488351232) :
    Calls Tryz.prog 7 #[.agg #[.int .u64 B.epoch, .bool B.large, .slice a B.sets.length c], .slice ba bs.length bc] w fun e w' => e = .returned (.bool true) ∧ Upd (fun _ => False) w w' := by
  obtain ⟨m, hm, hm1, hm2⟩ : ∃ m : Nat, min (bs.length : Int) 9000 = m ∧ m ≤ bs.length ∧ m ≤ 9000 := ⟨min bs.length 9000, by omega, by omega, by omega⟩
  obtain ⟨hsl, hbm⟩ := hb.head hbl hm1
  obtain ⟨nb, hnb⟩ : ∃ nb, nb = bs.length := ⟨_, rfl⟩
  rw [← hnb] at hm hsl ⊢
  obtain ⟨cs, hcs⟩ : ∃ cs, cs = bs.take m := ⟨_, rfl⟩
  rw [← hcs] at hbm
  have hcsl : cs.length = m := by rw [hcs]; simp; omega
  have hcb : Bytes cs := by rw [hcs]; exact fun x hx => hby x (List.mem_of_mem_take hx)
  obtain ⟨n0, hn0⟩ : ∃ n0, n0 = B.sets.length := ⟨_, rfl⟩
  obtain ⟨w1, hw1⟩ : ∃ w1, w1 = w.alloc (.cells #[.int .u64 B.epoch, .bool B.large, .slice a n0 c] 56) := ⟨_, rfl⟩
  have hx1 : w1.heap[w.heap.size]? = some (.cells #[.int .u64 B.epoch, .bool B.large, .slice a n0 c] 56 (0, 0)) := by rw [hw1]; exact alloc_at rfl
  have hu1 : Upd (fun _ => False) w w1 := by rw [hw1]; exact (Upd.refl _ w).alloc _
  have HB := Lib.hid hB; have HBM := Lib.hid hbm; have HCB := Lib.hid hcb; have HCL := Lib.hid hcsl; have HSL := Lib.hid hsl; have HM := Lib.hid hm; have HW1 := Lib.hid hw1; have HX1 := Lib.hid hx1; have HU1 := Lib.hid hu1; have HN0 := Lib.hid hn0; have HNB := Lib.hid hnb
  have HM2 := Lib.hid hm2
  obtain ⟨bx, hbx⟩ : ∃ bx, bx = w.heap.size := ⟨_, rfl⟩
  rw [← hn0]
  clear hB hb hby hbm hcb hcsl hsl hm hw1 hx1 hu1 hn0 hcs hnb hm1 hm2
  go_enter Tryz.func7, Tryz.ntmps7
  go_upto_region 1 with fail
  rw [← HW1.out, ← hbx]
  have HX1 : RowKit.Hid (w1.heap[bx]? = some (.cells #[.int .u64 B.epoch, .bool B.large, .slice a n0 c] 56 (0, 0))) := Lib.hid (by rw [hbx]; exact HX1.out)
  have HBX := Lib.hid (show w.heap.size ≤ bx by omega)
  clear HW1 hbx
  go_wp2_with (go_at_call 18; fail)
  refine (wakes_any w1).mono ?_
  rintro e w2 ⟨rfl, hu2⟩
  have HU2 := Lib.hid (HU1.out.trans hu2)
  have HX2 := Lib.hid ((hu2.block _ (lt_of_heap HX1.out) (fun e => e)).trans HX1.out)
  clear hu2 HX1 HU1
  simp only []
  go_upto_region 3 with fail
  have hA : w2.drew.heap[bx]? = some (.cells #[.int .u64 B.epoch, .bool B.large, .slice a n0 c] 56 (0, 0)) := HX2.out
  have HU := Lib.hid ((Upd.refl (fun _ => False) w2).drew)
  refine wp_region_G 9 (fun W => W.heap[bx]? = some (.cells #[.int .u64 B.epoch, .bool B.large, .slice a n0 c] 56 (0, 0))) [false, false, false, false, false, false, false, false, false, false, false] rfl (by kernel_rfl) ?_
  generalize w2.drew = wd at hA HU ⊢
  refine wpG_takeT (i := 0) (v := .agg #[.int .u64 B.epoch, .bool B.large, .slice a n0 c]) rfl (fun L hc h => (hc.waits (n := 9) (i := 0) (by kernel_rfl) h)) (by kernel_rfl) (fun _ _ _ h => h) hA (.inl ⟨rfl, fun w5 q1 => ?_⟩) ?_
  · obtain ⟨c0, c1, c2⟩ := cells3_of q1
    go_simp
  simp only [Act.put, List.setIfInBounds_toArray, List.set]
  refine wpG_takeT (i := 1) (v := .agg #[.int .i64 0, .int .i64 0, .int .u64 B.epoch, .bool B.large, .slice a n0 c, .slice none 0 0, .slice none 0 0]) rfl (fun L hc h => (hc.waits (n := 9) (i := 1) (by kernel_rfl) h)) (by kernel_rfl) (fun _ _ _ h => h) hA (.inl ⟨rfl, fun w5 q1 => ?_⟩) ?_
  · go_simp
  simp only [Act.put, List.setIfInBounds_toArray, List.set]
  refine wpG_takeT (i := 2) (v := .agg #[.int .u64 0, .slice none 0 0]) rfl (fun L hc h => (hc.waits (n := 9) (i := 2) (by kernel_rfl) h)) (by kernel_rfl) (fun _ _ _ h => h) hA (.inl ⟨rfl, fun w5 q1 => ?_⟩) ?_
  · go_simp
  simp only [Act.put, List.setIfInBounds_toArray, List.set]
  refine wpG_takeP (i := 4) (v := .slice ba nb bc) rfl (by kernel_rfl) (fun _ _ _ h => h) hA (.inl ⟨rfl, fun w5 q1 => ?_⟩) ?_
  · go_simp
  simp only [Act.put, List.setIfInBounds_toArray, List.set]
  refine wpG_takeP (i := 5) (v := .slice ba nb bc) rfl (by kernel_rfl) (fun _ _ _ h => h) hA (.inl ⟨rfl, fun w5 q1 => ?_⟩) ?_
  · go_simp
  simp only [Act.put, List.setIfInBounds_toArray, List.set]
  refine wpG_takeP (i := 6) (v := .int .i64 nb) rfl (by kernel_rfl) (fun _ _ _ h => h) hA (.inl ⟨rfl, fun w5 q1 => ?_⟩) ?_
  · go_simp
  simp only [Act.put, List.setIfInBounds_toArray, List.set]
  refine wpG_takeP (i := 7) (v := .int .i64 m) rfl (by kernel_rfl) (fun _ _ _ h => h) hA (.inl ⟨rfl, fun w5 q1 => ?_⟩) ?_
  · have hm := HM.out
    go_simp
  simp only [Act.put, List.setIfInBounds_toArray, List.set]
  refine wpG_takeP (i := 8) (v := .slice ba m bc) rfl (by kernel_rfl) (fun _ _ _ h => h) hA (.inl ⟨rfl, fun w5 q1 => ?_⟩) ?_
  · have hsl := HSL.out
    go_simp
  simp only [Act.put, List.setIfInBounds_toArray, List.set]
  refine wpG_do (i := 3) rfl (by kernel_rfl) rfl (fun K hK => ?_)
  have HKK := Lib.hid hK
  clear hK
  go_step
  refine (batch_any2 (c := c) wd (HB.out.kept (HU2.out.trans HU.out)) HN0.out).mono ?_
  rintro e w3 ⟨a1, c1, rfl, hs1, hal1, hc1, hu3⟩
  have HBL := Lib.hid (lt_of_heap hA)
  have hA := (hu3.block _ (lt_of_heap hA) (fun e => e)).trans hA
  have HS1 := Lib.hid hs1; have HAL := Lib.hid hal1; have HC1 := Lib.hid hc1
  have HU := Lib.hid (HU.out.trans hu3)
  refine HKK.out _ _ hA ?_
  clear HKK hs1 hal1 hc1 hu3
  simp only [Act.put, List.setIfInBounds_toArray, List.set]
  refine wpG_tail_lit (k := 9) rfl rfl (by kernel_rfl) ?_
  simp only [List.drop]
  have HX3 := Lib.hid hA
  have f0 : w3.frozen? ⟨bx, 0, none⟩ = false := frozen_of_heap hA
  have f1 : w3.frozen? ⟨bx, 1, none⟩ = false := frozen_of_heap hA
  have f2 : w3.frozen? ⟨bx, 2, none⟩ = false := frozen_of_heap hA
  obtain ⟨x0, x1, x2⟩ := cells3_of hA
  clear hA
  go_upto_region 4 with fail
  obtain ⟨s1, s2⟩ := store3 (a := .int .u64 (clipB B).epoch) (b := .bool (clipB B).large) (c := .slice a1 (clipB B).sets.length c1) HX3.out
  obtain ⟨w4, hw4⟩ : ∃ w4, w4 = ((w3.setCell ⟨bx, 0, none⟩ (.int .u64 (clipB B).epoch)).setCell ⟨bx, 1, none⟩ (.bool (clipB B).large)).setCell ⟨bx, 2, none⟩ (.slice a1 (clipB B).sets.length c1) := ⟨_, rfl⟩
  rw [← hw4] at s1 s2 ⊢
  obtain ⟨C1, hs1, hs2⟩ := HS1.out
  have hbxl : bx < wd.heap.size := HBL.out
  have HS4 := Lib.hid (show SetsIn w4 a1 (clipB B).sets from (hs1.kept s2 (fun k hk e => by omega) (fun k hk e => by have := hs2 k hk; omega)).setsIn)
  have HX4 := Lib.hid s1
  have HU4 := Lib.hid (show Upd (fun _ => False) w w4 from ((HU2.out.trans HU.out).step s2 (fun k hk e => by have := HBX.out; omega)))
  have HAL4 := Lib.hid (show ∀ b o, a1 = some ⟨b, o, none⟩ → b < w4.heap.size from fun b o e => Nat.lt_of_lt_of_le (HAL.out b o e) s2.size)
  obtain ⟨hyk, hyl⟩ := clipB_fine HB.out
  obtain ⟨Y, hY⟩ : ∃ Y, Y = clipB B := ⟨_, rfl⟩
  rw [← hY] at HS4 HX4 hyk hyl ⊢
  have HYK := Lib.hid hyk; have HYL := Lib.hid hyl
  clear hs1 hs2 s1 s2 hw4 hyk hyl hY hbxl x0 x1 x2 f0 f1 f2 HS1 HAL HX3 HU HX2
  obtain ⟨x0, x1, x2⟩ := cells3_of HX4.out
  have HENC := Lib.hid (encode_any (c := c1) (B := Y) w4 HS4.out (by have := HYL.out; omega) HYK.out HAL4.out)
  unfold batchV at HENC
  go_wp2_with (go_at_call 21; fail)
  refine HENC.out.mono ?_
  rintro e w5 ⟨hu5, henc⟩
  have HU5 := Lib.hid (HU4.out.trans hu5)
  have HS5 := Lib.hid (HS4.out.kept hu5)
  have HX5 := Lib.hid ((hu5.block _ (lt_of_heap HX4.out) (fun e => e)).trans HX4.out)
  clear hu5 HS4 HX4 HAL4 HENC x0 x1 x2
  obtain ⟨ya, yn, yc, E, rfl, hyc⟩ : ∃ ya yn yc E, e = .returned (.tuple #[.slice ya yn yc, .int .i64 E]) ∧ ((E = 0 ∧ Y.right = true ∧ yn = (encF Y).length ∧ OwnB w5 w4.heap.size (.slice ya yn yc) (encF Y)) ∨ E = 2) := by
    split at henc
    · obtain ⟨u, rfl, ho⟩ := henc
      obtain ⟨ua, uc, rfl, _⟩ := ho.bytesAt.1.slice
      exact ⟨ua, _, uc, 0, rfl, .inl ⟨rfl, by assumption, rfl, ho⟩⟩
    · exact ⟨none, 0, 0, 2, henc, .inr rfl⟩
  have HYC := Lib.hid hyc
  clear henc hyc
  simp only []
  go_upto_if 31 with fail
  go_cut [7, 8, 9, 10, 11, 31] from 32 to 61 (fun v7 v8 v9 v10 v11 v31 wx => Upd (fun _ => False) w wx)
  case first =>
    by_cases hE : E = 0
    rotate_left
    · have hE1 : (E == 0) = false := by simpa using hE
      clear hE
      go_wp2
      go_meet
      case rel => exact HU5.out
    · subst hE
      obtain ⟨hyr, hyn, hyo⟩ : Y.right = true ∧ yn = (encF Y).length ∧ OwnB w5 w4.heap.size (.slice ya yn yc) (encF Y) := by
        rcases HYC.out with ⟨_, h1, h2, h3⟩ | h
        · exact ⟨h1, h2, h3⟩
        · cases h
      have hdec := decode_any2 w5 hyo.bytesAt.1.bytesIn (encF_by HYK.out) (by have := encF_len hyr; omega)
      rw [dec_enc hyr HYK.out] at hdec
      have HDEC := Lib.hid hdec; have HYR := Lib.hid hyr; have HYN := Lib.hid hyn; have HYO := Lib.hid hyo
      clear hdec hyr hyn hyo
      go_wp2_with (go_at_call 27; fail)
      refine HDEC.out.mono ?_
      rintro e w6 ⟨a2, c2, rfl, hs2, _, _, hu6⟩
      have HS6 := Lib.hid hs2; have HU6 := Lib.hid (HU5.out.trans hu6)
      have HX6 := Lib.hid ((hu6.block _ (lt_of_heap HX5.out) (fun e => e)).trans HX5.out)
      have HS5b := Lib.hid (HS5.out.kept hu6)
      have HYO6 := Lib.hid (OwnB.keptF HYO.out hu6 (fun _ _ e => e))
      clear hs2 hu6 HDEC
      simp only []
      go_upto_region 7 with fail
      obtain ⟨w7, hw7⟩ : ∃ w7, w7 = w6.alloc (.cells #[.int .u64 Y.epoch, .bool Y.large, .slice a2 Y.sets.length c2] 56) := ⟨_, rfl⟩
      rw [← hw7]
      have hu7 : Upd (fun _ => False) w6 w7 := by rw [hw7]; exact (Upd.refl _ w6).alloc _
      have hx7 : w7.heap[w6.heap.size]? = some (.cells #[.int .u64 Y.epoch, .bool Y.large, .slice a2 Y.sets.length c2] 56 (0, 0)) := by rw [hw7]; exact alloc_at rfl
      have HS7 := Lib.hid (HS6.out.kept hu7); have HS7b := Lib.hid (HS5b.out.kept hu7); have HU7 := Lib.hid (HU6.out.trans hu7); have HYO7 := Lib.hid (OwnB.keptF HYO6.out hu7 (fun _ _ e => e))
      have hx7b := (hu7.block _ (lt_of_heap HX6.out) (fun e => e)).trans HX6.out
      generalize w6.heap.size = t7 at hx7 ⊢
      obtain ⟨x0, x1, x2⟩ := cells3_of hx7b
      obtain ⟨y0, y1, y2⟩ := cells3_of hx7
      clear hw7 hu7 hx7 hx7b HS6 HS5b HU6 HYO6 HX6
      go_wp2_with (go_at_call 23; fail)
      refine (same_any2 (c := c1) (d := c2) w7 HS7b.out HS7.out (by have := HYL.out; omega)).mono ?_
      rintro e w8 ⟨rs, rfl, hrs, hu8⟩
      have hrs' := hrs.2 rfl
      subst hrs'
      have HU8 := Lib.hid (HU7.out.trans hu8)
      have HYO8 := Lib.hid (OwnB.keptF HYO7.out hu8 (fun _ _ e => e))
      clear hrs hu8 HS7 HS7b HU7 HYO7 x0 x1 x2 y0 y1 y2
      simp only []
      obtain ⟨m2, hm2, hm21, hm22⟩ : ∃ m2 : Nat, min (yn : Int) 300 = m2 ∧ m2 ≤ yn ∧ m2 ≤ 300 := ⟨min yn 300, by omega, by omega, by omega⟩
      go_upto_block 0 with fail
      clear hm2
      go_upto_region 10 with fail
      go_loopg [48] m2 (fun gk i wr => ∃ k : Nat, k ≤ m2 ∧ gk = m2 - k ∧ i = .int .i64 k ∧ Upd (fun _ => False) w8 wr)
      case atStart => exact ⟨0, Nat.zero_le _, rfl, rfl, Upd.refl _ _⟩
      case round =>
        obtain ⟨k, hk, rfl, rfl, hd⟩ := hrel
        have HDU := Lib.hid hd
        clear hd
        by_cases hkn : k < m2
        · have hkni : (k : Int) < m2 := by omega
          have hyk : k < (encF Y).length := by have := HYN.out; omega
          have hyi : BytesIn wr (.slice ya (encF Y).length yc) (encF Y) := by
            have := (OwnB.keptF HYO8.out HDU.out (fun _ _ e => e)).bytesAt.1.bytesIn
            rwa [← HYN.out] at *
          have hyl2 : (encF Y).length ≤ yc := by
            rcases hyi with ⟨e1, e2⟩ | ⟨_, _, e1, e2, _⟩
            · rw [e2]; simp
            · injection e1 with _ _ e3; omega
          obtain ⟨hs1, hs2⟩ := hyi.head hyl2 (n := k) (by omega)
          have hdec := decode_any2 wr hs2 (fun x hx => encF_by HYK.out x (List.mem_of_mem_take hx)) (by have := encF_len HYR.out; simp; omega)
          rw [dec_short HYR.out HYK.out hyk] at hdec
          have hs1' : ∀ W, (Instr.slice 39 (.slice ya yn yc) none (some (.int .i64 k)) none).run Tryz.prog W = .ok (.slice ya k yc) W := by rw [HYN.out]; exact hs1
          have HDEC := Lib.hid hdec
          have hcv2 : IntKind.i64.wrap ((k : Int) + 1) = (k : Int) + 1 := by rw [IntKind.wrap_i64]; omega
          clear hyi hs1 hs2 hdec
          go_wp2_with (go_at_call 27; fail)
          refine HDEC.out.mono ?_
          rintro e w9 ⟨a3, c3, rfl, _, _, _, hu9⟩
          have HU9 := Lib.hid (HDU.out.trans hu9)
          clear hu9 HDEC
          simp only []
          go_upto_region 13 with fail
          obtain ⟨w10, hw10⟩ : ∃ w10, w10 = w9.alloc (.cells #[.int .u64 BatchV.zero.epoch, .bool BatchV.zero.large, .slice a3 BatchV.zero.sets.length c3] 56) := ⟨_, rfl⟩
          rw [← hw10]
          have HU10 := Lib.hid (show Upd (fun _ => False) w8 w10 by rw [hw10]; exact HU9.out.alloc _)
          clear hw10
          go_wp2
          go_roundg (m2 - (k + 1))
          case measure => omega
          case rel => exact ⟨k + 1, by omega, rfl, congrArg _ (by omega), HU10.out⟩
        · obtain rfl : k = m2 := by omega
          go_wp2
          go_meet
          case rel => exact HU8.out.trans HDU.out
  case rest =>
    have HU6 := Lib.hid hcut
    have HBM6 := Lib.hid (HBM.out.kept hcut)
    have hdec := decode_any2 wc HBM6.out HCB.out (by rw [HCL.out]; have := HM2.out; omega)
    obtain ⟨Z, hZ⟩ : ∃ Z, Z = (decF cs).1 := ⟨_, rfl⟩
    obtain ⟨E2, hE2⟩ : ∃ E2, E2 = (decF cs).2 := ⟨_, rfl⟩
    rw [← hZ, ← hE2] at hdec
    have HDEC := Lib.hid hdec; have HZ := Lib.hid hZ; have HE2 := Lib.hid hE2
    clear hcut hdec hZ hE2 HS5 HX5
    go_wp2_with (go_at_call 27; fail)
    refine HDEC.out.mono ?_
    rintro e w7 ⟨a3, c3, rfl, hs3, hf3, hal3, hu7⟩
    have HS7 := Lib.hid hs3; have HF7 := Lib.hid hf3; have HAL7 := Lib.hid hal3; have HU7 := Lib.hid (HU6.out.trans hu7)
    have HB7 := Lib.hid (HBM6.out.kept hu7)
    clear hs3 hf3 hal3 hu7 HDEC
    simp only []
    go_upto_region 17 with fail
    obtain ⟨w8, hw8⟩ : ∃ w8, w8 = w7.alloc (.cells #[.int .u64 Z.epoch, .bool Z.large, .slice a3 Z.sets.length c3] 56) := ⟨_, rfl⟩
    rw [← hw8]
    have hu8 : Upd (fun _ => False) w7 w8 := by rw [hw8]; exact (Upd.refl _ w7).alloc _
    have hx8 : w8.heap[w7.heap.size]? = some (.cells #[.int .u64 Z.epoch, .bool Z.large, .slice a3 Z.sets.length c3] 56 (0, 0)) := by rw [hw8]; exact alloc_at rfl
    have HS8 := Lib.hid (HS7.out.kept hu8); have HU8 := Lib.hid (HU7.out.trans hu8); have HB8 := Lib.hid (HB7.out.kept hu8)
    have HAL8 := Lib.hid (show ∀ b o, a3 = some ⟨b, o, none⟩ → b < w8.heap.size from fun b o e => Nat.lt_of_lt_of_le (HAL7.out b o e).2 hu8.size)
    generalize w7.heap.size = t12 at hx8 ⊢
    obtain ⟨x0, x1, x2⟩ := cells3_of hx8
    have HX8 := Lib.hid hx8
    clear hw8 hu8 hx8 HS7 HB7 HAL7
    rcases dec_err cs with hz | ⟨hz1, hz2⟩
    · have hE0 : E2 = 0 := by rw [HE2.out]; exact hz
      obtain ⟨hed1, hed2⟩ := enc_dec HCB.out hz
      rw [← HZ.out] at hed1 hed2
      have HED := Lib.hid hed1; have HZR := Lib.hid hed2
      have hzk : Z.Ok := ⟨by rw [HZ.out]; exact dec_epoch HCB.out, fun x hx => ⟨(HF7.out x hx).2.2.2.1, (HF7.out x hx).2.2.2.2⟩⟩
      have HENC := Lib.hid (encode_any (c := c3) (B := Z) w8 HS8.out (by have := (BatchV.right_sets hed2).2.1; omega) hzk HAL8.out)
      unfold batchV EncodeAns at HENC
      rw [hed2, hed1] at HENC
      simp only [if_true] at HENC
      subst hE0
      clear hz hed1 hed2 hzk
      go_wp2_with (go_at_call 21; fail)
      refine HENC.out.mono ?_
      rintro e w9 ⟨hu9, u, rfl, ho⟩
      obtain ⟨ua, uc, rfl, _⟩ := ho.bytesAt.1.slice
      have HO := Lib.hid ho; have HU9 := Lib.hid (HU8.out.trans hu9); have HB9 := Lib.hid (HB8.out.kept hu9)
      clear ho hu9 HENC x0 x1 x2
      simp only []
      go_wp2_with (go_at_call 24; fail)
      refine (equal_any w9 HO.out.bytesAt.1.bytesIn HB9.out HCB.out HCB.out).mono ?_
      rintro e w10 ⟨rfl, rfl⟩
      have hbb : (cs == cs) = true := by simp
      rw [hbb]
      simp only []
      go_wp2
      go_ret
      exact ⟨rfl, HU9.out⟩
    · have hE0 : ¬ E2 = 0 := by rw [HE2.out]; omega
      have hz0 : Z = BatchV.zero := by rw [HZ.out]; exact hz1
      have hE1 : (E2 != 0) = true := by simpa using hE0
      have HE77 := Lib.hid (show E2 = 7 ∨ E2 = 2 by rw [HE2.out]; exact hz2)
      subst hz0
      clear hz1 hz2
      go_wp2_with (go_at_call 23; fail)
      refine (same_any2 (A := BatchV.zero) (B := BatchV.zero) (c := c3) (d := 0) (a := a3) (b := none) w8 HS8.out (fun i x hx => by simp [BatchV.zero] at hx) (by simp [BatchV.zero])).mono ?_
      rintro e w9 ⟨rs, rfl, hrs, hu9⟩
      have hrs' := hrs.2 rfl
      subst hrs'
      have HU9 := Lib.hid (HU8.out.trans hu9)
      clear hrs hu9 x0 x1 x2 hE0 hE1
      simp only []
      rcases HE77.out with h7 | h7
      · subst h7
        go_wp2
        go_ret
        exact ⟨rfl, HU9.out⟩
      · subst h7
        go_wp2
        go_ret
        exact ⟨rfl, HU9.out⟩
end Go.Proofs.YtbimkhdiplnbfaaGreat
