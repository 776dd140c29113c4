/- Walks: parts (an input's records, and whether each is emitted), Prefix. -/
import Derived.Test.YtbonfdkgkcbkmaaGreatW2
import Derived.Test.YtbonfdkgkcbkmaaGreatW4
import Derived.Test.YtbonfdkgkcbkmaaGreatW6
import Derived.Test.YtbonfdkgkcbkmaaGreatW7
import Derived.Test.YtbonfdkgkcbkmaaGreatW9
import Derived.Laws.MakeOwn
set_option linter.unusedVariables false
set_option linter.unusedSimpArgs false

section
namespace Go.Proofs.YtbonfdkgkcbkmaaGreat
set_option maxRecDepth 100000
set_option maxRecDepth 100000
open Go.RowKit Go.Shelf

attribute [local go_sem] Oper.semAt_some
def grpN (r : RecV) : Nat := r.key.toNat % 8
/-- Is a record emitted, behind those ahead of it? -/
def emitB (o : List Int) (pre : List RecV) (r : RecV) : Bool := decide (cnt (pre ++ [r]) (grpN r) ≤ o.getD (grpN r) 0)
def partFrom (o : List Int) : List RecV → List RecV → List (RecV × Bool)
  | _, [] => []
  | pre, r :: l => (r, emitB o pre r) :: partFrom o (pre ++ [r]) l
def partL (o : List Int) (recs : List RecV) : List (RecV × Bool) := partFrom o [] recs
/-- What parts reads. -/
structure PtAt (B xb ob : Nat) (src : Int) (ra : Option Addr) (rc : Nat) (recs : List RecV) (o : List Int) (W : World) : Prop where
  x : W.heap[xb]? = some (.cells #[.int .i64 src, .slice ra recs.length rc] 41 (0, 0))
  o : W.heap[ob]? = some (.cells (o.map I).toArray 43 (0, 0))
  rin : RecsIn W ra recs
  low : xb < B ∧ ob < B
  recb : recs ≠ [] → ∀ b f, ra = some ⟨b, f, none⟩ → b < B
theorem PtAt.kept {B xb ob : Nat} {src : Int} {ra : Option Addr} {rc : Nat} {recs : List RecV} {o : List Int} {W W' : World} {F : Nat → Prop} (h : PtAt B xb ob src ra rc recs o W) (hu : Upd F W W') (hF : ∀ k, F k → k ≠ xb ∧ k ≠ ob ∧ (recs ≠ [] → ∀ b f, ra = some ⟨b, f, none⟩ → k ≠ b)) : PtAt B xb ob src ra rc recs o W' := by
  have k : ∀ {j p}, ¬ F j → W.heap[j]? = some p → W'.heap[j]? = some p := fun hj hp => (hu.block _ (lt_of_heap hp) hj).trans hp
  refine ⟨k (fun e => (hF _ e).1 rfl) h.x, k (fun e => (hF _ e).2.1 rfl) h.o, fun i x hx => ?_, h.low, h.recb⟩
  obtain ⟨h0, b, f, e, hc⟩ := h.rin i x hx
  exact ⟨h0, b, f, e, fun t u ht => cell_keptF hu (fun e2 => (hF b e2).2.2 (fun e3 => by rw [e3] at hx; simp at hx) b f e rfl) (hc t u ht)⟩
theorem PtAt.keptB {B xb ob : Nat} {src : Int} {ra : Option Addr} {rc : Nat} {recs : List RecV} {o : List Int} {W W' : World} {F : Nat → Prop} (h : PtAt B xb ob src ra rc recs o W) (hu : Upd F W W') (hF : ∀ k, F k → B ≤ k) : PtAt B xb ob src ra rc recs o W' :=
  h.kept hu (fun k e => by
    have h1 := hF k e
    obtain ⟨l1, l2⟩ := h.low
    exact ⟨by omega, by omega, fun e3 b f e2 => by have := h.recb e3 b f e2; omega⟩)
theorem RecsIn.low {w : World} {ra : Option Addr} {recs : List RecV} (h : RecsIn w ra recs) (hn : recs ≠ []) : ∀ b f, ra = some ⟨b, f, none⟩ → b < w.heap.size := by
  intro b f e
  match recs, hn, h with
  | r :: l, _, h =>
    obtain ⟨_, b', o', e', hc⟩ := h 0 r.cells rfl
    rw [e] at e'
    injection e' with e'
    injection e' with e1
    subst e1
    exact lt_of_cell (hc 0 _ rfl)
def partT (B : Nat) : Nat → TypeId → Prop := fun k t => t = 43 ∧ B ≤ k

theorem noPanic_ret' {Q : Exit → Act → World → Prop} {a : Act} {w : World} (h : Q .ret a w) : noPanic Q .ret a w := h
theorem noPanic_end' {Q : Exit → Act → World → Prop} {a : Act} {w : World} (h : Q .normal a w) : noPanic Q .normal a w := h
set_option maxHeartbeats 8000000 in
theorem parts1_any {B xb ob : Nat} {src : Int} {ra : Option Addr} {rc : Nat} {recs : List RecV} {o : List Int} {Φb : Nat → TypeId → Prop} (hB : ∀ k t, Φb k t → t ≠ 43 ∧ k ≠ xb ∧ k ≠ ob ∧ (recs ≠ [] → ∀ b f, ra = some ⟨b, f, none⟩ → k ≠ b)) (hrl : recs.length < 1000) (hrk : ∀ r ∈ recs, 0 ≤ r.key ∧ r.key < 32) (hol : o.length = 8)
    (l : Nat) (J : List (RecV × Bool) → World → Prop) (Jx : World → Prop) (W : World) (hpt : PtAt B xb ob src ra rc recs o W) (hBW : B ≤ W.heap.size) (h0 : J [] W) (hJ : ∀ pre W W', B ≤ W.heap.size → J pre W → UpdT (partT B) W W' → J pre W') (hJx : ∀ W W', B ≤ W.heap.size → Jx W → UpdT (partT B) W W' → Jx W')
    (hY : ∀ pre x W1, B ≤ W1.heap.size → J pre W1 → pre.length < 1000 → (∃ rest, partL o recs = (pre ++ [x]) ++ rest) → YieldAt Fence.wide 3 Tryz.prog l #[.agg #[.int .i64 x.1.src, .int .i64 x.1.key, .int .i64 x.1.val], .bool x.2] W1 fun e W' => (e = .returned (.bool true) ∧ J (pre ++ [x]) W' ∧ UpdT Φb W1 W') ∨ (e = .returned (.bool false) ∧ Jx W')) :
    CallsIn Fence.wide 4 Tryz.prog 208 #[.func (.yield l) #[] #[], .pointer (some ⟨xb, 0, none⟩), .pointer (some ⟨ob, 0, none⟩)] W fun e W' => (∃ v, e = .returned v) ∧ ((∃ xs, xs = partL o recs ∧ J xs W') ∨ Jx W') := by
  have HY := Lib.hid hY; have HJ := Lib.hid hJ; have HJX := Lib.hid hJx; have HB := Lib.hid hB; have HRK := Lib.hid hrk; have HOL := Lib.hid hol
  obtain ⟨w1, hw1⟩ : ∃ w1, w1 = W.alloc (.cells #[.int .i64 0, .int .i64 0, .int .i64 0, .int .i64 0, .int .i64 0, .int .i64 0, .int .i64 0, .int .i64 0] 43) := ⟨_, rfl⟩
  obtain ⟨mb, hmb⟩ : ∃ mb, mb = W.heap.size := ⟨_, rfl⟩
  have hu1 : Upd0 W w1 := by rw [hw1]; exact (Upd.refl _ W).alloc _
  have HM1 := Lib.hid (show w1.heap[mb]? = some (.cells ((totT []).map I).toArray 43 (0, 0)) by rw [hw1]; exact alloc_at hmb)
  have HP1 := Lib.hid (hpt.kept hu1 (fun _ e => e.elim))
  have HJ1 := Lib.hid (hJ _ _ _ hBW h0 (UpdT.of0 hu1))
  have HBM := Lib.hid (show B ≤ mb by omega)
  have d1 := cells2_of HP1.out.x
  obtain ⟨d0, d1⟩ := d1
  clear hY hJ hJx hB hpt h0 hrk hol hBW hu1
  refine callsIn_of_wp Tryz.func208 rfl trivial ?_ rfl
  simp only [Tryz.ntmps208, List.size_toArray, List.length_cons, List.length_nil, Nat.reduceAdd, Nat.reduceSub, Array.replicate_succ, Array.replicate_zero, List.push_toArray, List.append_toArray, List.nil_append, List.cons_append]
  refine wpIn_mono ?_ noPanic_of
  refine wpIn_wide.2 ?_
  go_upto_region 1 with fail
  rw [← hw1, ← hmb]
  clear hw1 hmb
  go_wp2
  clear d0 d1
  go_loopw [11] (fun i wr => ∃ (k : Nat) (pre : List (RecV × Bool)), k ≤ recs.length ∧ i = .int .i64 k ∧ Hid (PtAt B xb ob src ra rc recs o wr) ∧ Hid (wr.heap[mb]? = some (.cells ((totT (recs.take k)).map I).toArray 43 (0, 0))) ∧ Hid (J pre wr) ∧ Hid (pre.length = k ∧ partL o recs = pre ++ partFrom o (recs.take k) (recs.drop k))) (fun i _ => recs.length - (intOf i).toNat)
  case atStart => exact ⟨0, [], Nat.zero_le _, rfl, HP1, HM1, HJ1, Lib.hid ⟨rfl, rfl⟩⟩
  case round =>
    clear HP1 HM1 HJ1
    obtain ⟨k, pre, hk, rfl, HP, HM, HJW, HPR⟩ := hrel
    by_cases hlt : k < recs.length
    · obtain ⟨r, hr⟩ : ∃ r, recs[k]? = some r := ⟨_, List.getElem?_eq_getElem hlt⟩
      obtain ⟨b1, o1, hra, c0, c1, c2⟩ := HP.out.rin.at hr
      obtain ⟨hk0, hk1⟩ := HRK.out r (List.mem_of_getElem? hr)
      have HTK : Hid (recs.take (k + 1) = recs.take k ++ [r]) := Lib.hid (take_cons' hr)
      have HPR2 : Hid (pre.length = k ∧ partL o recs = (pre ++ [(r, emitB o (recs.take k) r)]) ++ partFrom o (recs.take (k + 1)) (recs.drop (k + 1))) := by
        have := HPR.out
        rw [drop_cons' hr, partFrom, ← HTK.out] at this
        exact Lib.hid ⟨this.1, by rw [this.2]; simp⟩
      obtain ⟨em, hem⟩ : ∃ em, em = emitB o (recs.take k) r := ⟨_, rfl⟩
      rw [← hem] at HPR2
      have HEM := Lib.hid hem
      have HSN : Hid (totT (recs.take (k + 1)) = (totT (recs.take k)).set (grpN r) (cnt (recs.take k) (grpN r) + 1)) := Lib.hid (by rw [HTK.out, totT_snoc]; rfl)
      obtain ⟨g, hg⟩ : ∃ g, g = grpN r := ⟨_, rfl⟩
      have hg8 : g < 8 := by rw [hg]; exact Nat.mod_lt _ (by omega)
      obtain ⟨kn, hkn⟩ : ∃ kn : Nat, r.key = kn := ⟨r.key.toNat, by omega⟩
      have hrem : (kn : Int).tmod 8 = (g : Int) := by
        have : g = kn % 8 := by rw [hg, grpN, hkn]; simp
        rw [Int.tmod_eq_emod_of_nonneg (by omega)]; omega
      rw [hkn] at c1
      have HKN := Lib.hid hkn; have HG := Lib.hid hg
      rw [← hg] at HSN
      have hcc : wr.cell? ⟨mb, g, none⟩ = some (.int .i64 (cnt (recs.take k) g)) := by
        rw [cell_of_heap HM.out]
        simp [totT_at _ hg8]
      have hcb := cnt_le (recs.take k) g
      have hcl : (recs.take k).length < 1000 := by simp; omega
      have hfz : wr.frozen? ⟨mb, g, none⟩ = false := frozen_of_heap HM.out
      have hml := lt_of_heap HM.out
      have hbl : b1 < wr.heap.size := lt_of_cell c0
      have HMB := Lib.hid hml
      clear hr HPR hem hkn hg hk0 hk1
      subst hra
      go_upto_region 6 with fail
      obtain ⟨w7, hw7⟩ : ∃ w7, w7 = (wr.setCell ⟨mb, g, none⟩ (.int .i64 (cnt (recs.take k) g + 1))).alloc (.cells #[.int .i64 r.src, .int .i64 kn, .int .i64 r.val] 36) := ⟨_, rfl⟩
      rw [← hw7]
      have hu7 : Upd (fun j => j = mb) wr w7 := by rw [hw7]; exact (upd_own _ _ _ _).alloc _
      have HP7 := Lib.hid (HP.out.keptB hu7 (fun j e => by have := HBM.out; omega))
      have HM7 := Lib.hid (show w7.heap[mb]? = some (.cells ((totT (recs.take (k + 1))).map I).toArray 43 (0, 0)) by
        rw [hw7, HSN.out]
        have := blk_set (w := wr) (i := g) (v := .int .i64 (cnt (recs.take k) g + 1)) HM.out
        refine (alloc_lt (by simpa using HMB.out)).trans ?_
        simpa using this)
      have HR7 := Lib.hid (show w7.heap[wr.heap.size]? = some (.cells #[.int .i64 r.src, .int .i64 kn, .int .i64 r.val] 36 (0, 0)) by rw [hw7]; exact alloc_at (by simp))
      have HJ7 := Lib.hid (HJ.out _ _ _ (by have := HBM.out; have := HMB.out; omega) HJW.out (hu7.mono (fun j hj e => by subst e; exact ⟨_, _, _, HM.out, rfl, by have := HBM.out; omega⟩)))
      have HBW7 := Lib.hid (show B ≤ w7.heap.size by have := HBM.out; have := HMB.out; have := hu7.size; omega)
      obtain ⟨m1, hm1⟩ : ∃ m1, m1 = cnt (recs.take (k + 1)) g := ⟨_, rfl⟩
      obtain ⟨og, hog⟩ : ∃ og, og = o.getD g 0 := ⟨_, rfl⟩
      have HLE := Lib.hid (show decide (m1 ≤ og) = em by rw [hm1, hog, HEM.out, emitB, ← HG.out, HTK.out])
      have HCM := Lib.hid (show w7.cell? ⟨mb, g, none⟩ = some (.int .i64 m1) by rw [cell_of_heap HM7.out, hm1]; simp [totT_at _ hg8])
      have HCO := Lib.hid (show w7.cell? ⟨ob, g, none⟩ = some (.int .i64 og) by rw [cell_of_heap HP7.out.o, hog]; have := HOL.out; simp [List.getD, show g < o.length by omega])
      have hJy := HY.out pre (r, em) w7.drew HBW7.out (HJ.out _ _ _ HBW7.out HJ7.out (UpdT.of0 ((Upd.refl _ w7).drew))) (by have := HPR2.out.1; omega) ⟨_, HPR2.out.2⟩
      obtain ⟨fn, tmps, assign, body, hy, hR⟩ := hJy
      simp only [HKN.out] at hy
      have HRR := Lib.hid hR; have HYY := Lib.hid hy
      have hg8i : (g : Int) < 8 := by omega
      have hA : w7.drew = w7.drew := rfl
      clear hw7 hu7 hm1 hog hR hy HP HM HJW hcc hcb hcl hfz hml hbl c0 c1 c2
      refine (wpIn_wide (n := 4)).1 ?_
      refine wpIn_region_GI 9 (fun W' => W' = w7.drew) [false, false, false, false, false, false, false, false, false, false, false] rfl (by kernel_rfl) ?_
      refine wpGI_take (i := 0) (v := .func (.yield l) #[] #[]) rfl rfl (fun L hc h => (hc.waits (n := 9) (i := 0) (by kernel_rfl) h)) (by kernel_rfl) (fun _ _ _ h => h) hA (fun _ => rfl) (.inl ⟨rfl, fun w5 q1 => ?_⟩) ?_
      · go_simp
      simp only [Act.put, List.setIfInBounds_toArray, List.set]
      refine wpGI_take (i := 1) (v := .agg #[.int .i64 r.src, .int .i64 kn, .int .i64 r.val]) rfl rfl (fun L hc h => (hc.waits (n := 9) (i := 1) (by kernel_rfl) h)) (by kernel_rfl) (fun _ _ _ h => h) hA (fun _ => rfl) (.inl ⟨rfl, fun w5 q1 => ?_⟩) ?_
      · subst q1
        obtain ⟨c0, c1, c2⟩ := cells3_of (w := w7.drew) HR7.out
        go_simp
      simp only [Act.put, List.setIfInBounds_toArray, List.set]
      refine wpGI_take (i := 2) (v := .int .i64 g) rfl rfl (fun L hc h => (hc.waits (n := 9) (i := 8) (by kernel_rfl) (hc.waits (n := 8) (i := 4) (by kernel_rfl) (hc.waits (n := 4) (i := 3) (by kernel_rfl) (hc.waits (n := 3) (i := 2) (by kernel_rfl) h))))) (by kernel_rfl) (fun _ _ _ h => h) hA (fun _ => rfl) (.inl ⟨rfl, fun w5 q1 => ?_⟩) ?_
      · go_simp
      simp only [Act.put, List.setIfInBounds_toArray, List.set]
      refine wpGI_take (i := 3) (v := .pointer (some ⟨mb, g, none⟩)) rfl rfl (fun L hc h => (hc.waits (n := 9) (i := 8) (by kernel_rfl) (hc.waits (n := 8) (i := 4) (by kernel_rfl) (hc.waits (n := 4) (i := 3) (by kernel_rfl) h)))) (by kernel_rfl) (fun _ _ _ h => h) hA (fun _ => rfl) (.inl ⟨rfl, fun w5 q1 => ?_⟩) ?_
      · go_simp
      simp only [Act.put, List.setIfInBounds_toArray, List.set]
      refine wpGI_take (i := 4) (v := .int .i64 m1) rfl rfl (fun L hc h => (hc.waits (n := 9) (i := 8) (by kernel_rfl) (hc.waits (n := 8) (i := 4) (by kernel_rfl) h))) (by kernel_rfl) (fun _ _ _ h => h) hA (fun _ => rfl) (.inl ⟨rfl, fun w5 q1 => ?_⟩) ?_
      · subst q1
        have c5 : w7.drew.cell? ⟨mb, g, none⟩ = some (.int .i64 m1) := HCM.out
        go_simp
      simp only [Act.put, List.setIfInBounds_toArray, List.set]
      refine wpGI_take (i := 5) (v := .int .i64 g) rfl rfl (fun L hc h => (hc.waits (n := 9) (i := 8) (by kernel_rfl) (hc.waits (n := 8) (i := 7) (by kernel_rfl) (hc.waits (n := 7) (i := 6) (by kernel_rfl) (hc.waits (n := 6) (i := 5) (by kernel_rfl) h))))) (by kernel_rfl) (fun _ _ _ h => h) hA (fun _ => rfl) (.inl ⟨rfl, fun w5 q1 => ?_⟩) ?_
      · go_simp
      simp only [Act.put, List.setIfInBounds_toArray, List.set]
      refine wpGI_take (i := 6) (v := .pointer (some ⟨ob, g, none⟩)) rfl rfl (fun L hc h => (hc.waits (n := 9) (i := 8) (by kernel_rfl) (hc.waits (n := 8) (i := 7) (by kernel_rfl) (hc.waits (n := 7) (i := 6) (by kernel_rfl) h)))) (by kernel_rfl) (fun _ _ _ h => h) hA (fun _ => rfl) (.inl ⟨rfl, fun w5 q1 => ?_⟩) ?_
      · go_simp
      simp only [Act.put, List.setIfInBounds_toArray, List.set]
      refine wpGI_take (i := 7) (v := .int .i64 og) rfl rfl (fun L hc h => (hc.waits (n := 9) (i := 8) (by kernel_rfl) (hc.waits (n := 8) (i := 7) (by kernel_rfl) h))) (by kernel_rfl) (fun _ _ _ h => h) hA (fun _ => rfl) (.inl ⟨rfl, fun w5 q1 => ?_⟩) ?_
      · subst q1
        have c5 : w7.drew.cell? ⟨ob, g, none⟩ = some (.int .i64 og) := HCO.out
        go_simp
      simp only [Act.put, List.setIfInBounds_toArray, List.set]
      refine wpGI_take (i := 8) (v := .bool em) rfl rfl (fun L hc h => (hc.waits (n := 9) (i := 8) (by kernel_rfl) h)) (by kernel_rfl) (fun _ _ _ h => h) hA (fun _ => rfl) (.inl ⟨rfl, fun w5 q1 => ?_⟩) ?_
      · have hle := HLE.out
        go_simp
      simp only [Act.put, List.setIfInBounds_toArray, List.set]
      refine wpGI_doIf (i := 9) rfl (by kernel_rfl) rfl (fun K hK => ?_)
      have HKK := Lib.hid hK
      clear hK
      have hy := HYY.out
      gi_step
      refine HRR.out.mono ?_
      rintro e w8 (⟨rfl, hJ8, hu8⟩ | ⟨rfl, hx8⟩)
      · have HW7S := Lib.hid (show w7.heap.size = w7.drew.heap.size from rfl)
        have HP8 := Lib.hid (HP7.out.kept (W' := w8) (F := fun k => k ≠ xb ∧ k ≠ ob ∧ (recs ≠ [] → ∀ b f, (some (⟨b1, o1, none⟩ : Addr)) = some ⟨b, f, none⟩ → k ≠ b)) ((Upd.refl _ w7).drew.trans (hu8.mono (fun j _ ⟨cs, t, fr, _, p⟩ => (HB.out j t p).2))) (fun _ e => e))
        have HM8 := Lib.hid (hu8.keep HM7.out (fun cs t fr e p => by injection e with _ e; subst e; exact (HB.out _ _ p).1 rfl))
        have HJ8 := Lib.hid hJ8
        have HBW8 := Lib.hid (show B ≤ w8.heap.size by have := HBW7.out; have := hu8.size; have := HW7S.out; omega)
        clear hJ8 hu8 HP7 HM7 HJ7 hy HRR HLE
        simp only []
        refine HKK.out _ _ ⟨fun h => by simp at h, ?_⟩
        simp only [Act.put, List.setIfInBounds_toArray, List.set]
        refine wpGI_doIf (i := 10) rfl (by kernel_rfl) rfl (fun K hK => ?_)
        gi_step
        refine hK _ _ ⟨fun h => by simp at h, ?_⟩
        simp only [Act.put, List.setIfInBounds_toArray, List.set]
        refine wpGI_done rfl ?_
        go_wp2
        refine ⟨⟨k + 1, pre ++ [(r, em)], by omega, by go_num, HP8, HM8, HJ8, Lib.hid ⟨by have := HPR2.out.1; simp; omega, HPR2.out.2⟩⟩, by simp [intOf]; omega⟩
      · have HX8 := Lib.hid hx8
        clear hx8 HP7 HM7 HJ7 hy HRR HLE
        simp only []
        refine HKK.out _ _ ⟨fun h => by simp at h, ?_⟩
        simp only [Act.put, List.setIfInBounds_toArray, List.set]
        refine wpGI_doIf (i := 10) rfl (by kernel_rfl) rfl (fun K hK => ?_)
        gi_step
        refine hK _ _ ⟨fun h => by simp at h, ?_⟩
        simp only [Act.put, List.setIfInBounds_toArray, List.set]
        refine wpGI_done rfl ?_
        go_wp2
        exact noPanic_ret' (bodyPost_ret (results_none rfl _ _ _) rfl (And.intro ⟨_, rfl⟩ (.inr HX8.out)))
    · obtain rfl : k = recs.length := by omega
      have HPR2 := HPR
      rw [List.drop_of_length_le (Nat.le_refl _)] at HPR2
      go_wp2
      refine noPanic_end' (bodyPost_end (results_none rfl _ _ _) rfl (And.intro ⟨_, rfl⟩ (.inl ⟨pre, ?_, HJW.out⟩)))
      rw [HPR2.out.2, partFrom, List.append_nil]

theorem parts_any (x : InM) (o : List Int) (w : World) : Calls Tryz.prog 128 #[.agg #[.int .i64 x.src, .slice x.ra x.recs.length x.rc], .agg (o.map I).toArray] w fun e w' =>
    e = .returned (.func (.func 208) #[] #[.pointer (some ⟨w.heap.size, 0, none⟩), .pointer (some ⟨w.heap.size + 1, 0, none⟩)]) ∧
    w' = (w.alloc (.cells #[.int .i64 x.src, .slice x.ra x.recs.length x.rc] 41)).alloc (.cells (o.map I).toArray 43) := by
  go_enter Tryz.func128, Tryz.ntmps128
  go_wp2
  go_ret
  exact ⟨rfl, rfl⟩
end Go.Proofs.YtbonfdkgkcbkmaaGreat
end

section
namespace Go.Proofs.YtbonfdkgkcbkmaaGreat
set_option maxRecDepth 100000
set_option maxRecDepth 100000
open Go.RowKit Go.Shelf

attribute [local go_sem] Oper.semAt_some
theorem Tryz.info29p : (Tryz.prog.info? 36).map (fun i => (i.zero, i.size, i.bytes)) = some (some (.agg #[.int .i64 0, .int .i64 0, .int .i64 0]), 3, 24) := by kernel_rfl
def flat3 (l : List RecV) : List Value := l.flatMap RecV.cells
theorem flat3_length (l : List RecV) : (flat3 l).length = l.length * 3 := by
  induction l with
  | nil => rfl
  | cons r l ih => rw [flat3, List.flatMap_cons, List.length_append]; rw [flat3] at ih; rw [ih]; simp [RecV.cells]; omega
theorem flat3_snoc (l : List RecV) (r : RecV) : flat3 (l ++ [r]) = flat3 l ++ r.cells := by simp [flat3]
theorem flat3_at : ∀ {l : List RecV} {i : Nat} {r : RecV}, l[i]? = some r → ∀ t u, r.cells[t]? = some u → (flat3 l)[i * 3 + t]? = some u
  | [], _, _, h, _, _, _ => by simp at h
  | x :: l, 0, r, h, t, u, hu => by
    simp at h; subst h
    rw [flat3, List.flatMap_cons, List.getElem?_append_left (by have := (List.getElem?_eq_some_iff.1 hu).1; omega)]
    simpa using hu
  | x :: l, i + 1, r, h, t, u, hu => by
    have h3 : x.cells.length = 3 := rfl
    rw [flat3, List.flatMap_cons, List.getElem?_append_right (by omega), h3, show (i + 1) * 3 + t - 3 = i * 3 + t by omega]
    exact flat3_at (l := l) (by simpa using h) t u hu
/-- Records in a row of one's own. -/
abbrev OwnR (w : World) (B : Nat) (v : Value) (l : List RecV) : Prop := w.ownsRow B 36 3 v l.length (flat3 l)
theorem OwnR.in' {w : World} {B : Nat} {a : Option Addr} {n c : Nat} {l : List RecV} (h : w.ownsRow B 36 3 (.slice a n c) n (flat3 l)) (hn : n = l.length) : RecsIn w a l := by
  subst hn
  intro i x hx
  rw [List.getElem?_map, Option.map_eq_some_iff] at hx
  obtain ⟨r, hr, rfl⟩ := hx
  have hb := flat3_at hr 0 _ rfl
  obtain ⟨g, e1, _⟩ := row_cell h (flat3_length l) hb
  refine ⟨rfl, g, 0, e1, fun t u hu => ?_⟩
  obtain ⟨g', e2, hc⟩ := row_cell h (flat3_length l) (flat3_at hr t u hu)
  rw [e1] at e2
  injection e2 with e2
  injection e2 with e2
  subst e2
  simpa using hc

/-- The records of those that are emitted. -/
def emL (l : List (RecV × Bool)) : List RecV := l.filterMap fun x => if x.2 then some x.1 else none
theorem emL_yes (l : List (RecV × Bool)) (r : RecV) : emL (l ++ [(r, true)]) = emL l ++ [r] := by simp [emL]
/-- What holds between the rounds of Prefix. -/
structure PreAt (Φ : Nat → TypeId → Prop) (w : World) (bx : Nat) (pre : List (RecV × Bool)) (W : World) : Prop where
  out : ∃ a c, W.heap[bx]? = some (.cells #[.slice a (emL pre).length c] 39 (0, 0)) ∧ OwnR W (bx + 3) (.slice a (emL pre).length c) (emL pre)
  upd : UpdT Φ w W
  up : w.heap.size ≤ bx
/-- What its body may write. -/
def preB (bx : Nat) : Nat → TypeId → Prop := fun k t => (k = bx ∧ t = 39) ∨ (bx + 3 ≤ k ∧ t = 36)

theorem PreAt.box {w W w4 : World} {bx : Nat} {l : List RecV} {r : RecV} {a : Option Addr} {c : Nat} (h1 : W.heap[bx]? = some (.cells #[.slice a l.length c] 39 (0, 0))) (h2 : OwnR W (bx + 3) (.slice a l.length c) l) (hgrow : (W.alloc (.cells r.cells.toArray 36)).grownBy w4 (Value.slice a l.length c).ownBlock) :
    w4.heap[bx]? = some (.cells #[.slice a l.length c] 39 (0, 0)) :=
  (hgrow.block _ (by simp; have := lt_of_heap h1; omega) (fun e => by have := (World.ownsRow.lt h2 _ e.symm).1; omega)).trans ((alloc_lt (lt_of_heap h1)).trans h1)
theorem PreAt.more {Φ : Nat → TypeId → Prop} {w W w4 : World} {bx : Nat} {pre : List (RecV × Bool)} {r : RecV} {a : Option Addr} {c g4 cap4 : Nat} (hup : w.heap.size ≤ bx) (h1 : W.heap[bx]? = some (.cells #[.slice a (emL pre).length c] 39 (0, 0))) (h2 : OwnR W (bx + 3) (.slice a (emL pre).length c) (emL pre)) (h3 : UpdT Φ w W)
    (hown4 : w4.ownsRow (bx + 3) 36 3 (.slice (some ⟨g4, 0, none⟩) ((emL pre).length + 1) cap4) ((emL pre).length + 1) (flat3 (emL pre) ++ r.cells)) (hgrow : (W.alloc (.cells r.cells.toArray 36)).grownBy w4 (Value.slice a (emL pre).length c).ownBlock) :
    PreAt Φ w bx (pre ++ [(r, true)]) (w4.setCell ⟨bx, 0, none⟩ (.slice (some ⟨g4, 0, none⟩) ((emL pre).length + 1) cap4)) ∧ UpdT (preB bx) W (w4.setCell ⟨bx, 0, none⟩ (.slice (some ⟨g4, 0, none⟩) ((emL pre).length + 1) cap4)) := by
  have hv : ∀ k, (Value.slice a (emL pre).length c).ownBlock = some k → bx + 3 ≤ k := fun k hk => (World.ownsRow.lt h2 k hk).1
  have hbx : w4.heap[bx]? = some (.cells #[.slice a (emL pre).length c] 39 (0, 0)) := PreAt.box (w := w) h1 h2 hgrow
  have hg4 : bx + 3 ≤ g4 := (World.ownsRow.lt hown4 g4 rfl).1
  have hua : Upd (fun k => (Value.slice a (emL pre).length c).ownBlock = some k) W w4 := ((Upd.refl _ W).alloc _).trans (Upd.of_grown hgrow (fun k hk => hk))
  have hub : Upd (fun k => (Value.slice a (emL pre).length c).ownBlock = some k ∨ k = bx) W (w4.setCell ⟨bx, 0, none⟩ (.slice (some ⟨g4, 0, none⟩) ((emL pre).length + 1) cap4)) :=
    (hua.mono (fun _ _ e => .inl e)).trans ((upd_own w4 bx 0 _).mono (fun _ _ e => .inr e))
  have hln : (emL (pre ++ [(r, true)])).length = (emL pre).length + 1 := by rw [emL_yes]; simp
  refine ⟨⟨⟨some ⟨g4, 0, none⟩, cap4, ?_, ?_⟩, ?_, hup⟩, ?_⟩
  · rw [hln]
    have := blk_set (i := 0) (v := .slice (some ⟨g4, 0, none⟩) ((emL pre).length + 1) cap4) hbx
    simpa using this
  · show World.ownsRow _ _ _ _ _ _ _
    rw [hln, emL_yes, flat3_snoc]
    refine ownsRow_heap hown4 (fun k hk => ?_)
    simp only [Value.ownBlock, Option.some.injEq] at hk
    exact set_ne (by show k ≠ bx; omega)
  · refine h3.own hub (fun k hk => ?_)
    rcases hk with hk | hk
    · have := hv k hk; omega
    · omega
  · refine hub.mono (fun k hk e => ?_)
    rcases e with e | e
    · obtain ⟨cur, hcur⟩ := ownsRow_at h2 e
      exact ⟨_, _, _, hcur, .inr ⟨by have := hv k e; omega, rfl⟩⟩
    · subst e
      exact ⟨_, _, _, h1, .inl ⟨rfl, rfl⟩⟩

theorem chkOff_zero {x : InM} {o : List Int} (h : chkOff x o = 0) : x.recs.length ≤ 40 ∧ 0 ≤ x.src ∧ x.src < 8 ∧ ∀ r ∈ x.recs, (0 ≤ r.key ∧ r.key < 32) ∧ r.src = x.src := by
  unfold chkOff at h
  split at h
  · omega
  · rename_i h1; exact chkIn_zero (by omega)
theorem eight {o : List Int} (h : o.length = 8) : ∃ o0 o1 o2 o3 o4 o5 o6 o7, (o.map I).toArray = #[.int .i64 o0, .int .i64 o1, .int .i64 o2, .int .i64 o3, .int .i64 o4, .int .i64 o5, .int .i64 o6, .int .i64 o7] := by
  match o, h with
  | [o0, o1, o2, o3, o4, o5, o6, o7], _ => exact ⟨o0, o1, o2, o3, o4, o5, o6, o7, rfl⟩
end Go.Proofs.YtbonfdkgkcbkmaaGreat
end

section
namespace Go.Proofs.YtbonfdkgkcbkmaaGreat
set_option maxRecDepth 100000
set_option maxRecDepth 100000
open Go.RowKit Go.Shelf

/-- A place in memory: offsets by inputs. -/
def AtIn (w : World) (a : Option Addr) (ats : List (List Int)) : Prop := Row 8 w a (ats.map fun o => o.map I)
theorem AtIn.kept {w w' : World} {a : Option Addr} {l : List (List Int)} (h : AtIn w a l) (hu : Upd0 w w') : AtIn w' a l := Row.kept h hu
theorem AtIn.len {w : World} {a : Option Addr} {l : List (List Int)} (h : AtIn w a l) : ∀ o ∈ l, o.length = 8 := fun o ho => by
  obtain ⟨i, hi⟩ := List.getElem?_of_mem ho
  obtain ⟨h1, _⟩ := h i (o.map I) (by rw [List.getElem?_map, hi]; rfl)
  simpa using h1
theorem AtIn.at {w : World} {a : Option Addr} {ats : List (List Int)} (h : AtIn w a ats) {i : Nat} {o : List Int} (hi : ats[i]? = some o) : ∃ b f o0 o1 o2 o3 o4 o5 o6 o7, a = some ⟨b, f, none⟩ ∧ (o.map I).toArray = #[.int .i64 o0, .int .i64 o1, .int .i64 o2, .int .i64 o3, .int .i64 o4, .int .i64 o5, .int .i64 o6, .int .i64 o7] ∧
    w.cell? ⟨b, f + i * 8, none⟩ = some (.int .i64 o0) ∧ w.cell? ⟨b, f + i * 8 + 1, none⟩ = some (.int .i64 o1) ∧ w.cell? ⟨b, f + i * 8 + 2, none⟩ = some (.int .i64 o2) ∧ w.cell? ⟨b, f + i * 8 + 3, none⟩ = some (.int .i64 o3) ∧ w.cell? ⟨b, f + i * 8 + 4, none⟩ = some (.int .i64 o4) ∧ w.cell? ⟨b, f + i * 8 + 5, none⟩ = some (.int .i64 o5) ∧ w.cell? ⟨b, f + i * 8 + 6, none⟩ = some (.int .i64 o6) ∧ w.cell? ⟨b, f + i * 8 + 7, none⟩ = some (.int .i64 o7) := by
  obtain ⟨_, b, f, e, hc⟩ := h i (o.map I) (by rw [List.getElem?_map, hi]; rfl)
  obtain ⟨o0, o1, o2, o3, o4, o5, o6, o7, he⟩ := eight (h.len o (List.mem_of_getElem? hi))
  have hm : o.map I = [.int .i64 o0, .int .i64 o1, .int .i64 o2, .int .i64 o3, .int .i64 o4, .int .i64 o5, .int .i64 o6, .int .i64 o7] := by have := congrArg Array.toList he; simpa using this
  rw [hm] at hc
  refine ⟨b, f, o0, o1, o2, o3, o4, o5, o6, o7, e, he, ?_, ?_, ?_, ?_, ?_, ?_, ?_, ?_⟩
  · simpa [Nat.add_assoc] using hc 0 _ rfl
  · simpa [Nat.add_assoc] using hc 1 _ rfl
  · simpa [Nat.add_assoc] using hc 2 _ rfl
  · simpa [Nat.add_assoc] using hc 3 _ rfl
  · simpa [Nat.add_assoc] using hc 4 _ rfl
  · simpa [Nat.add_assoc] using hc 5 _ rfl
  · simpa [Nat.add_assoc] using hc 6 _ rfl
  · simpa [Nat.add_assoc] using hc 7 _ rfl
attribute [local go_sem] Oper.semAt_some
end Go.Proofs.YtbonfdkgkcbkmaaGreat
end

section
namespace Go.Proofs.YtbonfdkgkcbkmaaGreat
set_option maxRecDepth 100000
open Go.RowKit Go.Shelf

attribute [local go_sem] Oper.semAt_some
/-- The subtasks of an operator. -/
def subs1 (i : Nat) (o : OpM) : List (Int × Int) := (List.range o.width.toNat).map fun k : Nat => ((i : Int), (k : Int))
/-- The subtasks of operators from a number on. -/
def subsF (i : Nat) : List OpM → List (Int × Int)
  | [] => []
  | o :: l => subs1 i o ++ subsF (i + 1) l
def subsL (os : List OpM) : List (Int × Int) := subsF 0 os
theorem subs1_len (i : Nat) (o : OpM) : (subs1 i o).length = o.width.toNat := by simp [subs1]
theorem subsF_app : ∀ (l m : List OpM) (i : Nat), subsF i (l ++ m) = subsF i l ++ subsF (i + l.length) m
  | [], m, i => by simp [subsF]
  | o :: l, m, i => by
    rw [List.cons_append, subsF, subsF, subsF_app l m (i + 1), List.append_assoc, List.length_cons]
    congr 3
    omega
theorem subsL_take {os : List OpM} {k : Nat} {o : OpM} (h : os[k]? = some o) : subsL (os.take (k + 1)) = subsL (os.take k) ++ subs1 k o := by
  have hk := (List.getElem?_eq_some_iff.1 h).1
  rw [take_cons' h, subsL, subsL, subsF_app]
  simp only [subsF, List.append_nil, Nat.zero_add]
  rw [List.length_take, Nat.min_eq_left (by omega)]
theorem subsL_split {os : List OpM} {k : Nat} {o : OpM} (h : os[k]? = some o) : ∃ rest, subsL os = subsL (os.take k) ++ (subs1 k o ++ rest) := by
  have hk := (List.getElem?_eq_some_iff.1 h).1
  refine ⟨subsF (k + 1) (os.drop (k + 1)), ?_⟩
  have e : os = os.take k ++ o :: os.drop (k + 1) := by rw [← drop_cons' h, List.take_append_drop]
  conv => lhs; rw [e]
  rw [subsL, subsF_app, subsF, Nat.zero_add, List.length_take, Nat.min_eq_left (by omega)]
  rfl
theorem subs_any {oa : Option Addr} {os oc : Nat} (w : World) : Calls Tryz.prog 299 #[.agg #[.slice oa os oc]] w fun e w' => e = .returned (.func (.func 344) #[] #[.pointer (some ⟨w.heap.size, 0, none⟩)]) ∧ w' = w.alloc (.cells #[.slice oa os oc] 24) := by
  go_enter Tryz.func299, Tryz.ntmps299
  go_wp2
  go_ret
  exact ⟨rfl, rfl⟩
set_option maxHeartbeats 8000000 in
theorem subs1_any {oa : Option Addr} {os : List OpM} {oc gb B : Nat} (G : World → Prop) (hG : ∀ W, G W → OpsIn W oa os ∧ W.heap[gb]? = some (.cells #[.slice oa os.length oc] 24 (0, 0)) ∧ B ≤ W.heap.size) (hG0 : ∀ W W', G W → Upd0 W W' → G W') (hlo : os.length ≤ 1000) (hwd : ∀ o ∈ os, 0 ≤ o.width ∧ o.width ≤ 1000) {Φb : Nat → TypeId → Prop} (hGb : ∀ W W', G W → UpdT Φb W W' → G W')
    (l : Nat) (J : List (Int × Int) → World → Prop) (Jx : World → Prop) (W : World) (hu0 : G W) (h0 : J [] W) (hJ : ∀ pre W W', B ≤ W.heap.size → J pre W → Upd0 W W' → J pre W')
    (hY : ∀ pre x W1, G W1 → J pre W1 → (∃ rest, subsL os = (pre ++ [x]) ++ rest) → YieldAt Fence.wide 3 Tryz.prog l #[.int .i64 pre.length, .agg #[.int .i64 x.1, .int .i64 x.2]] W1 fun e W' => (e = .returned (.bool true) ∧ J (pre ++ [x]) W' ∧ UpdT Φb W1 W') ∨ (e = .returned (.bool false) ∧ Jx W')) :
    CallsIn Fence.wide 4 Tryz.prog 344 #[.func (.yield l) #[] #[], .pointer (some ⟨gb, 0, none⟩)] W fun e W' => (∃ v, e = .returned v) ∧ ((∃ ks, ks = subsL os ∧ J ks W') ∨ Jx W') := by
  have HY := Lib.hid hY; have HJ := Lib.hid hJ; have HG := Lib.hid hG; have HG0 := Lib.hid hG0; have HGB := Lib.hid hGb; have HWD := Lib.hid hwd
  have HU0 := Lib.hid hu0; have HJ0 := Lib.hid h0
  have c0 := cells1_of (hG W hu0).2.1
  clear hY hJ hG hG0 hGb hwd hu0 h0
  refine callsIn_of_wp Tryz.func344 rfl trivial ?_ rfl
  simp only [Tryz.ntmps344, List.size_toArray, List.length_cons, List.length_nil, Nat.reduceAdd, Nat.reduceSub, Array.replicate_succ, Array.replicate_zero, List.push_toArray, List.append_toArray, List.nil_append, List.cons_append]
  refine wpIn_mono ?_ noPanic_of
  refine wpIn_wide.2 ?_
  go_wp2
  clear c0
  go_loopw [3, 10] (fun c i wr => ∃ k : Nat, k ≤ os.length ∧ i = .int .i64 k ∧ (∃ n : Nat, c = .int .i64 n ∧ n ≤ 1000 * k ∧ Hid (n = (subsL (os.take k)).length)) ∧ Hid (G wr) ∧ Hid (J (subsL (os.take k)) wr)) (fun _ i _ => os.length - (intOf i).toNat)
  case atStart => exact ⟨0, Nat.zero_le _, rfl, ⟨0, rfl, Nat.zero_le _, Lib.hid rfl⟩, HU0, HJ0⟩
  case round =>
    clear HU0 HJ0
    obtain ⟨k, hk, rfl, ⟨n, rfl, hnk, HN⟩, HU, HJW⟩ := hrel
    by_cases hlt : k < os.length
    · obtain ⟨o, ho⟩ : ∃ o, os[k]? = some o := ⟨_, List.getElem?_eq_getElem hlt⟩
      obtain ⟨⟨b1, f1, rfl, d0, d1, d2, d3, d4⟩, _⟩ := (HG.out _ HU.out).1.at ho
      have hwo := HWD.out o (List.mem_of_getElem? ho)
      have HO := Lib.hid ho
      have hbl : b1 < wr.heap.size := lt_of_cell d0
      obtain ⟨w1, hw1⟩ : ∃ w1, w1 = wr.alloc (.cells #[.int .i64 o.tag, .int .i64 o.width, .slice o.ia o.ins.length o.ic, .int .i64 o.a, .int .i64 o.b] 89) := ⟨_, rfl⟩
      have hu1 : Upd0 wr w1 := by rw [hw1]; exact (Upd.refl _ wr).alloc _
      have hx1 : w1.heap[wr.heap.size]? = some (.cells #[.int .i64 o.tag, .int .i64 o.width, .slice o.ia o.ins.length o.ic, .int .i64 o.a, .int .i64 o.b] 89 (0, 0)) := by rw [hw1]; exact alloc_at rfl
      have HU1 := Lib.hid (HG0.out _ _ HU.out hu1)
      have HJ1 := Lib.hid (HJ.out _ _ _ (HG.out _ HU.out).2.2 HJW.out hu1)
      obtain ⟨e0, e1, e2, e3, e4⟩ := cells5_of hx1
      clear ho hx1 hu1 HU HJW
      go_upto_region 4 with fail
      rw [← hw1]
      clear hw1 d0 d1 d2 d3 d4
      go_wp2_with (fail)
      clear e0 e1 e2 e3 e4 hbl
      obtain ⟨wo, rfl⟩ : ∃ wo : World, wo = wr := ⟨_, rfl⟩
      obtain ⟨wd, hwdd⟩ : ∃ wd : Nat, o.width = wd := ⟨o.width.toNat, by omega⟩
      have HWDD := Lib.hid hwdd
      rw [hwdd] at hwo ⊢
      clear hwdd
      go_loopw [3, 17] (fun c i wr => ∃ j : Nat, j ≤ wd ∧ i = .int .i64 j ∧ (∃ m : Nat, c = .int .i64 m ∧ m ≤ 2000000 ∧ Hid (m = n + j)) ∧ Hid (G wr) ∧ Hid (J (subsL (os.take k) ++ (subs1 k o).take j) wr)) (fun _ i _ => wd - (intOf i).toNat)
      case atStart => exact ⟨0, Nat.zero_le _, rfl, ⟨n, rfl, by omega, Lib.hid rfl⟩, HU1, Lib.hid (by rw [List.take_zero, List.append_nil]; exact HJ1.out)⟩
      case round =>
        clear HU1 HJ1
        obtain ⟨j, hj, rfl, ⟨m, rfl, hm2, HM⟩, HU, HJW⟩ := hrel
        by_cases hlt2 : j < wd
        · have hx : (subs1 k o)[j]? = some ((k : Int), (j : Int)) := by
            rw [subs1, List.getElem?_map, List.getElem?_range (by rw [HWDD.out]; simpa using hlt2)]
            rfl
          have hpre : ∃ rest, subsL os = ((subsL (os.take k) ++ (subs1 k o).take j) ++ [((k : Int), (j : Int))]) ++ rest := by
            obtain ⟨rest, h1⟩ := subsL_split HO.out
            refine ⟨(subs1 k o).drop (j + 1) ++ rest, ?_⟩
            rw [h1]
            conv => lhs; rw [← List.take_append_drop j (subs1 k o), drop_cons' hx]
            simp
          have hlen : (subsL (os.take k) ++ (subs1 k o).take j).length = m := by
            rw [HM.out, List.length_append, ← HN.out, List.length_take, subs1_len, HWDD.out]
            simp; omega
          have hJy := HY.out _ ((k : Int), (j : Int)) wr HU.out HJW.out hpre
          rw [hlen] at hJy
          obtain ⟨fn, tmps, assign, body, hy, hR⟩ := hJy
          have HRR := Lib.hid hR
          have HXX := Lib.hid hx
          simp only at hy
          clear hR hx hpre hlen
          go_upto_region 7 with fail
          refine (wpIn_wide (n := 4)).1 ?_
          gi_wp2_with (fail)
          refine HRR.out.mono ?_
          rintro e w8 (⟨rfl, hJ8, hu8⟩ | ⟨rfl, hx8⟩)
          · have HU8 := Lib.hid (HGB.out _ _ HU.out hu8)
            have HJ8 := Lib.hid hJ8
            clear hJ8 hu8 HU hy HRR
            simp only []
            gi_wp2
            go_wp2
            go_roundw
            case rel =>
              refine ⟨j + 1, by omega, by go_num, ⟨m + 1, by go_num, by have := HM.out; omega, Lib.hid (by have := HM.out; omega)⟩, HU8, ?_⟩
              rw [take_cons' HXX.out, ← List.append_assoc]
              exact HJ8
            case measure => simp [intOf]; omega
          · have HX8 := Lib.hid hx8
            clear hx8 HU hy HRR
            simp only []
            gi_wp2
            go_wp2
            exact noPanic_ret' (bodyPost_ret (results_none rfl _ _ _) rfl (And.intro ⟨_, rfl⟩ (.inr HX8.out)))
        · obtain rfl : j = wd := by omega
          have HJ9 := Lib.hid (show J (subsL (os.take (k + 1))) wr by
            have h9 := HJW.out
            rw [List.take_of_length_le (l := subs1 k o) (by rw [subs1_len, HWDD.out]; simp), ← subsL_take HO.out] at h9
            exact h9)
          have HN9 := Lib.hid (show m = (subsL (os.take (k + 1))).length by
            rw [subsL_take HO.out, List.length_append, ← HN.out, subs1_len, HWDD.out, HM.out]; simp)
          clear HJW
          go_wp2
          go_roundw
          case rel => exact ⟨k + 1, by omega, by go_num, ⟨m, rfl, by have := HM.out; omega, HN9⟩, HU, HJ9⟩
          case measure => simp [intOf]; omega
    · obtain rfl : k = os.length := by omega
      rw [List.take_of_length_le (Nat.le_refl _)] at HJW
      go_wp2
      exact noPanic_end' (bodyPost_end (results_none rfl _ _ _) rfl (And.intro ⟨_, rfl⟩ (.inl ⟨_, rfl, HJW.out⟩)))
end Go.Proofs.YtbonfdkgkcbkmaaGreat
end

section
namespace Go.Proofs.YtbonfdkgkcbkmaaGreat
set_option maxRecDepth 100000
set_option maxRecDepth 100000
open Go.RowKit Go.Shelf

/-- What holds between the rounds: a row of numbers of some type, and nothing but new blocks changed. -/
structure RowE (ty : TypeId) (w : World) (B : Nat) (l : List Int) (a : Option Addr) (c : Nat) (W : World) : Prop where
  own : OwnI W B ty (.slice a l.length c) l
  upd : Upd0 w W
  low : w.heap.size ≤ B
theorem RowE.upd0 {ty : TypeId} {w : World} {B : Nat} {l : List Int} {a : Option Addr} {c : Nat} {W W' : World} (h : RowE ty w B l a c W) (hu : Upd0 W W') : RowE ty w B l a c W' := ⟨ownsRow_any h.own hu (fun _ _ e => e), h.upd.trans hu, h.low⟩
theorem RowE.snoc {ty : TypeId} {w : World} {B : Nat} {l : List Int} {z : Int} {a b : Option Addr} {c d n : Nat} {W W' : World} (h : RowE ty w B l a c W) (hown : W'.ownsRow B ty 1 (.slice b (n + 1) d) (n + 1) (l.map I ++ [.int .i64 z])) (hn : n = l.length) (hu : Upd (fun k => (Value.slice a n c).ownBlock = some k) W W') : RowE ty w B (l ++ [z]) b d W' :=
  ⟨OwnI.snoc' hown hn, h.upd.cut hu (fun k hk => by subst hn; have := (World.ownsRow.lt h.own k hk).1; have := h.low; omega), h.low⟩

def valsK (l : List RecV) (key : RecV) : List Int := (l.filter fun r => sameK r key).map (·.val)
theorem valsK_len (l : List RecV) (key : RecV) : (valsK l key).length ≤ l.length := by
  rw [valsK, List.length_map]; exact List.length_filter_le _ _

attribute [local go_sem] Oper.semAt_some
end Go.Proofs.YtbonfdkgkcbkmaaGreat
end

section
namespace Go.Proofs.YtbonfdkgkcbkmaaGreat
set_option maxRecDepth 100000
set_option maxRecDepth 100000
open Go.RowKit Go.Shelf

attribute [local go_sem] Oper.semAt_some
end Go.Proofs.YtbonfdkgkcbkmaaGreat
end

section
namespace Go.Proofs.YtbonfdkgkcbkmaaGreat
set_option maxRecDepth 100000
set_option maxRecDepth 100000
open Go.RowKit Go.Shelf

attribute [local go_sem] Oper.semAt_some run_store_func
theorem OwnI.low {w : World} {B : Nat} {e : TypeId} {a : Option Addr} {n c : Nat} {l : List Int} (h : w.ownsRow B e 1 (.slice a n c) n (l.map I)) : ∀ b f, a = some ⟨b, f, none⟩ → b < w.heap.size := by
  intro b f e1
  subst e1
  exact (World.ownsRow.lt h b rfl).2
/-- What comes reads. -/
structure CmAt (oa xa aa : Option Addr) (os : List OpM) (xs : List InM) (ats : List (List Int)) (oc xc ac wk ab kb fb : Nat) (key : RecV) (w : World) : Prop where
  wrk : WkIn w oa os oc xa xs
  rows : AtIn w aa ats
  bw : w.heap[wk]? = some (.cells #[.slice oa os.length oc, .slice xa xs.length xc] 27 (0, 0))
  ba : w.heap[ab]? = some (.cells #[.slice aa ats.length ac] 29 (0, 0))
  bk : w.heap[kb]? = some (.cells #[.int .i64 key.src, .int .i64 key.key, .int .i64 key.val] 36 (0, 0))
  bf : w.heap[fb]? = some (.cells #[.func (.func 135) #[] #[.pointer (some ⟨wk, 0, none⟩), .pointer (some ⟨ab, 0, none⟩), .pointer (some ⟨kb, 0, none⟩), .pointer (some ⟨fb, 0, none⟩)]] 238 (0, 0))
theorem CmAt.kept {oa xa aa : Option Addr} {os : List OpM} {xs : List InM} {ats : List (List Int)} {oc xc ac wk ab kb fb : Nat} {key : RecV} {w w' : World} (h : CmAt oa xa aa os xs ats oc xc ac wk ab kb fb key w) (hu : Upd0 w w') : CmAt oa xa aa os xs ats oc xc ac wk ab kb fb key w' :=
  have k : ∀ {j p}, w.heap[j]? = some p → w'.heap[j]? = some p := fun hp => (hu.block _ (lt_of_heap hp) (fun e => e)).trans hp
  ⟨h.wrk.kept hu, h.rows.kept hu, k h.bw, k h.ba, k h.bk, k h.bf⟩

end Go.Proofs.YtbonfdkgkcbkmaaGreat
end

section
namespace Go.Proofs.YtbonfdkgkcbkmaaGreat
set_option maxRecDepth 100000
set_option maxRecDepth 100000
open Go.RowKit Go.Shelf

attribute [local go_sem] Oper.semAt_some run_store_func run_store_nilf
/-- The boxes that the asking functions read. -/
structure AkAt (oa xa aa : Option Addr) (os : List OpM) (xs : List InM) (ats : List (List Int)) (oc xc ac wk ab nb kb : Nat) (n : Int) (key : RecV) (w : World) : Prop where
  wrk : WkIn w oa os oc xa xs
  rows : AtIn w aa ats
  bw : w.heap[wk]? = some (.cells #[.slice oa os.length oc, .slice xa xs.length xc] 27 (0, 0))
  ba : w.heap[ab]? = some (.cells #[.slice aa ats.length ac] 29 (0, 0))
  bn : w.heap[nb]? = some (.cells #[.int .i64 n] 3 (0, 0))
  bk : w.heap[kb]? = some (.cells #[.int .i64 key.src, .int .i64 key.key, .int .i64 key.val] 36 (0, 0))
theorem AkAt.kept {oa xa aa : Option Addr} {os : List OpM} {xs : List InM} {ats : List (List Int)} {oc xc ac wk ab nb kb : Nat} {n : Int} {key : RecV} {w w' : World} (h : AkAt oa xa aa os xs ats oc xc ac wk ab nb kb n key w) (hu : Upd0 w w') : AkAt oa xa aa os xs ats oc xc ac wk ab nb kb n key w' :=
  have k : ∀ {j p}, w.heap[j]? = some p → w'.heap[j]? = some p := fun hp => (hu.block _ (lt_of_heap hp) (fun e => e)).trans hp
  ⟨h.wrk.kept hu, h.rows.kept hu, k h.bw, k h.ba, k h.bn, k h.bk⟩

end Go.Proofs.YtbonfdkgkcbkmaaGreat
end

section
namespace Go.Proofs.YtbonfdkgkcbkmaaGreat
set_option maxRecDepth 100000
set_option maxRecDepth 100000
open Go.RowKit Go.Shelf

attribute [local go_sem] Oper.semAt_some run_store_func run_store_nilf
end Go.Proofs.YtbonfdkgkcbkmaaGreat
end

section
namespace Go.Proofs.YtbonfdkgkcbkmaaGreat
set_option maxRecDepth 100000
set_option maxRecDepth 100000
open Go.RowKit Go.Shelf

/-- A place in a block of its own. -/
structure AtBlk (W : World) (g : Nat) (ats : List (List Int)) : Prop where
  out : ∃ cs, W.heap[g]? = some (.cells cs 43 (0, 0)) ∧ cs.size = ats.length * 8 ∧ ∀ i o, ats[i]? = some o → o.length = 8 ∧ ∀ t z, o[t]? = some z → cs[i * 8 + t]? = some (I z)
theorem AtBlk.in' {W : World} {g : Nat} {ats : List (List Int)} (h : AtBlk W g ats) : AtIn W (some ⟨g, 0, none⟩) ats := by
  obtain ⟨cs, h1, _, h3⟩ := h.out
  intro i x hx
  rw [List.getElem?_map, Option.map_eq_some_iff] at hx
  obtain ⟨o, ho, rfl⟩ := hx
  obtain ⟨h4, h5⟩ := h3 i o ho
  refine ⟨by simpa using h4, g, 0, rfl, fun t u hu => ?_⟩
  rw [List.getElem?_map, Option.map_eq_some_iff] at hu
  obtain ⟨z, hz, rfl⟩ := hu
  rw [Nat.zero_add, cell_of_heap h1]
  exact h5 t z hz
theorem AtBlk.kept {W W' : World} {g : Nat} {ats : List (List Int)} (h : AtBlk W g ats) (hu : Upd0 W W') : AtBlk W' g ats := by
  obtain ⟨cs, h1, h2⟩ := h.out
  exact ⟨cs, (hu.block _ (lt_of_heap h1) (fun e => e)).trans h1, h2⟩
theorem AtBlk.put {W : World} {g k : Nat} {ats : List (List Int)} {z0 z1 z2 z3 z4 z5 z6 z7 : Int} (h : AtBlk W g ats) (hk : k < ats.length) :
    AtBlk ((((((((W.setCell ⟨g, k * 8, none⟩ (.int .i64 z0)).setCell ⟨g, k * 8 + 1, none⟩ (.int .i64 z1)).setCell ⟨g, k * 8 + 2, none⟩ (.int .i64 z2)).setCell ⟨g, k * 8 + 3, none⟩ (.int .i64 z3)).setCell ⟨g, k * 8 + 4, none⟩ (.int .i64 z4)).setCell ⟨g, k * 8 + 5, none⟩ (.int .i64 z5)).setCell ⟨g, k * 8 + 6, none⟩ (.int .i64 z6)).setCell ⟨g, k * 8 + 7, none⟩ (.int .i64 z7)) g (ats.set k [z0, z1, z2, z3, z4, z5, z6, z7]) := by
  obtain ⟨cs, h1, h2, h3⟩ := h.out
  have := blk_set (i := k * 8 + 7) (v := .int .i64 z7) (blk_set (i := k * 8 + 6) (v := .int .i64 z6) (blk_set (i := k * 8 + 5) (v := .int .i64 z5) (blk_set (i := k * 8 + 4) (v := .int .i64 z4) (blk_set (i := k * 8 + 3) (v := .int .i64 z3) (blk_set (i := k * 8 + 2) (v := .int .i64 z2) (blk_set (i := k * 8 + 1) (v := .int .i64 z1) (blk_set (i := k * 8) (v := .int .i64 z0) h1)))))))
  refine ⟨_, this, by simp [h2], fun i o ho => ?_⟩
  by_cases e : i = k
  · subst e
    rw [List.getElem?_set_self hk] at ho
    injection ho with ho
    subst ho
    refine ⟨rfl, fun t z ht => ?_⟩
    have htl : t < 8 := (List.getElem?_eq_some_iff.1 ht).1
    match t, htl, ht with
    | 0, _, ht => simp at ht; subst ht; simp [Array.getElem?_setIfInBounds]; omega
    | 1, _, ht => simp at ht; subst ht; simp [Array.getElem?_setIfInBounds]; omega
    | 2, _, ht => simp at ht; subst ht; simp [Array.getElem?_setIfInBounds]; omega
    | 3, _, ht => simp at ht; subst ht; simp [Array.getElem?_setIfInBounds]; omega
    | 4, _, ht => simp at ht; subst ht; simp [Array.getElem?_setIfInBounds]; omega
    | 5, _, ht => simp at ht; subst ht; simp [Array.getElem?_setIfInBounds]; omega
    | 6, _, ht => simp at ht; subst ht; simp [Array.getElem?_setIfInBounds]; omega
    | 7, _, ht => simp at ht; subst ht; simp [Array.getElem?_setIfInBounds]; omega
  · rw [List.getElem?_set_ne (Ne.symm e)] at ho
    obtain ⟨h4, h5⟩ := h3 i o ho
    refine ⟨h4, fun t z ht => ?_⟩
    have htl : t < 8 := by have := (List.getElem?_eq_some_iff.1 ht).1; omega
    have := h5 t z ht
    simp only [Array.getElem?_setIfInBounds]
    rw [if_neg (by omega), if_neg (by omega), if_neg (by omega), if_neg (by omega), if_neg (by omega), if_neg (by omega), if_neg (by omega), if_neg (by omega)]
    exact this
theorem AtBlk.zero {W : World} {g n : Nat} (h : W.heap[g]? = some (.cells (Array.replicate (n * 8) (.int .i64 0)) 43 (0, 0))) : AtBlk W g (List.replicate n zer8) := by
  refine ⟨_, h, by simp, fun i o ho => ?_⟩
  obtain ⟨h1, h2⟩ := List.getElem?_eq_some_iff.1 ho
  rw [List.getElem_replicate] at h2
  subst h2
  refine ⟨rfl, fun t z ht => ?_⟩
  have htl : t < 8 := (List.getElem?_eq_some_iff.1 ht).1
  simp only [List.length_replicate] at h1
  rw [Array.getElem?_replicate, if_pos (by omega)]
  match t, htl, ht with
  | 0, _, ht => simp [zer8] at ht; subst ht; rfl
  | 1, _, ht => simp [zer8] at ht; subst ht; rfl
  | 2, _, ht => simp [zer8] at ht; subst ht; rfl
  | 3, _, ht => simp [zer8] at ht; subst ht; rfl
  | 4, _, ht => simp [zer8] at ht; subst ht; rfl
  | 5, _, ht => simp [zer8] at ht; subst ht; rfl
  | 6, _, ht => simp [zer8] at ht; subst ht; rfl
  | 7, _, ht => simp [zer8] at ht; subst ht; rfl
end Go.Proofs.YtbonfdkgkcbkmaaGreat
end

