/- Walks: parts (an input's records, and whether each is emitted), Prefix. -/
import Derived.Test.YtbonfdkgkcbkmaaGreatU2
import Derived.Test.YtbonfdkgkcbkmaaGreatU4
import Derived.Test.YtbonfdkgkcbkmaaGreatU6
import Derived.Test.YtbonfdkgkcbkmaaGreatU7
import Derived.Test.YtbonfdkgkcbkmaaGreatU9
import Derived.Laws.MakeOwn
import Derived.Maps.AppendAt
set_option linter.unusedVariables false
set_option linter.unusedSimpArgs false

section
namespace Go.Proofs.YtbonfdkgkcbkmaaGreat
set_option maxRecDepth 100000
set_option maxRecDepth 100000
open Go.RowKit Go.Shelf

attribute [local go_sem] Oper.semAt_some
def grpN (r : RecV) : Nat := r.key.toNat % 8
/-- Is a record emitted, behind those ahead of it? -/
def emitB (o : List Int) (pre : List RecV) (r : RecV) : Bool := decide (cnt (pre ++ [r]) (grpN r) ≤ o.getD (grpN r) 0)
def partFrom (o : List Int) : List RecV → List RecV → List (RecV × Bool)
  | _, [] => []
  | pre, r :: l => (r, emitB o pre r) :: partFrom o (pre ++ [r]) l
def partL (o : List Int) (recs : List RecV) : List (RecV × Bool) := partFrom o [] recs
theorem partFrom_length (o : List Int) : ∀ (l pre : List RecV), (partFrom o pre l).length = l.length
  | [], _ => rfl
  | r :: l, pre => by rw [partFrom, List.length_cons, partFrom_length o l, List.length_cons]

/-- What parts reads. -/
structure PtAt (B xb ob : Nat) (src : Int) (ra : Option Addr) (rc : Nat) (recs : List RecV) (o : List Int) (W : World) : Prop where
  x : W.heap[xb]? = some (.cells #[.int .i64 src, .slice ra recs.length rc] 41 (0, 0))
  o : W.heap[ob]? = some (.cells (o.map I).toArray 43 (0, 0))
  rin : RecsIn W ra recs
  low : xb < B ∧ ob < B
  recb : recs ≠ [] → ∀ b f, ra = some ⟨b, f, none⟩ → b < B
theorem PtAt.kept {B xb ob : Nat} {src : Int} {ra : Option Addr} {rc : Nat} {recs : List RecV} {o : List Int} {W W' : World} {F : Nat → Prop} (h : PtAt B xb ob src ra rc recs o W) (hu : Upd F W W') (hF : ∀ k, F k → k ≠ xb ∧ k ≠ ob ∧ (recs ≠ [] → ∀ b f, ra = some ⟨b, f, none⟩ → k ≠ b)) : PtAt B xb ob src ra rc recs o W' := by
  have k : ∀ {j p}, ¬ F j → W.heap[j]? = some p → W'.heap[j]? = some p := fun hj hp => (hu.block _ (lt_of_heap hp) hj).trans hp
  refine ⟨k (fun e => (hF _ e).1 rfl) h.x, k (fun e => (hF _ e).2.1 rfl) h.o, fun i x hx => ?_, h.low, h.recb⟩
  obtain ⟨h0, b, f, e, hc⟩ := h.rin i x hx
  exact ⟨h0, b, f, e, fun t u ht => cell_keptF hu (fun e2 => (hF b e2).2.2 (fun e3 => by rw [e3] at hx; simp at hx) b f e rfl) (hc t u ht)⟩
theorem PtAt.keptB {B xb ob : Nat} {src : Int} {ra : Option Addr} {rc : Nat} {recs : List RecV} {o : List Int} {W W' : World} {F : Nat → Prop} (h : PtAt B xb ob src ra rc recs o W) (hu : Upd F W W') (hF : ∀ k, F k → B ≤ k) : PtAt B xb ob src ra rc recs o W' :=
  h.kept hu (fun k e => by
    have h1 := hF k e
    obtain ⟨l1, l2⟩ := h.low
    exact ⟨by omega, by omega, fun e3 b f e2 => by have := h.recb e3 b f e2; omega⟩)
theorem RecsIn.low {w : World} {ra : Option Addr} {recs : List RecV} (h : RecsIn w ra recs) (hn : recs ≠ []) : ∀ b f, ra = some ⟨b, f, none⟩ → b < w.heap.size := by
  intro b f e
  match recs, hn, h with
  | r :: l, _, h =>
    obtain ⟨_, b', o', e', hc⟩ := h 0 r.cells rfl
    rw [e] at e'
    injection e' with e'
    injection e' with e1
    subst e1
    exact lt_of_cell (hc 0 _ rfl)
def partT (B : Nat) : Nat → TypeId → Prop := fun k t => t = 43 ∧ B ≤ k

theorem noPanic_ret' {Q : Exit → Act → World → Prop} {a : Act} {w : World} (h : Q .ret a w) : noPanic Q .ret a w := h
theorem noPanic_end' {Q : Exit → Act → World → Prop} {a : Act} {w : World} (h : Q .normal a w) : noPanic Q .normal a w := h
set_option maxHeartbeats 8000000 in
theorem parts1_any {B xb ob : Nat} {src : Int} {ra : Option Addr} {rc : Nat} {recs : List RecV} {o : List Int} {Φb : Nat → TypeId → Prop} (hB : ∀ k t, Φb k t → t ≠ 43 ∧ k ≠ xb ∧ k ≠ ob ∧ (recs ≠ [] → ∀ b f, ra = some ⟨b, f, none⟩ → k ≠ b)) (hrl : recs.length < 1000) (hrk : ∀ r ∈ recs, 0 ≤ r.key ∧ r.key < 32) (hol : o.length = 8)
    (l : Nat) (J : List (RecV × Bool) → World → Prop) (Jx : World → Prop) (W : World) (hpt : PtAt B xb ob src ra rc recs o W) (hBW : B ≤ W.heap.size) (h0 : J [] W) (hJ : ∀ pre W W', B ≤ W.heap.size → J pre W → UpdT (partT B) W W' → J pre W') (hJx : ∀ W W', B ≤ W.heap.size → Jx W → UpdT (partT B) W W' → Jx W')
    (hY : ∀ pre x W1, B ≤ W1.heap.size → J pre W1 → pre.length < 1000 → (∃ rest, partL o recs = (pre ++ [x]) ++ rest) → YieldAt Fence.wide 3 Tryz.prog l #[.agg #[.int .i64 x.1.src, .int .i64 x.1.key, .int .i64 x.1.val], .bool x.2] W1 fun e W' => (e = .returned (.bool true) ∧ J (pre ++ [x]) W' ∧ UpdT Φb W1 W') ∨ (e = .returned (.bool false) ∧ Jx W')) :
    CallsIn Fence.wide 4 Tryz.prog 208 #[.func (.yield l) #[] #[], .pointer (some ⟨xb, 0, none⟩), .pointer (some ⟨ob, 0, none⟩)] W fun e W' => (∃ v, e = .returned v) ∧ ((∃ xs, xs = partL o recs ∧ J xs W') ∨ Jx W') := by
  have HY := Lib.hid hY; have HJ := Lib.hid hJ; have HJX := Lib.hid hJx; have HB := Lib.hid hB; have HRK := Lib.hid hrk; have HOL := Lib.hid hol
  obtain ⟨w1, hw1⟩ : ∃ w1, w1 = W.alloc (.cells #[.int .i64 0, .int .i64 0, .int .i64 0, .int .i64 0, .int .i64 0, .int .i64 0, .int .i64 0, .int .i64 0] 43) := ⟨_, rfl⟩
  obtain ⟨mb, hmb⟩ : ∃ mb, mb = W.heap.size := ⟨_, rfl⟩
  have hu1 : Upd0 W w1 := by rw [hw1]; exact (Upd.refl _ W).alloc _
  have HM1 := Lib.hid (show w1.heap[mb]? = some (.cells ((totT []).map I).toArray 43 (0, 0)) by rw [hw1]; exact alloc_at hmb)
  have HP1 := Lib.hid (hpt.kept hu1 (fun _ e => e.elim))
  have HJ1 := Lib.hid (hJ _ _ _ hBW h0 (UpdT.of0 hu1))
  have HBM := Lib.hid (show B ≤ mb by omega)
  have d1 := cells2_of HP1.out.x
  obtain ⟨d0, d1⟩ := d1
  clear hY hJ hJx hB hpt h0 hrk hol hBW hu1
  refine callsIn_of_wp Tryz.func208 rfl trivial ?_ rfl
  simp only [Tryz.ntmps208, List.size_toArray, List.length_cons, List.length_nil, Nat.reduceAdd, Nat.reduceSub, Array.replicate_succ, Array.replicate_zero, List.push_toArray, List.append_toArray, List.nil_append, List.cons_append]
  refine wpIn_mono ?_ noPanic_of
  refine wpIn_wide.2 ?_
  go_upto_region 1 with fail
  rw [← hw1, ← hmb]
  clear hw1 hmb
  go_wp2
  clear d0 d1
  go_loopw [11] (fun i wr => ∃ (k : Nat) (pre : List (RecV × Bool)), k ≤ recs.length ∧ i = .int .i64 k ∧ Hid (PtAt B xb ob src ra rc recs o wr) ∧ Hid (wr.heap[mb]? = some (.cells ((totT (recs.take k)).map I).toArray 43 (0, 0))) ∧ Hid (J pre wr) ∧ Hid (pre.length = k ∧ partL o recs = pre ++ partFrom o (recs.take k) (recs.drop k))) (fun i _ => recs.length - (intOf i).toNat)
  case atStart => exact ⟨0, [], Nat.zero_le _, rfl, HP1, HM1, HJ1, Lib.hid ⟨rfl, rfl⟩⟩
  case round =>
    clear HP1 HM1 HJ1
    obtain ⟨k, pre, hk, rfl, HP, HM, HJW, HPR⟩ := hrel
    by_cases hlt : k < recs.length
    · obtain ⟨r, hr⟩ : ∃ r, recs[k]? = some r := ⟨_, List.getElem?_eq_getElem hlt⟩
      obtain ⟨b1, o1, hra, c0, c1, c2⟩ := HP.out.rin.at hr
      obtain ⟨hk0, hk1⟩ := HRK.out r (List.mem_of_getElem? hr)
      have HTK : Hid (recs.take (k + 1) = recs.take k ++ [r]) := Lib.hid (take_cons' hr)
      have HPR2 : Hid (pre.length = k ∧ partL o recs = (pre ++ [(r, emitB o (recs.take k) r)]) ++ partFrom o (recs.take (k + 1)) (recs.drop (k + 1))) := by
        have := HPR.out
        rw [drop_cons' hr, partFrom, ← HTK.out] at this
        exact Lib.hid ⟨this.1, by rw [this.2]; simp⟩
      obtain ⟨em, hem⟩ : ∃ em, em = emitB o (recs.take k) r := ⟨_, rfl⟩
      rw [← hem] at HPR2
      have HEM := Lib.hid hem
      have HSN : Hid (totT (recs.take (k + 1)) = (totT (recs.take k)).set (grpN r) (cnt (recs.take k) (grpN r) + 1)) := Lib.hid (by rw [HTK.out, totT_snoc]; rfl)
      obtain ⟨g, hg⟩ : ∃ g, g = grpN r := ⟨_, rfl⟩
      have hg8 : g < 8 := by rw [hg]; exact Nat.mod_lt _ (by omega)
      obtain ⟨kn, hkn⟩ : ∃ kn : Nat, r.key = kn := ⟨r.key.toNat, by omega⟩
      have hrem : (kn : Int).tmod 8 = (g : Int) := by
        have : g = kn % 8 := by rw [hg, grpN, hkn]; simp
        rw [Int.tmod_eq_emod_of_nonneg (by omega)]; omega
      rw [hkn] at c1
      have HKN := Lib.hid hkn; have HG := Lib.hid hg
      rw [← hg] at HSN
      have hcc : wr.cell? ⟨mb, g, none⟩ = some (.int .i64 (cnt (recs.take k) g)) := by
        rw [cell_of_heap HM.out]
        simp [totT_at _ hg8]
      have hcb := cnt_le (recs.take k) g
      have hcl : (recs.take k).length < 1000 := by simp; omega
      have hfz : wr.frozen? ⟨mb, g, none⟩ = false := frozen_of_heap HM.out
      have hml := lt_of_heap HM.out
      have hbl : b1 < wr.heap.size := lt_of_cell c0
      have HMB := Lib.hid hml
      clear hr HPR hem hkn hg hk0 hk1
      subst hra
      go_upto_region 6 with fail
      obtain ⟨w7, hw7⟩ : ∃ w7, w7 = (wr.setCell ⟨mb, g, none⟩ (.int .i64 (cnt (recs.take k) g + 1))).alloc (.cells #[.int .i64 r.src, .int .i64 kn, .int .i64 r.val] 36) := ⟨_, rfl⟩
      rw [← hw7]
      have hu7 : Upd (fun j => j = mb) wr w7 := by rw [hw7]; exact (upd_own _ _ _ _).alloc _
      have HP7 := Lib.hid (HP.out.keptB hu7 (fun j e => by have := HBM.out; omega))
      have HM7 := Lib.hid (show w7.heap[mb]? = some (.cells ((totT (recs.take (k + 1))).map I).toArray 43 (0, 0)) by
        rw [hw7, HSN.out]
        have := blk_set (w := wr) (i := g) (v := .int .i64 (cnt (recs.take k) g + 1)) HM.out
        refine (alloc_lt (by simpa using HMB.out)).trans ?_
        simpa using this)
      have HR7 := Lib.hid (show w7.heap[wr.heap.size]? = some (.cells #[.int .i64 r.src, .int .i64 kn, .int .i64 r.val] 36 (0, 0)) by rw [hw7]; exact alloc_at (by simp))
      have HJ7 := Lib.hid (HJ.out _ _ _ (by have := HBM.out; have := HMB.out; omega) HJW.out (hu7.mono (fun j hj e => by subst e; exact ⟨_, _, _, HM.out, rfl, by have := HBM.out; omega⟩)))
      have HBW7 := Lib.hid (show B ≤ w7.heap.size by have := HBM.out; have := HMB.out; have := hu7.size; omega)
      obtain ⟨m1, hm1⟩ : ∃ m1, m1 = cnt (recs.take (k + 1)) g := ⟨_, rfl⟩
      obtain ⟨og, hog⟩ : ∃ og, og = o.getD g 0 := ⟨_, rfl⟩
      have HLE := Lib.hid (show decide (m1 ≤ og) = em by rw [hm1, hog, HEM.out, emitB, ← HG.out, HTK.out])
      have HCM := Lib.hid (show w7.cell? ⟨mb, g, none⟩ = some (.int .i64 m1) by rw [cell_of_heap HM7.out, hm1]; simp [totT_at _ hg8])
      have HCO := Lib.hid (show w7.cell? ⟨ob, g, none⟩ = some (.int .i64 og) by rw [cell_of_heap HP7.out.o, hog]; have := HOL.out; simp [List.getD, show g < o.length by omega])
      have hJy := HY.out pre (r, em) w7.drew HBW7.out (HJ.out _ _ _ HBW7.out HJ7.out (UpdT.of0 ((Upd.refl _ w7).drew))) (by have := HPR2.out.1; omega) ⟨_, HPR2.out.2⟩
      obtain ⟨fn, tmps, assign, body, hy, hR⟩ := hJy
      simp only [HKN.out] at hy
      have HRR := Lib.hid hR; have HYY := Lib.hid hy
      have hg8i : (g : Int) < 8 := by omega
      have hA : w7.drew = w7.drew := rfl
      clear hw7 hu7 hm1 hog hR hy HP HM HJW hcc hcb hcl hfz hml hbl c0 c1 c2
      refine (wpIn_wide (n := 4)).1 ?_
      refine wpIn_region_GI 9 (fun W' => W' = w7.drew) [false, false, false, false, false, false, false, false, false, false, false] rfl (by kernel_rfl) ?_
      refine wpGI_take (i := 0) (v := .func (.yield l) #[] #[]) rfl rfl (fun L hc h => (hc.waits (n := 9) (i := 0) (by kernel_rfl) h)) (by kernel_rfl) (fun _ _ _ h => h) hA (fun _ => rfl) (.inl ⟨rfl, fun w5 q1 => ?_⟩) ?_
      · go_simp
      simp only [Act.put, List.setIfInBounds_toArray, List.set]
      refine wpGI_take (i := 1) (v := .agg #[.int .i64 r.src, .int .i64 kn, .int .i64 r.val]) rfl rfl (fun L hc h => (hc.waits (n := 9) (i := 1) (by kernel_rfl) h)) (by kernel_rfl) (fun _ _ _ h => h) hA (fun _ => rfl) (.inl ⟨rfl, fun w5 q1 => ?_⟩) ?_
      · subst q1
        obtain ⟨c0, c1, c2⟩ := cells3_of (w := w7.drew) HR7.out
        go_simp
      simp only [Act.put, List.setIfInBounds_toArray, List.set]
      refine wpGI_take (i := 2) (v := .int .i64 g) rfl rfl (fun L hc h => (hc.waits (n := 9) (i := 8) (by kernel_rfl) (hc.waits (n := 8) (i := 4) (by kernel_rfl) (hc.waits (n := 4) (i := 3) (by kernel_rfl) (hc.waits (n := 3) (i := 2) (by kernel_rfl) h))))) (by kernel_rfl) (fun _ _ _ h => h) hA (fun _ => rfl) (.inl ⟨rfl, fun w5 q1 => ?_⟩) ?_
      · go_simp
      simp only [Act.put, List.setIfInBounds_toArray, List.set]
      refine wpGI_take (i := 3) (v := .pointer (some ⟨mb, g, none⟩)) rfl rfl (fun L hc h => (hc.waits (n := 9) (i := 8) (by kernel_rfl) (hc.waits (n := 8) (i := 4) (by kernel_rfl) (hc.waits (n := 4) (i := 3) (by kernel_rfl) h)))) (by kernel_rfl) (fun _ _ _ h => h) hA (fun _ => rfl) (.inl ⟨rfl, fun w5 q1 => ?_⟩) ?_
      · go_simp
      simp only [Act.put, List.setIfInBounds_toArray, List.set]
      refine wpGI_take (i := 4) (v := .int .i64 m1) rfl rfl (fun L hc h => (hc.waits (n := 9) (i := 8) (by kernel_rfl) (hc.waits (n := 8) (i := 4) (by kernel_rfl) h))) (by kernel_rfl) (fun _ _ _ h => h) hA (fun _ => rfl) (.inl ⟨rfl, fun w5 q1 => ?_⟩) ?_
      · subst q1
        have c5 : w7.drew.cell? ⟨mb, g, none⟩ = some (.int .i64 m1) := HCM.out
        go_simp
      simp only [Act.put, List.setIfInBounds_toArray, List.set]
      refine wpGI_take (i := 5) (v := .int .i64 g) rfl rfl (fun L hc h => (hc.waits (n := 9) (i := 8) (by kernel_rfl) (hc.waits (n := 8) (i := 7) (by kernel_rfl) (hc.waits (n := 7) (i := 6) (by kernel_rfl) (hc.waits (n := 6) (i := 5) (by kernel_rfl) h))))) (by kernel_rfl) (fun _ _ _ h => h) hA (fun _ => rfl) (.inl ⟨rfl, fun w5 q1 => ?_⟩) ?_
      · go_simp
      simp only [Act.put, List.setIfInBounds_toArray, List.set]
      refine wpGI_take (i := 6) (v := .pointer (some ⟨ob, g, none⟩)) rfl rfl (fun L hc h => (hc.waits (n := 9) (i := 8) (by kernel_rfl) (hc.waits (n := 8) (i := 7) (by kernel_rfl) (hc.waits (n := 7) (i := 6) (by kernel_rfl) h)))) (by kernel_rfl) (fun _ _ _ h => h) hA (fun _ => rfl) (.inl ⟨rfl, fun w5 q1 => ?_⟩) ?_
      · go_simp
      simp only [Act.put, List.setIfInBounds_toArray, List.set]
      refine wpGI_take (i := 7) (v := .int .i64 og) rfl rfl (fun L hc h => (hc.waits (n := 9) (i := 8) (by kernel_rfl) (hc.waits (n := 8) (i := 7) (by kernel_rfl) h))) (by kernel_rfl) (fun _ _ _ h => h) hA (fun _ => rfl) (.inl ⟨rfl, fun w5 q1 => ?_⟩) ?_
      · subst q1
        have c5 : w7.drew.cell? ⟨ob, g, none⟩ = some (.int .i64 og) := HCO.out
        go_simp
      simp only [Act.put, List.setIfInBounds_toArray, List.set]
      refine wpGI_take (i := 8) (v := .bool em) rfl rfl (fun L hc h => (hc.waits (n := 9) (i := 8) (by kernel_rfl) h)) (by kernel_rfl) (fun _ _ _ h => h) hA (fun _ => rfl) (.inl ⟨rfl, fun w5 q1 => ?_⟩) ?_
      · have hle := HLE.out
        go_simp
      simp only [Act.put, List.setIfInBounds_toArray, List.set]
      refine wpGI_doIf (i := 9) rfl (by kernel_rfl) rfl (fun K hK => ?_)
      have HKK := Lib.hid hK
      clear hK
      have hy := HYY.out
      gi_step
      refine HRR.out.mono ?_
      rintro e w8 (⟨rfl, hJ8, hu8⟩ | ⟨rfl, hx8⟩)
      · have HW7S := Lib.hid (show w7.heap.size = w7.drew.heap.size from rfl)
        have HP8 := Lib.hid (HP7.out.kept (W' := w8) (F := fun k => k ≠ xb ∧ k ≠ ob ∧ (recs ≠ [] → ∀ b f, (some (⟨b1, o1, none⟩ : Addr)) = some ⟨b, f, none⟩ → k ≠ b)) ((Upd.refl _ w7).drew.trans (hu8.mono (fun j _ ⟨cs, t, fr, _, p⟩ => (HB.out j t p).2))) (fun _ e => e))
        have HM8 := Lib.hid (hu8.keep HM7.out (fun cs t fr e p => by injection e with _ e; subst e; exact (HB.out _ _ p).1 rfl))
        have HJ8 := Lib.hid hJ8
        have HBW8 := Lib.hid (show B ≤ w8.heap.size by have := HBW7.out; have := hu8.size; have := HW7S.out; omega)
        clear hJ8 hu8 HP7 HM7 HJ7 hy HRR HLE
        simp only []
        refine HKK.out _ _ ⟨fun h => by simp at h, ?_⟩
        simp only [Act.put, List.setIfInBounds_toArray, List.set]
        refine wpGI_doIf (i := 10) rfl (by kernel_rfl) rfl (fun K hK => ?_)
        gi_step
        refine hK _ _ ⟨fun h => by simp at h, ?_⟩
        simp only [Act.put, List.setIfInBounds_toArray, List.set]
        refine wpGI_done rfl ?_
        go_wp2
        refine ⟨⟨k + 1, pre ++ [(r, em)], by omega, by go_num, HP8, HM8, HJ8, Lib.hid ⟨by have := HPR2.out.1; simp; omega, HPR2.out.2⟩⟩, by simp [intOf]; omega⟩
      · have HX8 := Lib.hid hx8
        clear hx8 HP7 HM7 HJ7 hy HRR HLE
        simp only []
        refine HKK.out _ _ ⟨fun h => by simp at h, ?_⟩
        simp only [Act.put, List.setIfInBounds_toArray, List.set]
        refine wpGI_doIf (i := 10) rfl (by kernel_rfl) rfl (fun K hK => ?_)
        gi_step
        refine hK _ _ ⟨fun h => by simp at h, ?_⟩
        simp only [Act.put, List.setIfInBounds_toArray, List.set]
        refine wpGI_done rfl ?_
        go_wp2
        exact noPanic_ret' (bodyPost_ret (results_none rfl _ _ _) rfl (And.intro ⟨_, rfl⟩ (.inr HX8.out)))
    · obtain rfl : k = recs.length := by omega
      have HPR2 := HPR
      rw [List.drop_of_length_le (Nat.le_refl _)] at HPR2
      go_wp2
      refine noPanic_end' (bodyPost_end (results_none rfl _ _ _) rfl (And.intro ⟨_, rfl⟩ (.inl ⟨pre, ?_, HJW.out⟩)))
      rw [HPR2.out.2, partFrom, List.append_nil]

theorem parts_any (x : InM) (o : List Int) (w : World) : Calls Tryz.prog 128 #[.agg #[.int .i64 x.src, .slice x.ra x.recs.length x.rc], .agg (o.map I).toArray] w fun e w' =>
    e = .returned (.func (.func 208) #[] #[.pointer (some ⟨w.heap.size, 0, none⟩), .pointer (some ⟨w.heap.size + 1, 0, none⟩)]) ∧
    w' = (w.alloc (.cells #[.int .i64 x.src, .slice x.ra x.recs.length x.rc] 41)).alloc (.cells (o.map I).toArray 43) := by
  go_enter Tryz.func128, Tryz.ntmps128
  go_wp2
  go_ret
  exact ⟨rfl, rfl⟩
end Go.Proofs.YtbonfdkgkcbkmaaGreat
end

section
namespace Go.Proofs.YtbonfdkgkcbkmaaGreat
set_option maxRecDepth 100000
set_option maxRecDepth 100000
open Go.RowKit Go.Shelf

attribute [local go_sem] Oper.semAt_some
theorem Tryz.info29p : (Tryz.prog.info? 36).map (fun i => (i.zero, i.size, i.bytes)) = some (some (.agg #[.int .i64 0, .int .i64 0, .int .i64 0]), 3, 24) := by kernel_rfl
def flat3 (l : List RecV) : List Value := l.flatMap RecV.cells
theorem flat3_length (l : List RecV) : (flat3 l).length = l.length * 3 := by
  induction l with
  | nil => rfl
  | cons r l ih => rw [flat3, List.flatMap_cons, List.length_append]; rw [flat3] at ih; rw [ih]; simp [RecV.cells]; omega
theorem flat3_snoc (l : List RecV) (r : RecV) : flat3 (l ++ [r]) = flat3 l ++ r.cells := by simp [flat3]
theorem flat3_at : ∀ {l : List RecV} {i : Nat} {r : RecV}, l[i]? = some r → ∀ t u, r.cells[t]? = some u → (flat3 l)[i * 3 + t]? = some u
  | [], _, _, h, _, _, _ => by simp at h
  | x :: l, 0, r, h, t, u, hu => by
    simp at h; subst h
    rw [flat3, List.flatMap_cons, List.getElem?_append_left (by have := (List.getElem?_eq_some_iff.1 hu).1; omega)]
    simpa using hu
  | x :: l, i + 1, r, h, t, u, hu => by
    have h3 : x.cells.length = 3 := rfl
    rw [flat3, List.flatMap_cons, List.getElem?_append_right (by omega), h3, show (i + 1) * 3 + t - 3 = i * 3 + t by omega]
    exact flat3_at (l := l) (by simpa using h) t u hu
/-- Records in a row of one's own. -/
abbrev OwnR (w : World) (B : Nat) (v : Value) (l : List RecV) : Prop := w.ownsRow B 36 3 v l.length (flat3 l)
theorem OwnR.in' {w : World} {B : Nat} {a : Option Addr} {n c : Nat} {l : List RecV} (h : w.ownsRow B 36 3 (.slice a n c) n (flat3 l)) (hn : n = l.length) : RecsIn w a l := by
  subst hn
  intro i x hx
  rw [List.getElem?_map, Option.map_eq_some_iff] at hx
  obtain ⟨r, hr, rfl⟩ := hx
  have hb := flat3_at hr 0 _ rfl
  obtain ⟨g, e1, _⟩ := row_cell h (flat3_length l) hb
  refine ⟨rfl, g, 0, e1, fun t u hu => ?_⟩
  obtain ⟨g', e2, hc⟩ := row_cell h (flat3_length l) (flat3_at hr t u hu)
  rw [e1] at e2
  injection e2 with e2
  injection e2 with e2
  subst e2
  simpa using hc

/-- The records of those that are emitted. -/
def emL (l : List (RecV × Bool)) : List RecV := l.filterMap fun x => if x.2 then some x.1 else none
def preL (o : List Int) (recs : List RecV) : List RecV := emL (partL o recs)
def preX (x : InM) (o : List Int) : List RecV := if chkOff x o = 0 then preL o x.recs else []
theorem emL_yes (l : List (RecV × Bool)) (r : RecV) : emL (l ++ [(r, true)]) = emL l ++ [r] := by simp [emL]
theorem emL_no (l : List (RecV × Bool)) (r : RecV) : emL (l ++ [(r, false)]) = emL l := by simp [emL]
theorem emL_len (l : List (RecV × Bool)) : (emL l).length ≤ l.length := List.length_filterMap_le _ _

/-- What holds between the rounds of Prefix. -/
structure PreAt (Φ : Nat → TypeId → Prop) (w : World) (bx : Nat) (pre : List (RecV × Bool)) (W : World) : Prop where
  out : ∃ a c, W.heap[bx]? = some (.cells #[.slice a (emL pre).length c] 39 (0, 0)) ∧ OwnR W (bx + 3) (.slice a (emL pre).length c) (emL pre)
  upd : UpdT Φ w W
  up : w.heap.size ≤ bx
/-- What its body may write. -/
def preB (bx : Nat) : Nat → TypeId → Prop := fun k t => (k = bx ∧ t = 39) ∨ (bx + 3 ≤ k ∧ t = 36)

theorem PreAt.box {w W w4 : World} {bx : Nat} {l : List RecV} {r : RecV} {a : Option Addr} {c : Nat} (h1 : W.heap[bx]? = some (.cells #[.slice a l.length c] 39 (0, 0))) (h2 : OwnR W (bx + 3) (.slice a l.length c) l) (hgrow : (W.alloc (.cells r.cells.toArray 36)).grownBy w4 (Value.slice a l.length c).ownBlock) :
    w4.heap[bx]? = some (.cells #[.slice a l.length c] 39 (0, 0)) :=
  (hgrow.block _ (by simp; have := lt_of_heap h1; omega) (fun e => by have := (World.ownsRow.lt h2 _ e.symm).1; omega)).trans ((alloc_lt (lt_of_heap h1)).trans h1)
theorem PreAt.more {Φ : Nat → TypeId → Prop} {w W w4 : World} {bx : Nat} {pre : List (RecV × Bool)} {r : RecV} {a : Option Addr} {c g4 cap4 : Nat} (hup : w.heap.size ≤ bx) (h1 : W.heap[bx]? = some (.cells #[.slice a (emL pre).length c] 39 (0, 0))) (h2 : OwnR W (bx + 3) (.slice a (emL pre).length c) (emL pre)) (h3 : UpdT Φ w W)
    (hown4 : w4.ownsRow (bx + 3) 36 3 (.slice (some ⟨g4, 0, none⟩) ((emL pre).length + 1) cap4) ((emL pre).length + 1) (flat3 (emL pre) ++ r.cells)) (hgrow : (W.alloc (.cells r.cells.toArray 36)).grownBy w4 (Value.slice a (emL pre).length c).ownBlock) :
    PreAt Φ w bx (pre ++ [(r, true)]) (w4.setCell ⟨bx, 0, none⟩ (.slice (some ⟨g4, 0, none⟩) ((emL pre).length + 1) cap4)) ∧ UpdT (preB bx) W (w4.setCell ⟨bx, 0, none⟩ (.slice (some ⟨g4, 0, none⟩) ((emL pre).length + 1) cap4)) := by
  have hv : ∀ k, (Value.slice a (emL pre).length c).ownBlock = some k → bx + 3 ≤ k := fun k hk => (World.ownsRow.lt h2 k hk).1
  have hbx : w4.heap[bx]? = some (.cells #[.slice a (emL pre).length c] 39 (0, 0)) := PreAt.box (w := w) h1 h2 hgrow
  have hg4 : bx + 3 ≤ g4 := (World.ownsRow.lt hown4 g4 rfl).1
  have hua : Upd (fun k => (Value.slice a (emL pre).length c).ownBlock = some k) W w4 := ((Upd.refl _ W).alloc _).trans (Upd.of_grown hgrow (fun k hk => hk))
  have hub : Upd (fun k => (Value.slice a (emL pre).length c).ownBlock = some k ∨ k = bx) W (w4.setCell ⟨bx, 0, none⟩ (.slice (some ⟨g4, 0, none⟩) ((emL pre).length + 1) cap4)) :=
    (hua.mono (fun _ _ e => .inl e)).trans ((upd_own w4 bx 0 _).mono (fun _ _ e => .inr e))
  have hln : (emL (pre ++ [(r, true)])).length = (emL pre).length + 1 := by rw [emL_yes]; simp
  refine ⟨⟨⟨some ⟨g4, 0, none⟩, cap4, ?_, ?_⟩, ?_, hup⟩, ?_⟩
  · rw [hln]
    have := blk_set (i := 0) (v := .slice (some ⟨g4, 0, none⟩) ((emL pre).length + 1) cap4) hbx
    simpa using this
  · show World.ownsRow _ _ _ _ _ _ _
    rw [hln, emL_yes, flat3_snoc]
    refine ownsRow_heap hown4 (fun k hk => ?_)
    simp only [Value.ownBlock, Option.some.injEq] at hk
    exact set_ne (by show k ≠ bx; omega)
  · refine h3.own hub (fun k hk => ?_)
    rcases hk with hk | hk
    · have := hv k hk; omega
    · omega
  · refine hub.mono (fun k hk e => ?_)
    rcases e with e | e
    · obtain ⟨cur, hcur⟩ := ownsRow_at h2 e
      exact ⟨_, _, _, hcur, .inr ⟨by have := hv k e; omega, rfl⟩⟩
    · subst e
      exact ⟨_, _, _, h1, .inl ⟨rfl, rfl⟩⟩

theorem chkOff_zero {x : InM} {o : List Int} (h : chkOff x o = 0) : x.recs.length ≤ 40 ∧ 0 ≤ x.src ∧ x.src < 8 ∧ ∀ r ∈ x.recs, (0 ≤ r.key ∧ r.key < 32) ∧ r.src = x.src := by
  unfold chkOff at h
  split at h
  · omega
  · rename_i h1; exact chkIn_zero (by omega)
theorem eight {o : List Int} (h : o.length = 8) : ∃ o0 o1 o2 o3 o4 o5 o6 o7, (o.map I).toArray = #[.int .i64 o0, .int .i64 o1, .int .i64 o2, .int .i64 o3, .int .i64 o4, .int .i64 o5, .int .i64 o6, .int .i64 o7] := by
  match o, h with
  | [o0, o1, o2, o3, o4, o5, o6, o7], _ => exact ⟨o0, o1, o2, o3, o4, o5, o6, o7, rfl⟩
set_option maxHeartbeats 8000000 in
theorem prefix_any (x : InM) (o : List Int) (w : World) (h : RecsIn w x.ra x.recs) (hl : x.recs.length ≤ 140737488351232) (ho : o.length = 8) :
    Calls Tryz.prog 214 #[.agg #[.int .i64 x.src, .slice x.ra x.recs.length x.rc], .agg (o.map I).toArray] w fun e w' => ∃ a c, e = .returned (.tuple #[.slice a (preX x o).length c, .int .i64 (chkOff x o)]) ∧ OwnR w' w.heap.size (.slice a (preX x o).length c) (preX x o) ∧ Upd0 w w' := by
  obtain ⟨wb, hwb⟩ : ∃ wb, wb = (w.alloc (.cells #[.int .i64 x.src, .slice x.ra x.recs.length x.rc] 41)).alloc (.cells (o.map I).toArray 43) := ⟨_, rfl⟩
  have HU := Lib.hid (show Upd0 w wb by rw [hwb]; exact ((Upd.refl _ w).alloc _).alloc _)
  have HX1 := Lib.hid (show wb.heap[w.heap.size]? = some (.cells #[.int .i64 x.src, .slice x.ra x.recs.length x.rc] 41 (0, 0)) by rw [hwb]; exact (alloc_lt (by simp)).trans (alloc_at rfl))
  have HX2 := Lib.hid (show wb.heap[w.heap.size + 1]? = some (.cells (o.map I).toArray 43 (0, 0)) by rw [hwb]; exact alloc_at (by simp))
  have HC := Lib.hid (checkoffsets_any x o wb (h.kept HU.out) hl ho)
  have H := Lib.hid h; have HOL := Lib.hid ho; have HLOW := Lib.hid h.low
  obtain ⟨ch, hch⟩ : ∃ ch, ch = chkOff x o := ⟨_, rfl⟩
  rw [← hch] at HC
  have HCH := Lib.hid hch
  obtain ⟨c0, c1⟩ := cells2_of HX1.out
  have HPX := Lib.hid (preX.eq_1 x o)
  obtain ⟨px, hpx⟩ : ∃ px, px = preX x o := ⟨_, rfl⟩
  rw [← hpx, ← hch] at HPX
  simp only [← hch, ← hpx]
  obtain ⟨o0, o1, o2, o3, o4, o5, o6, o7, hmap⟩ := eight ho
  rw [hmap] at hwb HX2 HC ⊢
  have HMAP := Lib.hid hmap
  obtain ⟨e0, e1, e2, e3, e4, e5, e6, e7⟩ := cells8_of HX2.out
  clear h ho hch hmap hpx
  refine (callsIn_wide (n := 5)).1 ?_
  refine callsIn_of_wp_marks Tryz.func214 rfl trivial ?_ rfl
  simp only [Tryz.ntmps214, List.size_toArray, List.length_cons, List.length_nil, Nat.reduceAdd, Nat.reduceSub, Array.replicate_succ, Array.replicate_zero, List.push_toArray, List.append_toArray, List.nil_append, List.cons_append]
  gi_wp2_with (gi_at_call 53; fail)
  rw [← hwb]
  clear hwb
  refine ⟨trivial, callsIn_wide.2 (HC.out.mono ?_)⟩
  rintro e w2 ⟨rfl, hu2⟩
  have HU2 := Lib.hid (HU.out.trans hu2)
  have HY1 := Lib.hid ((hu2.block _ (lt_of_heap HX1.out) (fun e => e)).trans HX1.out)
  have HY2 := Lib.hid ((hu2.block _ (lt_of_heap HX2.out) (fun e => e)).trans HX2.out)
  clear c0 c1 e0 e1 e2 e3 e4 e5 e6 e7 hu2 HX1 HX2 HU
  simp only []
  by_cases hz : ch = 0
  · subst hz
    rw [if_pos rfl] at HPX
    obtain ⟨bx, hbx⟩ : ∃ bx, bx = w2.heap.size := ⟨_, rfl⟩
    obtain ⟨w3, hw3⟩ : ∃ w3, w3 = w2.alloc (.cells #[.slice none 0 0] 39) := ⟨_, rfl⟩
    have hu3 : Upd0 w2 w3 := by rw [hw3]; exact (Upd.refl _ w2).alloc _
    have hx3 : w3.heap[bx]? = some (.cells #[.slice none 0 0] 39 (0, 0)) := by rw [hw3]; exact alloc_at hbx
    have hz3 : w3.heap.size = bx + 1 := by rw [hw3, hbx]; simp
    obtain ⟨c0, c1⟩ := cells2_of HY1.out
    obtain ⟨e0, e1, e2, e3, e4, e5, e6, e7⟩ := cells8_of HY2.out
    have HU3 := Lib.hid (HU2.out.trans hu3)
    have HX3 := Lib.hid hx3; have HZ3 := Lib.hid hz3
    have HBX := Lib.hid (show w.heap.size ≤ bx by have := HU2.out.size; omega)
    have HP := Lib.hid (parts_any x o w3)
    rw [HMAP.out] at HP
    clear hu3 hx3 hz3 HC
    have hl1 := lt_of_heap HY1.out; have hl2 := lt_of_heap HY2.out
    gi_wp2_with (gi_at_call 128; fail)
    rw [← hw3, ← hbx]
    clear hw3 hl1 hl2 c0 c1 e0 e1 e2 e3 e4 e5 e6 e7
    refine ⟨trivial, callsIn_wide.2 (HP.out.mono ?_)⟩
    rintro e w5 ⟨rfl, hw5⟩
    clear HP
    simp only []
    gi_wp2
    have hu5 : Upd0 w3 w5 := by rw [hw5]; exact ((Upd.refl _ w3).alloc _).alloc _
    have hx5 : w5.heap[bx]? = some (.cells #[.slice none 0 0] 39 (0, 0)) := (hu5.block _ (lt_of_heap HX3.out) (fun e => e)).trans HX3.out
    have hz5 : w5.heap.size = bx + 3 := by rw [hw5]; simp; have := HZ3.out; omega
    have hu5' := HU3.out.trans hu5
    have HPT := Lib.hid (show PtAt (bx + 3) w3.heap.size (w3.heap.size + 1) x.src x.ra x.rc x.recs o w5 from
      ⟨by rw [hw5]; exact (alloc_lt (by simp)).trans (alloc_at rfl), by rw [hw5, HMAP.out]; exact alloc_at (by simp), H.out.kept hu5', ⟨by have := HZ3.out; omega, by have := HZ3.out; omega⟩, fun e3 b f e => by have := HLOW.out e3 b f e; have := HBX.out; omega⟩)
    have HAT := Lib.hid (show PreAt (partT (bx + 3)) w bx [] w5 from ⟨⟨none, 0, hx5, World.ownsRow_nil _ _ _ _⟩, UpdT.of0 hu5', HBX.out⟩)
    have HZ5 := Lib.hid hz5; have HU5 := Lib.hid hu5'
    have HCI := Lib.hid (chkOff_zero HCH.out.symm)
    clear hw5 hu5 hx5 hz5 hu5' hbx
    refine wpIn_rangeFunc_T (α := RecV × Bool) (encs := fun z => #[.agg #[.int .i64 z.1.src, .int .i64 z.1.key, .int .i64 z.1.val], .bool z.2]) rfl (by omega) (gf := 208) (lb := #[.pointer (some ⟨w3.heap.size, 0, none⟩), .pointer (some ⟨w3.heap.size + 1, 0, none⟩)]) rfl trivial (fun _ _ => rfl) (fun _ => rfl) (partT (bx + 3)) (preB bx) (fun pre _ => pre.length < 1000) (fun xs _ => xs = partL o x.recs) (PreAt (partT (bx + 3)) w bx) (fun _ _ => False)
      ?hIU ?hIP (fun _ _ _ _ e => e.elim) (fun _ _ _ _ _ e => e.elim) HAT.out (fun _ _ _ _ _ e _ _ => e) ?hseq (fun z a' W => ∃ rb, W.heap[rb]? = some (.cells #[.int .i64 z.1.src, .int .i64 z.1.key, .int .i64 z.1.val] 36 (0, 0)) ∧ a' = { tmps := #[.agg #[.int .i64 x.src, .slice x.ra x.recs.length x.rc], .agg #[.int .i64 o0, .int .i64 o1, .int .i64 o2, .int .i64 o3, .int .i64 o4, .int .i64 o5, .int .i64 o6, .int .i64 o7], .pointer (some ⟨w.heap.size, 0, none⟩), .pointer (some ⟨w.heap.size + 1, 0, none⟩), .slice none 0 0, .int .i64 0, .int .i64 0, .pointer (some ⟨bx, 0, none⟩), .pointer (some ⟨rb, 0, none⟩), .bool z.2, .agg #[.int .i64 x.src, .slice x.ra x.recs.length x.rc], .agg #[.int .i64 o0, .int .i64 o1, .int .i64 o2, .int .i64 o3, .int .i64 o4, .int .i64 o5, .int .i64 o6, .int .i64 o7], .int .i64 0, .int .i64 0, .bool false, undef, .agg #[.int .i64 x.src, .slice x.ra x.recs.length x.rc], .agg #[.int .i64 o0, .int .i64 o1, .int .i64 o2, .int .i64 o3, .int .i64 o4, .int .i64 o5, .int .i64 o6, .int .i64 o7], .func (.func 208) #[] #[.pointer (some ⟨w3.heap.size, 0, none⟩), .pointer (some ⟨w3.heap.size + 1, 0, none⟩)], .agg #[.int .i64 z.1.src, .int .i64 z.1.key, .int .i64 z.1.val], .bool z.2, undef, undef, undef, undef, undef, undef], defers := [] }) ?hAP ?hassign ?hbody ?hdone (fun _ _ e => e.elim)
    case hIU =>
      rintro pre W W' hs ⟨⟨a, c, h1, h2⟩, h3, h4⟩ hu
      refine ⟨⟨a, c, hu.keep h1 (fun cs t fr e p => ?_), ownsRow_T h2 hu (fun k hk p => by have := p.1; simp at this)⟩, h3.trans hu, h4⟩
      injection e with _ e
      subst e
      have := p.1
      simp at this
    case hIP =>
      rintro pre W l o o' ⟨⟨a, c, h1, h2⟩, h3, h4⟩ hl ho
      exact ⟨⟨a, c, cells_put o' h1 rfl ho rfl, ownsRow_put h2 o' ho rfl⟩, h3.put (by have := HZ5.out; omega) o', h4⟩
    case hseq =>
      intro l J Jx W h0 hu hJ hJx hY
      have hz := HZ5.out
      have hz3 := HZ3.out
      exact parts1_any (B := bx + 3) (Φb := preB bx) (fun k t p => ⟨by rcases p with ⟨_, p⟩ | ⟨_, p⟩ <;> subst p <;> decide, by rcases p with ⟨p, _⟩ | ⟨p, _⟩ <;> omega, by rcases p with ⟨p, _⟩ | ⟨p, _⟩ <;> omega, fun e3 b f e => by have := HLOW.out e3 b f e; have := HBX.out; rcases p with ⟨p, _⟩ | ⟨p, _⟩ <;> omega⟩) (by have := HCI.out.1; omega) (fun r hr => (HCI.out.2.2.2 r hr).1) HOL.out l J Jx W (HPT.out.kept hu (fun _ e => e.elim)) (by have := hu.size; omega) h0 (fun pre W W' hs => hJ pre W W' (by omega)) (fun W W' hs => hJx W W' (by omega)) (fun pre x W1 hs h hp _ => hY pre x W1 (by omega) h hp)
    case hAP =>
      rintro z a' W l o o' ⟨rb, h1, h2⟩ hl ho
      exact ⟨rb, cells_put o' h1 rfl ho rfl, h2⟩
    case hassign =>
      intro l z W K _ hK
      have HK := Lib.hid hK
      clear hK
      gi_wp2
      exact HK.out _ _ ((Upd.refl _ W).alloc _) ⟨W.heap.size, alloc_at rfl, rfl⟩
    case hbody =>
      rintro l pre z a' W r hl hs ⟨⟨a, c, h1, h2⟩, h3, h4⟩ hpl ⟨rb, h5, rfl⟩ hlr
      have c4 := cells1_of h1
      have f4 : W.frozen? ⟨bx, 0, none⟩ = false := frozen_of_heap h1
      have hlt := lt_of_heap h1
      obtain ⟨r0, r1, r2⟩ := cells3_of h5
      have H1 := Lib.hid h1; have H2 := Lib.hid h2; have H3 := Lib.hid h3
      clear h1 h2 h3 h5 hlr
      obtain ⟨z1, z2⟩ := z
      have hel := emL_len pre
      have hz5 := HZ5.out
      cases z2 with
      | false =>
        gi_wp2
        refine ⟨⟨⟨a, c, ?_, ?_⟩, H3.out, h4⟩, Upd.refl _ _⟩
        · rw [emL_no]; exact H1.out
        · rw [emL_no]; exact H2.out
      | true =>
        gi_wp2_with (gi_at_builtin; obtain ⟨i0, hi0, hz0, hz1, hz2⟩ := info_parts Tryz.info29p; refine wpListIn_append_own _ rfl (.tmp 22) (.tmp 24) 39 rfl (bx + 3) 36 i0 (.agg #[.int .i64 0, .int .i64 0, .int .i64 0]) 3 24 Tryz.underlying39 hi0 hz0 hz1 hz2 rfl (by omega) (.slice a (emL pre).length c) (emL pre).length (flat3 (emL pre)) rfl (H2.out.alloc _) ⟨W.heap.size, 0, none⟩ 1 1 [.int .i64 z1.src, .int .i64 z1.key, .int .i64 z1.val] rfl rfl (World.news_of_block (cs := #[.int .i64 z1.src, .int .i64 z1.key, .int .i64 z1.val]) (alloc_at rfl)) (by simp [Value.oneCell']) (by unfold maxLen; omega) (by omega) (by simp; omega) ?_; clear hi0 hz0 hz1 hz2; intro v' w4 hown4 hgrow _; obtain ⟨g4, cap4, rfl⟩ := ownsRow_succ hown4; have hbx4 := PreAt.box (w := w) (r := z1) H1.out H2.out hgrow; have c4' := cells1_of hbx4; have f4' : w4.frozen? ⟨bx, 0, none⟩ = false := frozen_of_heap hbx4; have HM := Lib.hid (PreAt.more (r := z1) h4 H1.out H2.out H3.out hown4 hgrow); clear hown4 hgrow hbx4)
        exact HM.out
    case hdone =>
      rintro xs W hS ⟨⟨a, c, h1, h2⟩, h3, h4⟩ hD
      subst hS
      have c4 := cells1_of h1
      have H1 := Lib.hid h1; have H2 := Lib.hid h2; have H3 := Lib.hid h3; have HD := Lib.hid hD
      clear h1 h2 h3 hD
      gi_wp2
      refine ⟨by simp, .inl ⟨_, _, rfl, run_takeDeferred HD.out, ?_⟩⟩
      have hz := HZ5.out
      refine ⟨_, results_tmp2 rfl _ _ _, a, c, ?_, ?_, ?_⟩
      · rw [HPX.out]; rfl
      · rw [HPX.out]
        exact ownsRow_low (ownsRow_put H2.out _ HD.out rfl) (by have := HBX.out; omega)
      · exact (H3.out.put (l := w5.heap.size) (by have := HBX.out; omega) _).mono (fun k hk ⟨_, _, _, _, p⟩ => by have := p.2; have := HBX.out; omega)
  · rw [if_neg hz] at HPX
    have HP0 := HPX.out
    subst HP0
    gi_wp2
    exact ⟨_, results_tmp2 rfl _ _ _, none, 0, rfl, World.ownsRow_nil _ _ _ _, HU2.out⟩
end Go.Proofs.YtbonfdkgkcbkmaaGreat
end

section
namespace Go.Proofs.YtbonfdkgkcbkmaaGreat
set_option maxRecDepth 100000
set_option maxRecDepth 100000
open Go.RowKit Go.Shelf

/-- A place in memory: offsets by inputs. -/
def AtIn (w : World) (a : Option Addr) (ats : List (List Int)) : Prop := Row 8 w a (ats.map fun o => o.map I)
theorem AtIn.kept {w w' : World} {a : Option Addr} {l : List (List Int)} (h : AtIn w a l) (hu : Upd0 w w') : AtIn w' a l := Row.kept h hu
theorem AtIn.len {w : World} {a : Option Addr} {l : List (List Int)} (h : AtIn w a l) : ∀ o ∈ l, o.length = 8 := fun o ho => by
  obtain ⟨i, hi⟩ := List.getElem?_of_mem ho
  obtain ⟨h1, _⟩ := h i (o.map I) (by rw [List.getElem?_map, hi]; rfl)
  simpa using h1
theorem AtIn.at {w : World} {a : Option Addr} {ats : List (List Int)} (h : AtIn w a ats) {i : Nat} {o : List Int} (hi : ats[i]? = some o) : ∃ b f o0 o1 o2 o3 o4 o5 o6 o7, a = some ⟨b, f, none⟩ ∧ (o.map I).toArray = #[.int .i64 o0, .int .i64 o1, .int .i64 o2, .int .i64 o3, .int .i64 o4, .int .i64 o5, .int .i64 o6, .int .i64 o7] ∧
    w.cell? ⟨b, f + i * 8, none⟩ = some (.int .i64 o0) ∧ w.cell? ⟨b, f + i * 8 + 1, none⟩ = some (.int .i64 o1) ∧ w.cell? ⟨b, f + i * 8 + 2, none⟩ = some (.int .i64 o2) ∧ w.cell? ⟨b, f + i * 8 + 3, none⟩ = some (.int .i64 o3) ∧ w.cell? ⟨b, f + i * 8 + 4, none⟩ = some (.int .i64 o4) ∧ w.cell? ⟨b, f + i * 8 + 5, none⟩ = some (.int .i64 o5) ∧ w.cell? ⟨b, f + i * 8 + 6, none⟩ = some (.int .i64 o6) ∧ w.cell? ⟨b, f + i * 8 + 7, none⟩ = some (.int .i64 o7) := by
  obtain ⟨_, b, f, e, hc⟩ := h i (o.map I) (by rw [List.getElem?_map, hi]; rfl)
  obtain ⟨o0, o1, o2, o3, o4, o5, o6, o7, he⟩ := eight (h.len o (List.mem_of_getElem? hi))
  have hm : o.map I = [.int .i64 o0, .int .i64 o1, .int .i64 o2, .int .i64 o3, .int .i64 o4, .int .i64 o5, .int .i64 o6, .int .i64 o7] := by have := congrArg Array.toList he; simpa using this
  rw [hm] at hc
  refine ⟨b, f, o0, o1, o2, o3, o4, o5, o6, o7, e, he, ?_, ?_, ?_, ?_, ?_, ?_, ?_, ?_⟩
  · simpa [Nat.add_assoc] using hc 0 _ rfl
  · simpa [Nat.add_assoc] using hc 1 _ rfl
  · simpa [Nat.add_assoc] using hc 2 _ rfl
  · simpa [Nat.add_assoc] using hc 3 _ rfl
  · simpa [Nat.add_assoc] using hc 4 _ rfl
  · simpa [Nat.add_assoc] using hc 5 _ rfl
  · simpa [Nat.add_assoc] using hc 6 _ rfl
  · simpa [Nat.add_assoc] using hc 7 _ rfl
def offsOk : List InM → List (List Int) → Bool
  | x :: xs, o :: os => chkOff x o == 0 && offsOk xs os
  | _, _ => true
theorem chkW_in {os : List OpM} {xs : List InM} (h : chkW os xs = 0) : ∀ x ∈ xs, chkIn x = 0 := by
  intro x hx
  unfold chkW at h
  split at h
  · rename_i h1; exact absurd h h1
  · split at h
    · omega
    · rename_i _ h2
      apply Classical.byContradiction
      intro hn
      exact h2 (List.any_eq_true.2 ⟨x, hx, by simpa [badIn] using hn⟩)
theorem chkW_g {os : List OpM} {xs : List InM} (h : chkW os xs = 0) : (chkG os).2 = 0 := by
  unfold chkW at h
  split at h
  · rename_i h1; exact absurd h h1
  · rename_i h1; omega
def chkAt (os : List OpM) (xs : List InM) (ats : List (List Int)) : Int :=
  if chkW os xs ≠ 0 then chkW os xs else if ats.length ≠ xs.length then 230 else if offsOk xs ats then 0 else 171
theorem chkOff_of {x : InM} {o : List Int} (h : chkIn x = 0) : chkOff x o = 0 ∨ chkOff x o = 171 := by
  unfold chkOff
  rw [if_neg (by omega)]
  split <;> simp

attribute [local go_sem] Oper.semAt_some
set_option maxHeartbeats 8000000 in
theorem checkat_any {oa xa aa : Option Addr} {os : List OpM} {xs : List InM} {ats : List (List Int)} {oc xc ac : Nat} (w : World) (h : WkIn w oa os oc xa xs) (ha : AtIn w aa ats) (hal : ats.length ≤ 50) :
    Calls Tryz.prog 11 #[wkV oa os oc xa xs xc, .slice aa ats.length ac] w fun e w' => e = .returned (.int .i64 (chkAt os xs ats)) ∧ Upd0 w w' := by
  obtain ⟨wb, hwb⟩ : ∃ wb, wb = w.alloc (.cells #[.slice oa os.length oc, .slice xa xs.length xc] 27) := ⟨_, rfl⟩
  have HU := Lib.hid (show Upd0 w wb by rw [hwb]; exact (Upd.refl _ w).alloc _)
  have HX1 := Lib.hid (show wb.heap[w.heap.size]? = some (.cells #[.slice oa os.length oc, .slice xa xs.length xc] 27 (0, 0)) by rw [hwb]; exact alloc_at rfl)
  have HC := Lib.hid (check_any (xc := xc) wb (h.kept HU.out))
  have H := Lib.hid h; have HA := Lib.hid ha
  have HE := Lib.hid (chkAt.eq_1 os xs ats)
  obtain ⟨cw, hcw⟩ : ∃ cw, cw = chkAt os xs ats := ⟨_, rfl⟩
  rw [← hcw] at HE ⊢
  obtain ⟨cv, hcv⟩ : ∃ cv, cv = chkW os xs := ⟨_, rfl⟩
  have HCV := Lib.hid hcv
  rw [← hcv] at HE HC
  obtain ⟨c0, c1⟩ := cells2_of HX1.out
  have hxl := h.xl
  clear h hcv hcw ha
  go_enter Tryz.func11, Tryz.ntmps11
  go_wp2_with (go_at_call 52; fail)
  rw [← hwb]
  clear hwb
  refine HC.out.mono ?_
  rintro e w2 ⟨rfl, hu2⟩
  have HX2 := Lib.hid ((hu2.block _ (lt_of_heap HX1.out) (fun e => e)).trans HX1.out)
  have HU2 := Lib.hid (HU.out.trans hu2)
  clear hu2 c0 c1 HX1 HU HC
  simp only []
  by_cases hz : cv = 0
  · subst hz
    rw [if_neg (by simp)] at HE
    obtain ⟨c0, c1⟩ := cells2_of HX2.out
    by_cases hl : ats.length = xs.length
    · rw [if_neg (by simpa using hl)] at HE
      have hle : ((ats.length : Int) != (xs.length : Int)) = false := by simp [hl]
      have HL := Lib.hid hl
      clear hl
      go_wp2_with (fail)
      go_loopw [23] (fun i wr => ∃ k : Nat, k ≤ xs.length ∧ i = .int .i64 k ∧ Hid (offsOk (xs.drop k) (ats.drop k) = offsOk xs ats) ∧ Hid (Upd0 w2 wr)) (fun i _ => xs.length - (intOf i).toNat)
      case atStart => exact ⟨0, Nat.zero_le _, rfl, Lib.hid rfl, Lib.hid (Upd.refl _ _)⟩
      case round =>
        clear c0 c1
        obtain ⟨k, hk, rfl, HO, HU3⟩ := hrel
        by_cases hlt : k < xs.length
        · obtain ⟨x, hx⟩ : ∃ x, xs[k]? = some x := ⟨_, List.getElem?_eq_getElem hlt⟩
          have hla := HL.out
          obtain ⟨o, ho⟩ : ∃ o, ats[k]? = some o := ⟨_, List.getElem?_eq_getElem (by omega)⟩
          have HUU := Lib.hid (HU2.out.trans HU3.out)
          obtain ⟨⟨b, f, hxa, d0, d1⟩, hr, hrl⟩ := (H.out.ins.kept HUU.out).at hx
          have HO2 : Hid ((chkOff x o == 0 && offsOk (xs.drop (k + 1)) (ats.drop (k + 1))) = offsOk xs ats) := by
            have := HO.out
            rw [drop_cons' hx, drop_cons' ho, offsOk] at this
            exact Lib.hid this
          have HCI := Lib.hid (chkW_in HCV.out.symm x (List.mem_of_getElem? hx))
          have hal2 : k < ats.length := by omega
          have hbl : b < wr.heap.size := lt_of_cell d0
          obtain ⟨w3, hw3⟩ : ∃ w3, w3 = wr.alloc (.cells #[.int .i64 x.src, .slice x.ra x.recs.length x.rc] 41) := ⟨_, rfl⟩
          have hu3 : Upd0 wr w3 := by rw [hw3]; exact (Upd.refl _ wr).alloc _
          have HX3 := Lib.hid (show w3.heap[wr.heap.size]? = some (.cells #[.int .i64 x.src, .slice x.ra x.recs.length x.rc] 41 (0, 0)) by rw [hw3]; exact alloc_at rfl)
          obtain ⟨ab, af, o0, o1, o2, o3, o4, o5, o6, o7, haa, hmap, a0, a1, a2, a3, a4, a5, a6, a7⟩ := ((HA.out.kept HUU.out).kept hu3).at ho
          have HCO := Lib.hid (checkoffsets_any x o w3.drew (hr.kept hu3.drew) hrl ((HA.out.kept HUU.out).len o (List.mem_of_getElem? ho)))
          rw [hmap] at HCO
          obtain ⟨co, hco⟩ : ∃ co, co = chkOff x o := ⟨_, rfl⟩
          rw [← hco] at HCO HO2
          have HCC := Lib.hid (hco ▸ chkOff_of (o := o) HCI.out : co = 0 ∨ co = 171)
          have HAL := Lib.hid (And.intro a0 (And.intro a1 (And.intro a2 (And.intro a3 (And.intro a4 (And.intro a5 (And.intro a6 a7)))))))
          have HU4 := Lib.hid (HU3.out.trans hu3)
          subst hxa haa
          clear hx ho hr hu3 HO hco hmap a0 a1 a2 a3 a4 a5 a6 a7
          go_upto_region 9 with fail
          rw [← hw3]
          clear hw3 d0 d1
          have hA : w3.drew = w3.drew := rfl
          refine wp_region_G 5 (fun W => W = w3.drew) [false, false, false, false, false, false, false] rfl (by kernel_rfl) ?_
          refine wpG_takeT (i := 0) (v := .agg #[.int .i64 x.src, .slice x.ra x.recs.length x.rc]) rfl (fun L hc h => (hc.waits (n := 5) (i := 0) (by kernel_rfl) h)) (by kernel_rfl) (fun _ _ _ h => h) hA (.inl ⟨rfl, fun w5 q1 => ?_⟩) ?_
          · subst q1
            obtain ⟨c0, c1⟩ := cells2_of (w := w3.drew) HX3.out
            go_simp
          simp only [Act.put, List.setIfInBounds_toArray, List.set]
          refine wpG_takeT (i := 1) (v := .slice (some ⟨ab, af, none⟩) ats.length ac) rfl (fun L hc h => (hc.waits (n := 5) (i := 4) (by kernel_rfl) (hc.waits (n := 4) (i := 3) (by kernel_rfl) (hc.waits (n := 3) (i := 1) (by kernel_rfl) h)))) (by kernel_rfl) (fun _ _ _ h => h) hA (.inl ⟨rfl, fun w5 q1 => ?_⟩) ?_
          · go_simp
          simp only [Act.put, List.setIfInBounds_toArray, List.set]
          refine wpG_takeT (i := 2) (v := .int .i64 k) rfl (fun L hc h => (hc.waits (n := 5) (i := 4) (by kernel_rfl) (hc.waits (n := 4) (i := 3) (by kernel_rfl) (hc.waits (n := 3) (i := 2) (by kernel_rfl) h)))) (by kernel_rfl) (fun _ _ _ h => h) hA (.inl ⟨rfl, fun w5 q1 => ?_⟩) ?_
          · go_simp
          simp only [Act.put, List.setIfInBounds_toArray, List.set]
          refine wpG_takeT (i := 3) (v := .pointer (some ⟨ab, af + k * 8, none⟩)) rfl (fun L hc h => (hc.waits (n := 5) (i := 4) (by kernel_rfl) (hc.waits (n := 4) (i := 3) (by kernel_rfl) h))) (by kernel_rfl) (fun _ _ _ h => h) hA (.inl ⟨rfl, fun w5 q1 => ?_⟩) ?_
          · go_simp
          simp only [Act.put, List.setIfInBounds_toArray, List.set]
          refine wpG_takeT (i := 4) (v := .agg #[.int .i64 o0, .int .i64 o1, .int .i64 o2, .int .i64 o3, .int .i64 o4, .int .i64 o5, .int .i64 o6, .int .i64 o7]) rfl (fun L hc h => (hc.waits (n := 5) (i := 4) (by kernel_rfl) h)) (by kernel_rfl) (fun _ _ _ h => h) hA (.inl ⟨rfl, fun w5 q1 => ?_⟩) ?_
          · subst q1
            obtain ⟨a0, a1, a2, a3, a4, a5, a6, a7⟩ := HAL.out
            change w3.drew.cell? _ = _ at a0 a1 a2 a3 a4 a5 a6 a7
            go_simp
          simp only [Act.put, List.setIfInBounds_toArray, List.set]
          refine wpG_tail_lit (k := 5) rfl rfl (by kernel_rfl) ?_
          simp only [List.drop]
          go_wp2_with (go_at_call 53; fail)
          refine HCO.out.mono ?_
          rintro e w5 ⟨rfl, hu5⟩
          have HU5 := Lib.hid (HU4.out.drew.trans hu5)
          clear hu5
          simp only []
          rcases HCC.out with he | he
          · subst he
            go_wp2
            refine ⟨⟨_, _, _, _, _, ⟨k + 1, by omega, rfl, Lib.hid (by rw [← HO2.out]; rfl)⟩, rfl, rfl, rfl, rfl, by go_num⟩, by simp [intOf]; omega⟩
          · subst he
            have HOF : offsOk xs ats = false := HO2.out.symm
            rw [HOF, if_neg (by simp)] at HE
            clear HOF
            go_wp2
            go_ret
            exact ⟨ret_int HE.out.symm, HU2.out.trans HU5.out⟩
        · obtain rfl : k = xs.length := by omega
          have HOF : offsOk xs ats = true := by
            have := HO.out
            rw [List.drop_of_length_le (Nat.le_refl _), List.drop_of_length_le (by rw [HL.out]; exact Nat.le_refl _)] at this
            exact this.symm
          rw [HOF, if_pos rfl] at HE
          clear HOF
          go_wp2
          go_ret
          exact ⟨ret_int HE.out.symm, HU2.out.trans HU3.out⟩
    · rw [if_pos hl] at HE
      have hle : ((ats.length : Int) != (xs.length : Int)) = true := by simp; omega
      clear hl
      go_wp2
      go_ret
      exact ⟨ret_int HE.out.symm, HU2.out⟩
  · have hz' : (cv != 0) = true := by simpa using hz
    rw [if_pos hz] at HE
    clear hz
    go_wp2
    go_ret
    exact ⟨ret_int HE.out.symm, HU2.out⟩
end Go.Proofs.YtbonfdkgkcbkmaaGreat
end

section
namespace Go.Proofs.YtbonfdkgkcbkmaaGreat
set_option maxRecDepth 100000
set_option maxRecDepth 100000
open Go.RowKit Go.Shelf

/-- What holds between the rounds: a row of numbers of some type, and nothing but new blocks changed. -/
structure RowE (ty : TypeId) (w : World) (B : Nat) (l : List Int) (a : Option Addr) (c : Nat) (W : World) : Prop where
  own : OwnI W B ty (.slice a l.length c) l
  upd : Upd0 w W
  low : w.heap.size ≤ B
theorem RowE.upd0 {ty : TypeId} {w : World} {B : Nat} {l : List Int} {a : Option Addr} {c : Nat} {W W' : World} (h : RowE ty w B l a c W) (hu : Upd0 W W') : RowE ty w B l a c W' := ⟨ownsRow_any h.own hu (fun _ _ e => e), h.upd.trans hu, h.low⟩
theorem RowE.snoc {ty : TypeId} {w : World} {B : Nat} {l : List Int} {z : Int} {a b : Option Addr} {c d n : Nat} {W W' : World} (h : RowE ty w B l a c W) (hown : W'.ownsRow B ty 1 (.slice b (n + 1) d) (n + 1) (l.map I ++ [.int .i64 z])) (hn : n = l.length) (hu : Upd (fun k => (Value.slice a n c).ownBlock = some k) W W') : RowE ty w B (l ++ [z]) b d W' :=
  ⟨OwnI.snoc' hown hn, h.upd.cut hu (fun k hk => by subst hn; have := (World.ownsRow.lt h.own k hk).1; have := h.low; omega), h.low⟩

def valsK (l : List RecV) (key : RecV) : List Int := (l.filter fun r => sameK r key).map (·.val)
def emOf (x : InM) (o : List Int) (src : Int) (key : RecV) : List Int := if x.src != src then [] else valsK (preX x o) key
def emV : List InM → List (List Int) → Int → RecV → List Int
  | x :: xs, o :: os, src, key => emOf x o src key ++ emV xs os src key
  | _, _, _, _ => []
theorem emV_nil (l : List (List Int)) (s : Int) (k : RecV) : emV [] l s k = [] := by cases l <;> rfl
theorem partFrom_len (o : List Int) : ∀ (l pre : List RecV), (partFrom o pre l).length = l.length := fun l pre => partFrom_length o l pre
theorem preX_len (x : InM) (o : List Int) : (preX x o).length ≤ x.recs.length ∧ (preX x o).length ≤ 40 := by
  unfold preX
  split
  · rename_i h
    have h1 := chkOff_zero h
    have h2 : (preL o x.recs).length ≤ x.recs.length := by
      have := emL_len (partL o x.recs)
      rw [partL, partFrom_length] at this
      exact this
    omega
  · simp
theorem valsK_len (l : List RecV) (key : RecV) : (valsK l key).length ≤ l.length := by
  rw [valsK, List.length_map]; exact List.length_filter_le _ _

attribute [local go_sem] Oper.semAt_some
set_option maxHeartbeats 8000000 in
theorem emitted_any {oa xa aa : Option Addr} {os : List OpM} {xs : List InM} {ats : List (List Int)} {oc xc ac : Nat} (src : Int) (key : RecV) (w : World) (h : WkIn w oa os oc xa xs) (ha : AtIn w aa ats) (hal : ats.length = xs.length) :
    Calls Tryz.prog 136 #[wkV oa os oc xa xs xc, .slice aa ats.length ac, .int .i64 src, .agg #[.int .i64 key.src, .int .i64 key.key, .int .i64 key.val]] w fun e w' => ∃ a c, e = .returned (.slice a (emV xs ats src key).length c) ∧ OwnI w' w.heap.size 2 (.slice a (emV xs ats src key).length c) (emV xs ats src key) ∧ Upd0 w w' := by
  obtain ⟨wb, hwb⟩ : ∃ wb, wb = (w.alloc (.cells #[.slice oa os.length oc, .slice xa xs.length xc] 27)).alloc (.cells #[.int .i64 key.src, .int .i64 key.key, .int .i64 key.val] 36) := ⟨_, rfl⟩
  have HU := Lib.hid (show Upd0 w wb by rw [hwb]; exact ((Upd.refl _ w).alloc _).alloc _)
  have HX1 := Lib.hid (show wb.heap[w.heap.size]? = some (.cells #[.slice oa os.length oc, .slice xa xs.length xc] 27 (0, 0)) by rw [hwb]; exact (alloc_lt (by simp)).trans (alloc_at rfl))
  have HX2 := Lib.hid (show wb.heap[w.heap.size + 1]? = some (.cells #[.int .i64 key.src, .int .i64 key.key, .int .i64 key.val] 36 (0, 0)) by rw [hwb]; exact alloc_at (by simp))
  have H := Lib.hid h; have HA := Lib.hid ha; have HAL := Lib.hid hal
  obtain ⟨em, hem⟩ : ∃ em, em = emV xs ats src key := ⟨_, rfl⟩
  have HEM := Lib.hid hem
  rw [← hem]
  obtain ⟨c0, c1⟩ := cells2_of HX1.out
  have hxl := h.xl
  clear h hem ha hal
  go_enter Tryz.func136, Tryz.ntmps136
  go_wp2_with (fail)
  rw [← hwb]
  clear hwb c0 c1
  go_loopw [9, 19] (fun t i wr => ∃ (k : Nat) (e : List Int) (qa : Option Addr) (qc : Nat), k ≤ xs.length ∧ i = .int .i64 k ∧ t = .slice qa e.length qc ∧ e.length ≤ 40 * k ∧ Hid (RowE 2 wb wb.heap.size e qa qc wr) ∧ Hid (e ++ emV (xs.drop k) (ats.drop k) src key = em)) (fun _ i _ => xs.length - (intOf i).toNat)
  case atStart => exact ⟨0, [], none, 0, Nat.zero_le _, rfl, rfl, by simp, Lib.hid ⟨World.ownsRow_nil _ _ _ _, Upd.refl _ _, Nat.le_refl _⟩, Lib.hid (by rw [HEM.out]; rfl)⟩
  case round =>
    obtain ⟨k, e, qa, qc, hk, rfl, rfl, hel, HR, HE⟩ := hrel
    by_cases hlt : k < xs.length
    · obtain ⟨x, hx⟩ : ∃ x, xs[k]? = some x := ⟨_, List.getElem?_eq_getElem hlt⟩
      obtain ⟨o, ho⟩ : ∃ o, ats[k]? = some o := ⟨_, List.getElem?_eq_getElem (by have := HAL.out; omega)⟩
      have HUU := Lib.hid (HU.out.trans HR.out.upd)
      obtain ⟨⟨b, f, hxa, d0, d1⟩, hr, hrl⟩ := (H.out.ins.kept HUU.out).at hx
      have HE2 : Hid (e ++ (emOf x o src key ++ emV (xs.drop (k + 1)) (ats.drop (k + 1)) src key) = em) := by
        have := HE.out
        rw [drop_cons' hx, drop_cons' ho, emV] at this
        exact Lib.hid this
      have hal2 : k < ats.length := by have := HAL.out; omega
      have hbl : b < wr.heap.size := lt_of_cell d0
      obtain ⟨w3, hw3⟩ : ∃ w3, w3 = wr.alloc (.cells #[.int .i64 x.src, .slice x.ra x.recs.length x.rc] 41) := ⟨_, rfl⟩
      have hu3 : Upd0 wr w3 := by rw [hw3]; exact (Upd.refl _ wr).alloc _
      have HX3 := Lib.hid (show w3.heap[wr.heap.size]? = some (.cells #[.int .i64 x.src, .slice x.ra x.recs.length x.rc] 41 (0, 0)) by rw [hw3]; exact alloc_at rfl)
      have HR3 := Lib.hid (HR.out.upd0 hu3)
      obtain ⟨ab, af, o0, o1, o2, o3, o4, o5, o6, o7, haa, hmap, a0, a1, a2, a3, a4, a5, a6, a7⟩ := ((HA.out.kept HUU.out).kept hu3).at ho
      have HCO := Lib.hid (fun (W : World) (hW : Upd0 w3 W) => prefix_any x o W (hr.kept (hu3.trans hW)) hrl ((HA.out.kept HUU.out).len o (List.mem_of_getElem? ho)))
      have HLN := Lib.hid (preX_len x o)
      rw [hmap] at HCO
      have HAT := Lib.hid (And.intro a0 (And.intro a1 (And.intro a2 (And.intro a3 (And.intro a4 (And.intro a5 (And.intro a6 a7)))))))
      have HAB := Lib.hid (show ab < w3.heap.size from lt_of_cell a0)
      subst hxa haa
      have HEO := Lib.hid (emOf.eq_1 x o src key)
      obtain ⟨eo, heo⟩ : ∃ eo, eo = emOf x o src key := ⟨_, rfl⟩
      rw [← heo] at HEO HE2
      clear hx ho hr HE hmap heo a0 a1 a2 a3 a4 a5 a6 a7
      cases hs : x.src != src
      · rw [hs, if_neg (by simp)] at HEO
        obtain ⟨pl, hpl⟩ : ∃ pl, pl = preX x o := ⟨_, rfl⟩
        rw [← hpl] at HEO HCO HLN
        clear hpl hu3
        go_upto_region 6 with fail
        rw [← hw3]
        clear hw3 d0 d1
        have hA : Upd0 w3 w3.drew := (Upd.refl _ w3).drew
        refine wp_region_G 10 (fun W' => Upd0 w3 W') [false, false, false, false, false, false, false, false, false, false, false] rfl (by kernel_rfl) ?_
        generalize w3.drew = wd at hA ⊢
        refine wpG_takeT (i := 0) (v := .agg #[.int .i64 x.src, .slice x.ra x.recs.length x.rc]) rfl (fun L hc h => (hc.waits (n := 10) (i := 0) (by kernel_rfl) h)) (by kernel_rfl) (fun _ _ _ h => h) hA (.inl ⟨rfl, fun w5 q1 => ?_⟩) ?_
        · obtain ⟨c0, c1⟩ := cells2_of ((q1.block _ (lt_of_heap HX3.out) (fun e => e)).trans HX3.out)
          go_simp
        simp only [Act.put, List.setIfInBounds_toArray, List.set]
        refine wpG_takeT (i := 1) (v := .slice (some ⟨ab, af, none⟩) ats.length ac) rfl (fun L hc h => (hc.waits (n := 10) (i := 1) (by kernel_rfl) h)) (by kernel_rfl) (fun _ _ _ h => h) hA (.inl ⟨rfl, fun w5 q1 => ?_⟩) ?_
        · go_simp
        simp only [Act.put, List.setIfInBounds_toArray, List.set]
        refine wpG_takeT (i := 2) (v := .int .i64 k) rfl (fun L hc h => (hc.waits (n := 10) (i := 2) (by kernel_rfl) h)) (by kernel_rfl) (fun _ _ _ h => h) hA (.inl ⟨rfl, fun w5 q1 => ?_⟩) ?_
        · go_simp
        simp only [Act.put, List.setIfInBounds_toArray, List.set]
        refine wpG_takeT (i := 3) (v := .pointer (some ⟨ab, af + k * 8, none⟩)) rfl (fun L hc h => (hc.waits (n := 10) (i := 3) (by kernel_rfl) h)) (by kernel_rfl) (fun _ _ _ h => h) hA (.inl ⟨rfl, fun w5 q1 => ?_⟩) ?_
        · go_simp
        simp only [Act.put, List.setIfInBounds_toArray, List.set]
        refine wpG_takeT (i := 4) (v := .agg #[.int .i64 o0, .int .i64 o1, .int .i64 o2, .int .i64 o3, .int .i64 o4, .int .i64 o5, .int .i64 o6, .int .i64 o7]) rfl (fun L hc h => (hc.waits (n := 10) (i := 4) (by kernel_rfl) h)) (by kernel_rfl) (fun _ _ _ h => h) hA (.inl ⟨rfl, fun w5 q1 => ?_⟩) ?_
        · obtain ⟨a0, a1, a2, a3, a4, a5, a6, a7⟩ := HAT.out
          have hg := q1.get.1
          rw [← hg _ _ HAB.out] at a0 a1 a2 a3 a4 a5 a6 a7
          go_simp
        simp only [Act.put, List.setIfInBounds_toArray, List.set]
        refine wpG_doIf (i := 5) rfl (by kernel_rfl) rfl (fun K hK => ?_)
        have HKK := Lib.hid hK
        clear hK
        go_step
        refine (HCO.out wd hA).mono ?_
        rintro _ w5 ⟨a3, c3, rfl, ho5, hu5⟩
        have HP5 := Lib.hid (ownsRow_low ho5 hA.size)
        have HW5 := Lib.hid (hA.trans hu5)
        have HR5 := Lib.hid (HR3.out.upd0 HW5.out)
        clear ho5 hu5 HCO
        have hA5 : Upd0 w3 w5 := HW5.out
        simp only []
        refine HKK.out _ _ hA5 ?_
        clear HKK
        simp only [Act.put, List.setIfInBounds_toArray, List.set]
        refine wpG_takeT (i := 6) (v := .tuple #[.slice a3 pl.length c3, .int .i64 (chkOff x o)]) rfl (fun L hc h => (hc.waits (n := 10) (i := 6) (by kernel_rfl) h)) (by kernel_rfl) (fun _ _ _ h => h) hA5 (.inl ⟨rfl, fun w5 q1 => ?_⟩) ?_
        · go_simp
        simp only [Act.put, List.setIfInBounds_toArray, List.set]
        refine wpG_takeT (i := 7) (v := .slice a3 pl.length c3) rfl (fun L hc h => (hc.waits (n := 10) (i := 7) (by kernel_rfl) h)) (by kernel_rfl) (fun _ _ _ h => h) hA5 (.inl ⟨rfl, fun w5 q1 => ?_⟩) ?_
        · go_simp
        simp only [Act.put, List.setIfInBounds_toArray, List.set]
        refine wpG_takeT (i := 8) (v := .int .i64 (chkOff x o)) rfl (fun L hc h => (hc.waits (n := 10) (i := 8) (by kernel_rfl) h)) (by kernel_rfl) (fun _ _ _ h => h) hA5 (.inl ⟨rfl, fun w5 q1 => ?_⟩) ?_
        · go_simp
        simp only [Act.put, List.setIfInBounds_toArray, List.set]
        refine wpG_takeT (i := 9) (v := .slice a3 pl.length c3) rfl (fun L hc h => (hc.waits (n := 10) (i := 9) (by kernel_rfl) h)) (by kernel_rfl) (fun _ _ _ h => h) hA5 (.inl ⟨rfl, fun w5 q1 => ?_⟩) ?_
        · go_simp
        simp only [Act.put, List.setIfInBounds_toArray, List.set]
        refine wpG_tail_lit (k := 10) rfl rfl (by kernel_rfl) ?_
        simp only [List.drop]
        go_wp2_with (fail)
        go_loopw [9, 39] (fun t i wq => ∃ (j : Nat) (e2 : List Int) (pa : Option Addr) (pc : Nat), j ≤ pl.length ∧ i = .int .i64 j ∧ t = .slice pa e2.length pc ∧ e2.length ≤ 40 * k + j ∧ Hid (RowE 2 wb wb.heap.size e2 pa pc wq) ∧ Hid (OwnR wq w3.heap.size (.slice a3 pl.length c3) pl) ∧ Hid (e2 ++ valsK (pl.drop j) key = e ++ eo)) (fun _ i _ => pl.length - (intOf i).toNat)
        case atStart => exact ⟨0, e, qa, qc, Nat.zero_le _, rfl, rfl, by omega, HR5, HP5, Lib.hid (by rw [HEO.out]; rfl)⟩
        case round =>
          obtain ⟨j, e2, pa, pc, hj, rfl, rfl, hel2, HR6, HP6, HV⟩ := hrel
          by_cases hlt2 : j < pl.length
          · obtain ⟨r, hrr⟩ : ∃ r, pl[j]? = some r := ⟨_, List.getElem?_eq_getElem hlt2⟩
            obtain ⟨b2, f2, hra, d0, d1, d2⟩ := (OwnR.in' HP6.out rfl).at hrr
            have hpl40 := HLN.out.2
            have HV2 : Hid (e2 ++ valsK (r :: pl.drop (j + 1)) key = e ++ eo) := by
              have := HV.out
              rw [drop_cons' hrr] at this
              exact Lib.hid this
            have hbl2 : b2 < wr.heap.size := lt_of_cell d0
            obtain ⟨w7, hw7⟩ : ∃ w7, w7 = wr.alloc (.cells #[.int .i64 r.src, .int .i64 r.key, .int .i64 r.val] 36) := ⟨_, rfl⟩
            have hu7 : Upd0 wr w7 := by rw [hw7]; exact (Upd.refl _ wr).alloc _
            have HR7 := Lib.hid (HR6.out.upd0 hu7)
            have HP7 := Lib.hid (ownsRow_any HP6.out hu7 (fun _ _ e => e))
            have HX7 := Lib.hid (show w7.heap[wr.heap.size]? = some (.cells #[.int .i64 r.src, .int .i64 r.key, .int .i64 r.val] 36 (0, 0)) by rw [hw7]; exact alloc_at rfl)
            have HK7 := Lib.hid ((HR7.out.upd.block _ (lt_of_heap HX2.out) (fun e => e)).trans HX2.out)
            have HSK := Lib.hid (samekey_any r key w7)
            obtain ⟨sk, hsk⟩ : ∃ sk, sk = sameK r key := ⟨_, rfl⟩
            rw [← hsk] at HSK
            have HSKE := Lib.hid hsk
            obtain ⟨k0, k1, k2⟩ := cells3_of ((HR6.out.upd.block _ (lt_of_heap HX2.out) (fun e => e)).trans HX2.out)
            have hkl := Nat.lt_of_lt_of_le (lt_of_heap HX2.out) HR6.out.upd.size
            subst hra
            clear hrr hsk hu7 HV
            go_wp2_with (go_at_call 67; fail)
            rw [← hw7]
            clear hw7 d0 d1 d2 k0 k1 k2
            refine HSK.out.mono ?_
            rintro _ w8 ⟨rfl, hu8⟩
            have HR8 := Lib.hid (HR7.out.upd0 hu8)
            have HP8 := Lib.hid (ownsRow_any HP7.out hu8 (fun _ _ e => e))
            obtain ⟨d0, d1, d2⟩ := cells3_of ((hu8.block _ (lt_of_heap HX7.out) (fun e => e)).trans HX7.out)
            clear hu8 HSK
            simp only []
            cases sk
            · go_wp2
              go_roundw
              case rel => 
                refine ⟨j + 1, e2, pa, pc, by omega, by go_num, rfl, by omega, HR8, HP8, Lib.hid ?_⟩
                rw [← HV2.out, valsK, valsK, List.filter_cons, ← HSKE.out]
                rfl
              case measure => simp [intOf]; omega
            · obtain ⟨n, hn⟩ : ∃ n, n = e2.length := ⟨_, rfl⟩
              have HOW := Lib.hid (show w8.ownsRow wb.heap.size 2 1 (.slice pa n pc) n (e2.map I) by rw [hn]; exact HR8.out.own)
              rw [← hn] at hel2 ⊢
              go_wp2_with (at_builtin; obtain ⟨i0, hi, hz0, hs, hb⟩ := info_parts Tryz.info2p; refine wpList_app1 w8 rfl (.tmp 46) (.tmp 49) 55 rfl wb.heap.size 2 i0 (.int .i64 0) 1 8 Tryz.underlying55 hi hz0 hs hb rfl (by decide) (.slice pa n pc) n _ rfl HOW.out [.int .i64 r.val] 2 rfl rfl (by simp [Value.oneCell']) (by unfold maxLen; omega) (by omega) HR8.out.upd.size ?_; clear hi hz0 hs hb; intro g cap w9 hown hu9 _ _)
              have HR9 := Lib.hid (HR8.out.snoc hown hn hu9)
              have HP9 := Lib.hid (ownsRow_any HP8.out hu9 (types_apart HP8.out HOW.out (by decide)))
              clear hown hu9
              go_wp2
              go_roundw
              case rel => 
                refine ⟨j + 1, e2 ++ [r.val], some ⟨g, 0, none⟩, cap, by omega, by go_num, by rw [List.length_append, ← hn]; rfl, by rw [List.length_append, ← hn]; simp; omega, HR9, HP9, Lib.hid ?_⟩
                rw [← HV2.out, valsK, valsK, List.filter_cons, ← HSKE.out]
                simp
              case measure => simp [intOf]; omega
          · obtain rfl : j = pl.length := by omega
            have hpl40 := HLN.out.2
            have HV2 := HV.out
            rw [List.drop_of_length_le (Nat.le_refl _)] at HV2
            have HE3 : Hid (e2 ++ emV (xs.drop (k + 1)) (ats.drop (k + 1)) src key = em) := Lib.hid (by
              rw [← HE2.out, ← List.append_assoc, ← HV2]
              simp [valsK])
            go_wp2
            go_roundw
            case rel =>
              exact ⟨k + 1, e2, pa, pc, by omega, by go_num, rfl, by omega, HR6, HE3⟩
            case measure => simp [intOf]; omega
      · rw [hs, if_pos (by simp)] at HEO
        rw [HEO.out, List.nil_append] at HE2
        go_wp2
        go_roundw
        case rel => 
          rw [← hw3]
          exact ⟨k + 1, _, qa, qc, by omega, by go_num, rfl, by omega, HR3, HE2⟩
        case measure => simp [intOf]; omega
    · obtain rfl : k = xs.length := by omega
      have HE2 := HE.out
      rw [List.drop_of_length_le (Nat.le_refl _), emV_nil, List.append_nil] at HE2
      subst HE2
      go_wp2
      go_ret
      exact ⟨qa, qc, rfl, ownsRow_low HR.out.own HU.out.size, HU.out.trans HR.out.upd⟩
end Go.Proofs.YtbonfdkgkcbkmaaGreat
end

section
namespace Go.Proofs.YtbonfdkgkcbkmaaGreat
set_option maxRecDepth 100000
set_option maxRecDepth 100000
open Go.RowKit Go.Shelf

attribute [local go_sem] Oper.semAt_some
def srcP (os : List OpM) (ks : Int) (k : Int) : Bool := (srcs os k.toNat).contains ks
set_option maxHeartbeats 4000000 in
theorem srcp_any {oa xa : Option Addr} {os : List OpM} {xs : List InM} {oc xc wk kb : Nat} (key : RecV) (z : Int) (w : World) (h : WkIn w oa os oc xa xs) (hg : (chkG os).2 = 0) (hz : 0 ≤ z ∧ z < os.length)
    (hx : w.heap[wk]? = some (.cells #[.slice oa os.length oc, .slice xa xs.length xc] 27 (0, 0))) (hk : w.heap[kb]? = some (.cells #[.int .i64 key.src, .int .i64 key.key, .int .i64 key.val] 36 (0, 0))) :
    Calls Tryz.prog 138 #[.int .i64 z, .pointer (some ⟨wk, 0, none⟩), .pointer (some ⟨kb, 0, none⟩)] w fun e w' => e = .returned (.bool (srcP os key.src z)) ∧ Upd0 w w' := by
  obtain ⟨zn, rfl⟩ : ∃ zn : Nat, z = zn := ⟨z.toNat, by omega⟩
  have HC := Lib.hid (fun (W : World) (hW : Upd0 w W) => sourcesx_any (i := zn) W (h.ops.kept hW) h.cap h.om hg (by omega))
  have HX := Lib.hid hx; have HK := Lib.hid hk
  obtain ⟨bv, hbv⟩ : ∃ bv, bv = srcP os key.src zn := ⟨_, rfl⟩
  have HB := Lib.hid (show bv = (srcs os zn).contains key.src by rw [hbv, srcP, Int.toNat_natCast])
  rw [← hbv]
  clear h hx hk hbv
  go_enter Tryz.func138, Tryz.ntmps138
  go_upto_region 1 with fail
  have hA : Upd0 w w.drew := (Upd.refl _ w).drew
  refine wp_region_G 7 (fun W' => Upd0 w W') [false, false, false, false, false, false, false, false] rfl (by kernel_rfl) ?_
  generalize w.drew = wd at hA ⊢
  refine wpG_takeT (i := 0) (v := .pointer (some ⟨wk, 0, none⟩)) rfl (fun L hc h => (hc.waits (n := 7) (i := 0) (by kernel_rfl) h)) (by kernel_rfl) (fun _ _ _ h => h) hA (.inl ⟨rfl, fun w5 q1 => ?_⟩) ?_
  · go_simp
  simp only [Act.put, List.setIfInBounds_toArray, List.set]
  refine wpG_takeT (i := 1) (v := .agg #[.slice oa os.length oc]) rfl (fun L hc h => (hc.waits (n := 7) (i := 1) (by kernel_rfl) h)) (by kernel_rfl) (fun _ _ _ h => h) hA (.inl ⟨rfl, fun w5 q1 => ?_⟩) ?_
  · obtain ⟨c0, c1⟩ := cells2_of ((q1.block _ (lt_of_heap HX.out) (fun e => e)).trans HX.out)
    go_simp
  simp only [Act.put, List.setIfInBounds_toArray, List.set]
  refine wpG_takeT (i := 2) (v := .int .i64 zn) rfl (fun L hc h => (hc.waits (n := 7) (i := 2) (by kernel_rfl) h)) (by kernel_rfl) (fun _ _ _ h => h) hA (.inl ⟨rfl, fun w5 q1 => ?_⟩) ?_
  · go_simp
  simp only [Act.put, List.setIfInBounds_toArray, List.set]
  refine wpG_takeT (i := 4) (v := .pointer (some ⟨kb, 0, none⟩)) rfl (fun L hc h => (hc.waits (n := 7) (i := 4) (by kernel_rfl) h)) (by kernel_rfl) (fun _ _ _ h => h) hA (.inl ⟨rfl, fun w5 q1 => ?_⟩) ?_
  · go_simp
  simp only [Act.put, List.setIfInBounds_toArray, List.set]
  refine wpG_takeT (i := 5) (v := .int .i64 key.src) rfl (fun L hc h => (hc.waits (n := 7) (i := 5) (by kernel_rfl) h)) (by kernel_rfl) (fun _ _ _ h => h) hA (.inl ⟨rfl, fun w5 q1 => ?_⟩) ?_
  · obtain ⟨c0, c1, c2⟩ := cells3_of ((q1.block _ (lt_of_heap HK.out) (fun e => e)).trans HK.out)
    go_simp
  simp only [Act.put, List.setIfInBounds_toArray, List.set]
  refine wpG_doIf (i := 3) rfl (by kernel_rfl) rfl (fun K hK => ?_)
  have HKK := Lib.hid hK
  clear hK
  go_step
  refine (HC.out wd hA).mono ?_
  rintro _ w3 ⟨a3, c3, rfl, hi3, hl3, hu3⟩
  have hA3 := hA.trans hu3
  have HI3 := Lib.hid hi3
  clear hi3
  simp only []
  refine HKK.out _ _ hA3 ?_
  clear HKK
  simp only [Act.put, List.setIfInBounds_toArray, List.set]
  refine wpG_doIf (i := 6) rfl (by kernel_rfl) rfl (fun K hK => ?_)
  have HKK := Lib.hid hK
  clear hK
  go_step
  refine (contains_in key.src _ HI3.out (by omega)).mono ?_
  rintro _ w4 ⟨rfl, rfl⟩
  have hA5 := hA3
  simp only []
  refine HKK.out _ _ hA5 ?_
  clear HKK
  simp only [Act.put, List.setIfInBounds_toArray, List.set]
  refine wpG_tail_lit (k := 7) rfl rfl (by kernel_rfl) ?_
  simp only [List.drop]
  go_wp2
  go_ret
  exact ⟨ret_bool HB.out.symm, hA5⟩
end Go.Proofs.YtbonfdkgkcbkmaaGreat
end

section
namespace Go.Proofs.YtbonfdkgkcbkmaaGreat
set_option maxRecDepth 100000
set_option maxRecDepth 100000
open Go.RowKit Go.Shelf

attribute [local go_sem] Oper.semAt_some run_store_func
abbrev Res := List Int × CellV × Int
/-- What comes of an operator, in so many steps down. -/
def comesF (os : List OpM) (em : Int → List Int) (ks : Int) : Nat → Nat → Res
  | 0, _ => ([], ⟨0, 0⟩, 0)
  | f + 1, n => match os[n]? with
    | none => ([], ⟨0, 0⟩, 0)
    | some o =>
      if o.tag = 1 then (em o.a, ⟨0, 0⟩, 0)
      else if o.tag = 6 then
        if idxP (srcP os ks) o.ins < 0 then ([], ⟨0, 0⟩, 0)
        else ((comesF os em ks f (o.ins.getD (idxP (srcP os ks) o.ins).toNat 0).toNat).1, ⟨0, 0⟩, (comesF os em ks f (o.ins.getD (idxP (srcP os ks) o.ins).toNat 0).toNat).2.2)
      else if (comesF os em ks f (o.ins.getD 0 0).toNat).2.2 ≠ 0 then ([], ⟨0, 0⟩, (comesF os em ks f (o.ins.getD 0 0).toNat).2.2)
      else ((RunR o ⟨0, 0⟩ (comesF os em ks f (o.ins.getD 0 0).toNat).1).2.1, (RunR o ⟨0, 0⟩ (comesF os em ks f (o.ins.getD 0 0).toNat).1).1, (RunR o ⟨0, 0⟩ (comesF os em ks f (o.ins.getD 0 0).toNat).1).2.2)
theorem flowR_len (o : OpM) : ∀ (l : List Int) (c : CellV), (flowR o c l).1.length ≤ l.length
  | [], c => by simp [flowR]
  | v :: r, c => by
    rw [flowR]
    split
    · simp
    · have := flowR_len o r (stepR o c v).1
      simp only [List.length_append, List.length_cons]
      split <;> simp <;> omega
theorem RunR_len (o : OpM) (c : CellV) (l : List Int) : (RunR o c l).2.1.length ≤ 40 := by
  unfold RunR
  split
  · simp
  · unfold runR
    have := flowR_len o l c
    (repeat' split) <;> simp <;> omega
theorem comesF_len {os : List OpM} {em : Int → List Int} {ks : Int} (he : ∀ a, (em a).length ≤ 1000) : ∀ f n, (comesF os em ks f n).1.length ≤ 1000
  | 0, n => by simp [comesF]
  | f + 1, n => by
    rw [comesF]
    split
    · simp
    · rename_i o _
      split
      · exact he _
      · split
        · split
          · simp
          · exact comesF_len he f _
        · split
          · simp
          · have := RunR_len o ⟨0, 0⟩ (comesF os em ks f (o.ins.getD 0 0).toNat).1
            show (RunR o ⟨0, 0⟩ (comesF os em ks f (o.ins.getD 0 0).toNat).1).2.1.length ≤ 1000
            omega
theorem idxFrom_bd {α : Type} (p : α → Bool) : ∀ (l : List α) (k : Nat), idxFrom p l k = -1 ∨ ∃ j, j < l.length ∧ idxFrom p l k = ((k + j : Nat) : Int)
  | [], k => .inl rfl
  | z :: r, k => by
    rw [idxFrom]
    split
    · exact .inr ⟨0, by simp, by simp⟩
    · rcases idxFrom_bd p r (k + 1) with h | ⟨j, h1, h2⟩
      · exact .inl h
      · exact .inr ⟨j + 1, by simp; omega, by rw [h2]; congr 1; omega⟩
theorem idxP_bd {α : Type} (p : α → Bool) (l : List α) : idxP p l = -1 ∨ ∃ j : Nat, j < l.length ∧ idxP p l = (j : Int) := by
  rcases idxFrom_bd p l 0 with h | ⟨j, h1, h2⟩
  · exact .inl h
  · exact .inr ⟨j, h1, by rw [idxP, h2]; simp⟩
theorem OwnI.low {w : World} {B : Nat} {e : TypeId} {a : Option Addr} {n c : Nat} {l : List Int} (h : w.ownsRow B e 1 (.slice a n c) n (l.map I)) : ∀ b f, a = some ⟨b, f, none⟩ → b < w.heap.size := by
  intro b f e1
  subst e1
  exact (World.ownsRow.lt h b rfl).2
theorem emV_len (src : Int) (key : RecV) : ∀ (xs : List InM) (ats : List (List Int)), (emV xs ats src key).length ≤ 40 * xs.length
  | [], ats => by rw [emV_nil]; simp
  | x :: xs, [] => by simp [emV]
  | x :: xs, o :: ats => by
    rw [emV, List.length_append]
    have h1 := emV_len src key xs ats
    have h2 : (emOf x o src key).length ≤ 40 := by
      unfold emOf
      split
      · simp
      · exact Nat.le_trans (valsK_len _ _) (preX_len x o).2
    simp only [List.length_cons]
    omega

/-- What comes reads. -/
structure CmAt (oa xa aa : Option Addr) (os : List OpM) (xs : List InM) (ats : List (List Int)) (oc xc ac wk ab kb fb : Nat) (key : RecV) (w : World) : Prop where
  wrk : WkIn w oa os oc xa xs
  rows : AtIn w aa ats
  bw : w.heap[wk]? = some (.cells #[.slice oa os.length oc, .slice xa xs.length xc] 27 (0, 0))
  ba : w.heap[ab]? = some (.cells #[.slice aa ats.length ac] 29 (0, 0))
  bk : w.heap[kb]? = some (.cells #[.int .i64 key.src, .int .i64 key.key, .int .i64 key.val] 36 (0, 0))
  bf : w.heap[fb]? = some (.cells #[.func (.func 135) #[] #[.pointer (some ⟨wk, 0, none⟩), .pointer (some ⟨ab, 0, none⟩), .pointer (some ⟨kb, 0, none⟩), .pointer (some ⟨fb, 0, none⟩)]] 238 (0, 0))
theorem CmAt.kept {oa xa aa : Option Addr} {os : List OpM} {xs : List InM} {ats : List (List Int)} {oc xc ac wk ab kb fb : Nat} {key : RecV} {w w' : World} (h : CmAt oa xa aa os xs ats oc xc ac wk ab kb fb key w) (hu : Upd0 w w') : CmAt oa xa aa os xs ats oc xc ac wk ab kb fb key w' :=
  have k : ∀ {j p}, w.heap[j]? = some p → w'.heap[j]? = some p := fun hp => (hu.block _ (lt_of_heap hp) (fun e => e)).trans hp
  ⟨h.wrk.kept hu, h.rows.kept hu, k h.bw, k h.ba, k h.bk, k h.bf⟩

set_option maxHeartbeats 16000000 in
theorem comes1_any {oa xa aa : Option Addr} {os : List OpM} {xs : List InM} {ats : List (List Int)} {oc xc ac wk ab kb fb : Nat} {key : RecV} (hg : (chkG os).2 = 0) (hal : ats.length = xs.length) (hoa : ∀ o ∈ os, o.a ≤ 9223372036854775807) : ∀ (f n : Nat) (w : World), n < f → n < os.length →
    CmAt oa xa aa os xs ats oc xc ac wk ab kb fb key w →
    Calls Tryz.prog 135 #[.int .i64 n, .pointer (some ⟨wk, 0, none⟩), .pointer (some ⟨ab, 0, none⟩), .pointer (some ⟨kb, 0, none⟩), .pointer (some ⟨fb, 0, none⟩)] w fun e w' => ∃ a c, e = .returned (.tuple #[.slice a (comesF os (fun s => emV xs ats s key) key.src f n).1.length c, .agg #[.int .i64 (comesF os (fun s => emV xs ats s key) key.src f n).2.1.count, .int .i64 (comesF os (fun s => emV xs ats s key) key.src f n).2.1.sum], .int .i64 (comesF os (fun s => emV xs ats s key) key.src f n).2.2]) ∧
      OwnI w' w.heap.size 2 (.slice a (comesF os (fun s => emV xs ats s key) key.src f n).1.length c) (comesF os (fun s => emV xs ats s key) key.src f n).1 ∧ Upd0 w w' := by
  intro f
  induction f with
  | zero => intro n w h; omega
  | succ f ih =>
    intro n w hf hn hcm
    have HG := Lib.hid hg; have HAL := Lib.hid hal; have HOA := Lib.hid hoa; have IH := Lib.hid ih
    have hwf := (chkG_wf hg).2.2
    have hol := (chkG_wf hg).2.1
    obtain ⟨o, ho⟩ : ∃ o, os[n]? = some o := ⟨_, List.getElem?_eq_getElem hn⟩
    obtain ⟨hn1, hn2, hn3⟩ := hwf.ins n o hn ho
    have HCE := Lib.hid (comesF.eq_2 os (fun s => emV xs ats s key) key.src n f)
    rw [ho] at HCE
    simp only at HCE
    obtain ⟨res, hres⟩ : ∃ res, res = comesF os (fun s => emV xs ats s key) key.src (f + 1) n := ⟨_, rfl⟩
    rw [← hres] at HCE ⊢
    have HLE := Lib.hid (show ∀ m, (comesF os (fun s => emV xs ats s key) key.src f m).1.length ≤ 1000 from fun m => comesF_len (fun a => by have := emV_len a key xs ats; have := hcm.wrk.xl; omega) f m)
    obtain ⟨⟨b0, f0, hoa0, c0, c1, c2, c3, c4⟩, hin, hil⟩ := hcm.wrk.ops.at ho
    have hoa1 := hoa o (List.mem_of_getElem? ho)
    obtain ⟨w1, hw1⟩ : ∃ w1, w1 = (w.alloc (.cells #[.int .i64 0, .int .i64 0] 61)).alloc (.cells #[.int .i64 o.tag, .int .i64 o.width, .slice o.ia o.ins.length o.ic, .int .i64 o.a, .int .i64 o.b] 89) := ⟨_, rfl⟩
    have hu1 : Upd0 w w1 := by rw [hw1]; exact ((Upd.refl _ w).alloc _).alloc _
    have HZ := Lib.hid (show w1.heap[w.heap.size]? = some (.cells #[.int .i64 0, .int .i64 0] 61 (0, 0)) by rw [hw1]; exact (alloc_lt (by simp)).trans (alloc_at rfl))
    have HO := Lib.hid (show w1.heap[w.heap.size + 1]? = some (.cells #[.int .i64 o.tag, .int .i64 o.width, .slice o.ia o.ins.length o.ic, .int .i64 o.a, .int .i64 o.b] 89 (0, 0)) by rw [hw1]; exact alloc_at (by simp))
    have HIN := Lib.hid (hin.kept hu1)
    have HCM := Lib.hid (hcm.kept hu1); have HU1 := Lib.hid hu1
    have HN2 := Lib.hid hn2
    obtain ⟨e0, e1⟩ := cells2_of hcm.bw
    have hbl : b0 < w.heap.size := lt_of_cell c0
    have hwl := lt_of_heap hcm.bw
    subst hoa0
    clear hg hal hoa ih hcm hwf ho hin hu1 hres hn2
    go_enter Tryz.func135, Tryz.ntmps135
    go_upto_region 2 with fail
    rw [← hw1]
    clear hw1 c0 c1 c2 c3 c4 e0 e1 hbl hwl
    obtain ⟨a0, a1, a2, a3, a4⟩ := cells5_of HO.out
    obtain ⟨z0, z1⟩ := cells2_of HZ.out
    have fz0 : w1.frozen? ⟨w.heap.size, 0, none⟩ = false := frozen_of_heap HZ.out
    have fz1 : w1.frozen? ⟨w.heap.size, 1, none⟩ = false := frozen_of_heap HZ.out
    by_cases ht : o.tag = 1
    · rw [if_pos ht] at HCE
      have ht' : (o.tag == 1) = true := by simpa using ht
      clear ht
      have HEM := Lib.hid (emitted_any (oc := oc) (xc := xc) (ac := ac) o.a key w1 HCM.out.wrk HCM.out.rows HAL.out)
      obtain ⟨k0, k1, k2⟩ := cells3_of HCM.out.bk
      obtain ⟨e0, e1⟩ := cells2_of HCM.out.bw
      have g0 := cells1_of HCM.out.ba
      go_wp2_with (go_at_call 136; fail)
      refine HEM.out.mono ?_
      rintro _ w5 ⟨a5, c5, rfl, ho5, hu5⟩
      have HZ5 := Lib.hid ((hu5.block _ (lt_of_heap HZ.out) (fun e => e)).trans HZ.out)
      have HO5 := Lib.hid (ownsRow_low ho5 HU1.out.size); have HU5 := Lib.hid (HU1.out.trans hu5)
      clear ho5 hu5 HEM a0 a1 a2 a3 a4 z0 z1 fz0 fz1 k0 k1 k2 e0 e1 g0
      obtain ⟨z0, z1⟩ := cells2_of HZ5.out
      have fz0 : w5.frozen? ⟨w.heap.size, 0, none⟩ = false := frozen_of_heap HZ5.out
      have fz1 : w5.frozen? ⟨w.heap.size, 1, none⟩ = false := frozen_of_heap HZ5.out
      simp only []
      go_wp2
      obtain ⟨p1, p2⟩ := put2 (u := .int .i64 0) (v := .int .i64 0) HZ5.out
      refine bodyPost_ret (results_tct (fn := Tryz.f135) rfl rfl (load44 p1)) rfl ⟨a5, c5, ?_, ?_, HU5.out.cut p2 (fun b hb => by omega)⟩
      · rw [HCE.out]; rfl
      · rw [HCE.out]
        refine ownsRow_any HO5.out p2 (fun k hk e => ?_)
        obtain ⟨cur, hcur⟩ := ownsRow_at HO5.out hk
        rw [e, HZ5.out] at hcur
        injection hcur with hcur
        injection hcur with _ hcur
        exact absurd hcur (by decide)
    · have ht' : (o.tag == 1) = false := by simpa using ht
      rw [if_neg ht] at HCE
      have hne : o.ins ≠ [] := hn1.resolve_left ht
      clear ht
      by_cases h6 : o.tag = 6
      · rw [if_pos h6] at HCE
        have h6' : (o.tag == 6) = true := by simpa using h6
        clear h6
        have HIX := Lib.hid (idxfI_any (a := o.ia) (c := o.ic) (g := 138) (lb := #[.pointer (some ⟨wk, 0, none⟩), .pointer (some ⟨kb, 0, none⟩)]) (p := srcP os key.src) w1 HIN.out hil (fun _ _ => rfl)
          (fun z W hz hW => srcp_any key z W (HCM.out.kept hW).wrk HG.out (by have := HN2.out z hz; omega) (HCM.out.kept hW).bw (HCM.out.kept hW).bk))
        obtain ⟨iv, hiv⟩ : ∃ iv, iv = idxP (srcP os key.src) o.ins := ⟨_, rfl⟩
        have HBD := Lib.hid (hiv ▸ idxP_bd (srcP os key.src) o.ins : iv = -1 ∨ ∃ j : Nat, j < o.ins.length ∧ iv = (j : Int))
        rw [← hiv] at HIX HCE
        clear hiv
        go_wp2_with (go_at_call 137; fail)
        refine HIX.out.mono ?_
        rintro _ w2 ⟨rfl, hu2⟩
        have HZ2 := Lib.hid ((hu2.block _ (lt_of_heap HZ.out) (fun e => e)).trans HZ.out)
        have HO2 := Lib.hid ((hu2.block _ (lt_of_heap HO.out) (fun e => e)).trans HO.out)
        have HCM2 := Lib.hid (HCM.out.kept hu2); have HIN2 := Lib.hid (HIN.out.kept hu2); have HU2 := Lib.hid (HU1.out.trans hu2)
        clear hu2 HIX HZ HO HCM HIN HU1 a0 a1 a2 a3 a4 z0 z1 fz0 fz1
        simp only []
        rcases HBD.out with rfl | ⟨j, hj, rfl⟩
        · rw [if_pos (by omega)] at HCE
          obtain ⟨z0, z1⟩ := cells2_of HZ2.out
          have fz0 : w2.frozen? ⟨w.heap.size, 0, none⟩ = false := frozen_of_heap HZ2.out
          have fz1 : w2.frozen? ⟨w.heap.size, 1, none⟩ = false := frozen_of_heap HZ2.out
          go_wp2
          obtain ⟨p1, p2⟩ := put2 (u := .int .i64 0) (v := .int .i64 0) HZ2.out
          refine bodyPost_ret (results_tct (fn := Tryz.f135) rfl rfl (load44 p1)) rfl ⟨none, 0, ?_, ?_, HU2.out.cut p2 (fun b hb => by omega)⟩
          · rw [HCE.out]; rfl
          · rw [HCE.out]; exact World.ownsRow_nil _ _ _ _
        · rw [if_neg (by omega), Int.toNat_natCast] at HCE
          obtain ⟨z, hz⟩ : ∃ z, o.ins[j]? = some z := ⟨_, List.getElem?_eq_getElem hj⟩
          obtain ⟨zn, rfl⟩ : ∃ zn : Nat, z = zn := ⟨z.toNat, by have := HN2.out z (List.mem_of_getElem? hz); omega⟩
          have hzn := HN2.out _ (List.mem_of_getElem? hz)
          rw [List.getD_eq_getElem?_getD, hz, Option.getD_some, Int.toNat_natCast] at HCE
          have HIH := Lib.hid (fun (W : World) (hW : Upd0 w2 W) => IH.out zn W (by omega) (by omega) (HCM2.out.kept hW))
          have hrl := HLE.out zn
          obtain ⟨b1, f1, hia, hc1⟩ := HIN2.out.cell hz
          have HC1 := Lib.hid hc1
          obtain ⟨rr, hrr⟩ : ∃ rr, rr = comesF os (fun s => emV xs ats s key) key.src f zn := ⟨_, rfl⟩
          rw [← hrr] at HCE HIH hrl
          obtain ⟨rl, rc, re⟩ := rr
          simp only at HCE hrl
          rw [hia] at HO2 ⊢
          clear hrr hz hzn hc1
          have hj' : (j : Int) < o.ins.length := by omega
          go_upto_region 9 with fail
          go_cut [11, 12, 13] from 45 to 55 (fun v11 v12 v13 wx => ∃ a3 c3 bo, v11 = .slice a3 rl.length c3 ∧ v12 = .pointer (some ⟨bo, 0, none⟩) ∧ v13 = .int .i64 re ∧ Hid (OwnI wx w2.heap.size 2 (.slice a3 rl.length c3) rl) ∧ Hid (Upd0 w2 wx))
          case first =>
            have hA : Upd0 w2 w2.drew := (Upd.refl _ _).drew
            have HU := Lib.hid hA
            refine wp_region_G 12 (fun W => Upd0 w2 W) [false, false, false, false, false, false, false, false, false, false, false, false, false, false, false] rfl (by kernel_rfl) ?_
            generalize w2.drew = we at hA HU ⊢
            refine wpG_takeT (i := 0) (v := .func (.func 135) #[] #[.pointer (some ⟨wk, 0, none⟩), .pointer (some ⟨ab, 0, none⟩), .pointer (some ⟨kb, 0, none⟩), .pointer (some ⟨fb, 0, none⟩)]) rfl (fun L hc h => (hc.waits (n := 12) (i := 0) (by kernel_rfl) h)) (by kernel_rfl) (fun _ _ _ h => h) hA (.inl ⟨rfl, fun w5 q1 => ?_⟩) ?_
            · have c0 := cells1_of ((q1.block _ (lt_of_heap HCM2.out.bf) (fun e => e)).trans HCM2.out.bf)
              go_simp
            simp only [Act.put, List.setIfInBounds_toArray, List.set]
            refine wpG_takeT (i := 1) (v := .pointer (some ⟨w.heap.size + 1, 2, none⟩)) rfl (fun L hc h => (hc.waits (n := 12) (i := 1) (by kernel_rfl) h)) (by kernel_rfl) (fun _ _ _ h => h) hA (.inl ⟨rfl, fun w5 q1 => ?_⟩) ?_
            · go_simp
            simp only [Act.put, List.setIfInBounds_toArray, List.set]
            refine wpG_takeT (i := 2) (v := .slice (some ⟨b1, f1, none⟩) o.ins.length o.ic) rfl (fun L hc h => (hc.waits (n := 12) (i := 2) (by kernel_rfl) h)) (by kernel_rfl) (fun _ _ _ h => h) hA (.inl ⟨rfl, fun w5 q1 => ?_⟩) ?_
            · obtain ⟨c0, c1, c2, c3, c4⟩ := cells5_of ((q1.block _ (lt_of_heap HO2.out) (fun e => e)).trans HO2.out)
              go_simp
            simp only [Act.put, List.setIfInBounds_toArray, List.set]
            refine wpG_takeT (i := 3) (v := .int .i64 j) rfl (fun L hc h => (hc.waits (n := 12) (i := 3) (by kernel_rfl) h)) (by kernel_rfl) (fun _ _ _ h => h) hA (.inl ⟨rfl, fun w5 q1 => ?_⟩) ?_
            · go_simp
            simp only [Act.put, List.setIfInBounds_toArray, List.set]
            refine wpG_takeT (i := 4) (v := .pointer (some ⟨b1, f1 + j, none⟩)) rfl (fun L hc h => (hc.waits (n := 12) (i := 4) (by kernel_rfl) h)) (by kernel_rfl) (fun _ _ _ h => h) hA (.inl ⟨rfl, fun w5 q1 => ?_⟩) ?_
            · go_simp
            simp only [Act.put, List.setIfInBounds_toArray, List.set]
            refine wpG_takeT (i := 5) (v := .int .i64 zn) rfl (fun L hc h => (hc.waits (n := 12) (i := 5) (by kernel_rfl) h)) (by kernel_rfl) (fun _ _ _ h => h) hA (.inl ⟨rfl, fun w5 q1 => ?_⟩) ?_
            · have c5 := cell_keptF q1 (fun e => e) HC1.out
              go_simp
            simp only [Act.put, List.setIfInBounds_toArray, List.set]
            refine wpG_do2 (i := 6) (j := 11) rfl rfl (by kernel_rfl) rfl rfl (fun K hK => ?_) (fun K hK => ?_)
            · have HKK := Lib.hid hK
              clear hK
              go_step
              refine (HIH.out we hA).mono ?_
              rintro _ weN ⟨a3, c3, rfl, ho3, g2⟩
              have HO := Lib.hid (ownsRow_low ho3 hA.size)
              have hA := hA.trans g2
              have HU := Lib.hid hA
              clear g2 ho3
              simp only []
              refine HKK.out _ _ hA ?_
              clear HKK
              simp only [Act.put, List.setIfInBounds_toArray, List.set]
              refine wpG_takeT (i := 7) (v := .tuple #[.slice a3 rl.length c3, .agg #[.int .i64 rc.count, .int .i64 rc.sum], .int .i64 re]) rfl (fun L hc h => (hc.waits (n := 12) (i := 7) (by kernel_rfl) h)) (by kernel_rfl) (fun _ _ _ h => h) hA (.inl ⟨rfl, fun w5 q1 => ?_⟩) ?_
              · go_simp
              simp only [Act.put, List.setIfInBounds_toArray, List.set]
              refine wpG_takeT (i := 8) (v := .slice a3 rl.length c3) rfl (fun L hc h => (hc.waits (n := 12) (i := 8) (by kernel_rfl) h)) (by kernel_rfl) (fun _ _ _ h => h) hA (.inl ⟨rfl, fun w5 q1 => ?_⟩) ?_
              · go_simp
              simp only [Act.put, List.setIfInBounds_toArray, List.set]
              refine wpG_takeP (i := 9) (v := .agg #[.int .i64 rc.count, .int .i64 rc.sum]) rfl (by kernel_rfl) (fun _ _ _ h => h) hA (.inl ⟨rfl, fun w5 q1 => ?_⟩) ?_
              · go_simp
              simp only [Act.put, List.setIfInBounds_toArray, List.set]
              refine wpG_takeP (i := 10) (v := .int .i64 re) rfl (by kernel_rfl) (fun _ _ _ h => h) hA (.inl ⟨rfl, fun w5 q1 => ?_⟩) ?_
              · go_simp
              simp only [Act.put, List.setIfInBounds_toArray, List.set]
              refine wpG_do (i := 11) rfl (by kernel_rfl) rfl (fun K hK => ?_)
              have HKK := Lib.hid hK
              clear hK
              go_step
              have ua : Upd (fun _ => False) weN (weN.alloc (.cells #[.int .i64 0, .int .i64 0] 61)) := (Upd.refl _ _).alloc _
              have HB6 := Lib.hid HU.out.size
              have HX := Lib.hid (alloc_at (w := weN) (o := .cells #[.int .i64 0, .int .i64 0] 61) rfl)
              have hA := hA.trans ua
              have HU := Lib.hid (HU.out.trans ua)
              have HO := Lib.hid (ownsRow_any HO.out ua (fun _ _ e => e))
              clear ua
              refine HKK.out _ _ hA ?_
              clear HKK
              simp only [Act.put, List.setIfInBounds_toArray, List.set]
              generalize weN.alloc (.cells #[.int .i64 0, .int .i64 0] 61) = weNX at HX hA HU HO ⊢
              generalize weN.heap.size = bo at HX HB6 ⊢
              refine wpG_tail_lit (k := 12) rfl rfl (by kernel_rfl) ?_
              simp only [List.drop]
              have fo0 : weNX.frozen? ⟨bo, 0, none⟩ = false := frozen_of_heap HX.out
              have fo1 : weNX.frozen? ⟨bo, 1, none⟩ = false := frozen_of_heap HX.out
              obtain ⟨d0, d1⟩ := cells2_of HX.out
              go_wp2
              go_meet
              case rel =>
                obtain ⟨p1, p2⟩ := put2 (u := .int .i64 rc.count) (v := .int .i64 rc.sum) HX.out
                refine ⟨a3, c3, bo, rfl, rfl, rfl, Lib.hid (ownsRow_any HO.out p2 (fun k hk e => ?_)), Lib.hid (hA.step p2 (fun k hk e => by have := HB6.out; omega))⟩
                obtain ⟨cur, hcur⟩ := ownsRow_at HO.out hk
                rw [e, HX.out] at hcur
                injection hcur with hcur
                injection hcur with _ hcur
                exact absurd hcur (by decide)
            · have HKK := Lib.hid hK
              clear hK
              go_step
              have ua : Upd (fun _ => False) we (we.alloc (.cells #[.int .i64 0, .int .i64 0] 61)) := (Upd.refl _ _).alloc _
              have HB6 := Lib.hid HU.out.size
              have HX := Lib.hid (alloc_at (w := we) (o := .cells #[.int .i64 0, .int .i64 0] 61) rfl)
              have hA := hA.trans ua
              have HU := Lib.hid (HU.out.trans ua)
              clear ua
              refine HKK.out _ _ hA ?_
              clear HKK
              simp only [Act.put, List.setIfInBounds_toArray, List.set]
              generalize we.alloc (.cells #[.int .i64 0, .int .i64 0] 61) = weX at HX hA HU ⊢
              generalize we.heap.size = bo at HX HB6 ⊢
              refine wpG_do (i := 6) rfl (by kernel_rfl) rfl (fun K hK => ?_)
              have HKK := Lib.hid hK
              clear hK
              go_step
              refine (HIH.out weX hA).mono ?_
              rintro _ weXN ⟨a3, c3, rfl, ho3, g2⟩
              have HO := Lib.hid (ownsRow_low ho3 hA.size)
              have hA := hA.trans g2
              have HU := Lib.hid hA
              have HX := Lib.hid ((g2.block _ (lt_of_heap HX.out) (fun e => e)).trans HX.out)
              clear g2 ho3
              simp only []
              refine HKK.out _ _ hA ?_
              clear HKK
              simp only [Act.put, List.setIfInBounds_toArray, List.set]
              refine wpG_takeT (i := 7) (v := .tuple #[.slice a3 rl.length c3, .agg #[.int .i64 rc.count, .int .i64 rc.sum], .int .i64 re]) rfl (fun L hc h => (hc.waits (n := 12) (i := 7) (by kernel_rfl) h)) (by kernel_rfl) (fun _ _ _ h => h) hA (.inl ⟨rfl, fun w5 q1 => ?_⟩) ?_
              · go_simp
              simp only [Act.put, List.setIfInBounds_toArray, List.set]
              refine wpG_takeT (i := 8) (v := .slice a3 rl.length c3) rfl (fun L hc h => (hc.waits (n := 12) (i := 8) (by kernel_rfl) h)) (by kernel_rfl) (fun _ _ _ h => h) hA (.inl ⟨rfl, fun w5 q1 => ?_⟩) ?_
              · go_simp
              simp only [Act.put, List.setIfInBounds_toArray, List.set]
              refine wpG_takeP (i := 9) (v := .agg #[.int .i64 rc.count, .int .i64 rc.sum]) rfl (by kernel_rfl) (fun _ _ _ h => h) hA (.inl ⟨rfl, fun w5 q1 => ?_⟩) ?_
              · go_simp
              simp only [Act.put, List.setIfInBounds_toArray, List.set]
              refine wpG_takeP (i := 10) (v := .int .i64 re) rfl (by kernel_rfl) (fun _ _ _ h => h) hA (.inl ⟨rfl, fun w5 q1 => ?_⟩) ?_
              · go_simp
              simp only [Act.put, List.setIfInBounds_toArray, List.set]
              refine wpG_tail_lit (k := 12) rfl rfl (by kernel_rfl) ?_
              simp only [List.drop]
              have fo0 : weXN.frozen? ⟨bo, 0, none⟩ = false := frozen_of_heap HX.out
              have fo1 : weXN.frozen? ⟨bo, 1, none⟩ = false := frozen_of_heap HX.out
              obtain ⟨d0, d1⟩ := cells2_of HX.out
              go_wp2
              go_meet
              case rel =>
                obtain ⟨p1, p2⟩ := put2 (u := .int .i64 rc.count) (v := .int .i64 rc.sum) HX.out
                refine ⟨a3, c3, bo, rfl, rfl, rfl, Lib.hid (ownsRow_any HO.out p2 (fun k hk e => ?_)), Lib.hid (hA.step p2 (fun k hk e => by have := HB6.out; omega))⟩
                obtain ⟨cur, hcur⟩ := ownsRow_at HO.out hk
                rw [e, HX.out] at hcur
                injection hcur with hcur
                injection hcur with _ hcur
                exact absurd hcur (by decide)
          case rest =>
            obtain ⟨a3, c3, bo, rfl, rfl, rfl, HO3, HU3⟩ := hcut
            have HZ3 := Lib.hid ((HU3.out.block _ (lt_of_heap HZ2.out) (fun e => e)).trans HZ2.out)
            obtain ⟨z0, z1⟩ := cells2_of HZ3.out
            have fz0 : wc.frozen? ⟨w.heap.size, 0, none⟩ = false := frozen_of_heap HZ3.out
            have fz1 : wc.frozen? ⟨w.heap.size, 1, none⟩ = false := frozen_of_heap HZ3.out
            go_wp2
            obtain ⟨p1, p2⟩ := put2 (u := .int .i64 0) (v := .int .i64 0) HZ3.out
            refine bodyPost_ret (results_tct (fn := Tryz.f135) rfl rfl (load44 p1)) rfl ⟨a3, c3, ?_, ?_, (HU2.out.trans HU3.out).cut p2 (fun b hb => by omega)⟩
            · rw [HCE.out]; rfl
            · rw [HCE.out]
              refine ownsRow_low (ownsRow_any HO3.out p2 (fun k hk e => ?_)) HU2.out.size
              have := (World.ownsRow.lt HO3.out k hk).1
              have := lt_of_heap HZ2.out
              omega
      · rw [if_neg h6] at HCE
        have h6' : (o.tag == 6) = false := by simpa using h6
        clear h6
        obtain ⟨z, hz⟩ : ∃ z, o.ins[0]? = some z := ⟨_, List.getElem?_eq_getElem (List.length_pos_iff.2 hne)⟩
        have hpos : 0 < o.ins.length := List.length_pos_iff.2 hne
        obtain ⟨zn, rfl⟩ : ∃ zn : Nat, z = zn := ⟨z.toNat, by have := HN2.out z (List.mem_of_getElem? hz); omega⟩
        have hzn := HN2.out _ (List.mem_of_getElem? hz)
        rw [List.getD_eq_getElem?_getD, hz, Option.getD_some, Int.toNat_natCast] at HCE
        have HIH := Lib.hid (fun (W : World) (hW : Upd0 w1 W) => IH.out zn W (by omega) (by omega) (HCM.out.kept hW))
        have hrl := HLE.out zn
        obtain ⟨b1, f1, hia, hc1⟩ := HIN.out.cell hz
        rw [Nat.add_zero] at hc1
        have HC1 := Lib.hid hc1
        obtain ⟨rr, hrr⟩ : ∃ rr, rr = comesF os (fun s => emV xs ats s key) key.src f zn := ⟨_, rfl⟩
        rw [← hrr] at HCE HIH hrl
        obtain ⟨rl, rc, re⟩ := rr
        simp only at HCE hrl
        obtain ⟨ru, hru⟩ : ∃ ru, ru = RunR o ⟨0, 0⟩ rl := ⟨_, rfl⟩
        rw [← hru] at HCE
        have HRUN := Lib.hid (fun (W : World) (hW : Upd0 w1 W) (a3 : Option Addr) (c3 : Nat) (h3 : OwnI W w1.heap.size 2 (.slice a3 rl.length c3) rl) => runx_any (vc := c3) o ⟨0, 0⟩ W (HIN.out.kept hW) hil (OwnI.in' h3) (by omega) hoa1 (by decide) (OwnI.low h3))
        rw [← hru] at HRUN
        obtain ⟨cf, ys, ef⟩ := ru
        rw [hia] at HO HRUN ⊢
        rw [hia] at a2
        clear hrr hz hzn hc1 hru
        have hj' : (0 : Int) < o.ins.length := by omega
        go_upto_region 11 with fail
        clear a0 a1 a2 a3 a4 z0 z1 fz0 fz1
        go_cut [14, 15, 16] from 59 to 68 (fun v14 v15 v16 wx => ∃ a3 c3 bo, v14 = .slice a3 rl.length c3 ∧ v15 = .pointer (some ⟨bo, 0, none⟩) ∧ v16 = .int .i64 re ∧ Hid (OwnI wx w1.heap.size 2 (.slice a3 rl.length c3) rl) ∧ Hid (Upd0 w1 wx))
        case first =>
          have hA : Upd0 w1 w1.drew := (Upd.refl _ _).drew
          have HU := Lib.hid hA
          refine wp_region_G 11 (fun W => Upd0 w1 W) [false, false, false, false, false, false, false, false, false, false, false, false, false, false] rfl (by kernel_rfl) ?_
          generalize w1.drew = we at hA HU ⊢
          refine wpG_takeT (i := 0) (v := .func (.func 135) #[] #[.pointer (some ⟨wk, 0, none⟩), .pointer (some ⟨ab, 0, none⟩), .pointer (some ⟨kb, 0, none⟩), .pointer (some ⟨fb, 0, none⟩)]) rfl (fun L hc h => (hc.waits (n := 11) (i := 0) (by kernel_rfl) h)) (by kernel_rfl) (fun _ _ _ h => h) hA (.inl ⟨rfl, fun w5 q1 => ?_⟩) ?_
          · have c0 := cells1_of ((q1.block _ (lt_of_heap HCM.out.bf) (fun e => e)).trans HCM.out.bf)
            go_simp
          simp only [Act.put, List.setIfInBounds_toArray, List.set]
          refine wpG_takeT (i := 1) (v := .pointer (some ⟨w.heap.size + 1, 2, none⟩)) rfl (fun L hc h => (hc.waits (n := 11) (i := 1) (by kernel_rfl) h)) (by kernel_rfl) (fun _ _ _ h => h) hA (.inl ⟨rfl, fun w5 q1 => ?_⟩) ?_
          · go_simp
          simp only [Act.put, List.setIfInBounds_toArray, List.set]
          refine wpG_takeT (i := 2) (v := .slice (some ⟨b1, f1, none⟩) o.ins.length o.ic) rfl (fun L hc h => (hc.waits (n := 11) (i := 2) (by kernel_rfl) h)) (by kernel_rfl) (fun _ _ _ h => h) hA (.inl ⟨rfl, fun w5 q1 => ?_⟩) ?_
          · obtain ⟨c0, c1, c2, c3, c4⟩ := cells5_of ((q1.block _ (lt_of_heap HO.out) (fun e => e)).trans HO.out)
            go_simp
          simp only [Act.put, List.setIfInBounds_toArray, List.set]
          refine wpG_takeT (i := 3) (v := .pointer (some ⟨b1, f1, none⟩)) rfl (fun L hc h => (hc.waits (n := 11) (i := 3) (by kernel_rfl) h)) (by kernel_rfl) (fun _ _ _ h => h) hA (.inl ⟨rfl, fun w5 q1 => ?_⟩) ?_
          · go_simp
          simp only [Act.put, List.setIfInBounds_toArray, List.set]
          refine wpG_takeT (i := 4) (v := .int .i64 zn) rfl (fun L hc h => (hc.waits (n := 11) (i := 4) (by kernel_rfl) h)) (by kernel_rfl) (fun _ _ _ h => h) hA (.inl ⟨rfl, fun w5 q1 => ?_⟩) ?_
          · have c5 := cell_keptF q1 (fun e => e) HC1.out
            go_simp
          simp only [Act.put, List.setIfInBounds_toArray, List.set]
          refine wpG_do2 (i := 5) (j := 10) rfl rfl (by kernel_rfl) rfl rfl (fun K hK => ?_) (fun K hK => ?_)
          · have HKK := Lib.hid hK
            clear hK
            go_step
            refine (HIH.out we hA).mono ?_
            rintro _ weN ⟨a3, c3, rfl, ho3, g2⟩
            have HOW := Lib.hid (ownsRow_low ho3 hA.size)
            have hA := hA.trans g2
            have HU := Lib.hid hA
            clear g2 ho3
            simp only []
            refine HKK.out _ _ hA ?_
            clear HKK
            simp only [Act.put, List.setIfInBounds_toArray, List.set]
            refine wpG_takeT (i := 6) (v := .tuple #[.slice a3 rl.length c3, .agg #[.int .i64 rc.count, .int .i64 rc.sum], .int .i64 re]) rfl (fun L hc h => (hc.waits (n := 11) (i := 6) (by kernel_rfl) h)) (by kernel_rfl) (fun _ _ _ h => h) hA (.inl ⟨rfl, fun w5 q1 => ?_⟩) ?_
            · go_simp
            simp only [Act.put, List.setIfInBounds_toArray, List.set]
            refine wpG_takeT (i := 7) (v := .slice a3 rl.length c3) rfl (fun L hc h => (hc.waits (n := 11) (i := 7) (by kernel_rfl) h)) (by kernel_rfl) (fun _ _ _ h => h) hA (.inl ⟨rfl, fun w5 q1 => ?_⟩) ?_
            · go_simp
            simp only [Act.put, List.setIfInBounds_toArray, List.set]
            refine wpG_takeP (i := 8) (v := .agg #[.int .i64 rc.count, .int .i64 rc.sum]) rfl (by kernel_rfl) (fun _ _ _ h => h) hA (.inl ⟨rfl, fun w5 q1 => ?_⟩) ?_
            · go_simp
            simp only [Act.put, List.setIfInBounds_toArray, List.set]
            refine wpG_takeP (i := 9) (v := .int .i64 re) rfl (by kernel_rfl) (fun _ _ _ h => h) hA (.inl ⟨rfl, fun w5 q1 => ?_⟩) ?_
            · go_simp
            simp only [Act.put, List.setIfInBounds_toArray, List.set]
            refine wpG_do (i := 10) rfl (by kernel_rfl) rfl (fun K hK => ?_)
            have HKK := Lib.hid hK
            clear hK
            go_step
            have ua : Upd (fun _ => False) weN (weN.alloc (.cells #[.int .i64 0, .int .i64 0] 61)) := (Upd.refl _ _).alloc _
            have HB6 := Lib.hid HU.out.size
            have HX := Lib.hid (alloc_at (w := weN) (o := .cells #[.int .i64 0, .int .i64 0] 61) rfl)
            have hA := hA.trans ua
            have HU := Lib.hid (HU.out.trans ua)
            have HOW := Lib.hid (ownsRow_any HOW.out ua (fun _ _ e => e))
            clear ua
            refine HKK.out _ _ hA ?_
            clear HKK
            simp only [Act.put, List.setIfInBounds_toArray, List.set]
            generalize weN.alloc (.cells #[.int .i64 0, .int .i64 0] 61) = weNX at HX hA HU HOW ⊢
            generalize weN.heap.size = bo at HX HB6 ⊢
            refine wpG_tail_lit (k := 11) rfl rfl (by kernel_rfl) ?_
            simp only [List.drop]
            have fo0 : weNX.frozen? ⟨bo, 0, none⟩ = false := frozen_of_heap HX.out
            have fo1 : weNX.frozen? ⟨bo, 1, none⟩ = false := frozen_of_heap HX.out
            obtain ⟨d0, d1⟩ := cells2_of HX.out
            go_wp2
            go_meet
            case rel =>
              obtain ⟨p1, p2⟩ := put2 (u := .int .i64 rc.count) (v := .int .i64 rc.sum) HX.out
              refine ⟨a3, c3, bo, rfl, rfl, rfl, Lib.hid (ownsRow_any HOW.out p2 (fun k hk e => ?_)), Lib.hid (hA.step p2 (fun k hk e => by have := HB6.out; omega))⟩
              obtain ⟨cur, hcur⟩ := ownsRow_at HOW.out hk
              rw [e, HX.out] at hcur
              injection hcur with hcur
              injection hcur with _ hcur
              exact absurd hcur (by decide)
          · have HKK := Lib.hid hK
            clear hK
            go_step
            have ua : Upd (fun _ => False) we (we.alloc (.cells #[.int .i64 0, .int .i64 0] 61)) := (Upd.refl _ _).alloc _
            have HB6 := Lib.hid HU.out.size
            have HX := Lib.hid (alloc_at (w := we) (o := .cells #[.int .i64 0, .int .i64 0] 61) rfl)
            have hA := hA.trans ua
            have HU := Lib.hid (HU.out.trans ua)
            clear ua
            refine HKK.out _ _ hA ?_
            clear HKK
            simp only [Act.put, List.setIfInBounds_toArray, List.set]
            generalize we.alloc (.cells #[.int .i64 0, .int .i64 0] 61) = weX at HX hA HU ⊢
            generalize we.heap.size = bo at HX HB6 ⊢
            refine wpG_do (i := 5) rfl (by kernel_rfl) rfl (fun K hK => ?_)
            have HKK := Lib.hid hK
            clear hK
            go_step
            refine (HIH.out weX hA).mono ?_
            rintro _ weXN ⟨a3, c3, rfl, ho3, g2⟩
            have HOW := Lib.hid (ownsRow_low ho3 hA.size)
            have hA := hA.trans g2
            have HU := Lib.hid hA
            have HX := Lib.hid ((g2.block _ (lt_of_heap HX.out) (fun e => e)).trans HX.out)
            clear g2 ho3
            simp only []
            refine HKK.out _ _ hA ?_
            clear HKK
            simp only [Act.put, List.setIfInBounds_toArray, List.set]
            refine wpG_takeT (i := 6) (v := .tuple #[.slice a3 rl.length c3, .agg #[.int .i64 rc.count, .int .i64 rc.sum], .int .i64 re]) rfl (fun L hc h => (hc.waits (n := 11) (i := 6) (by kernel_rfl) h)) (by kernel_rfl) (fun _ _ _ h => h) hA (.inl ⟨rfl, fun w5 q1 => ?_⟩) ?_
            · go_simp
            simp only [Act.put, List.setIfInBounds_toArray, List.set]
            refine wpG_takeT (i := 7) (v := .slice a3 rl.length c3) rfl (fun L hc h => (hc.waits (n := 11) (i := 7) (by kernel_rfl) h)) (by kernel_rfl) (fun _ _ _ h => h) hA (.inl ⟨rfl, fun w5 q1 => ?_⟩) ?_
            · go_simp
            simp only [Act.put, List.setIfInBounds_toArray, List.set]
            refine wpG_takeP (i := 8) (v := .agg #[.int .i64 rc.count, .int .i64 rc.sum]) rfl (by kernel_rfl) (fun _ _ _ h => h) hA (.inl ⟨rfl, fun w5 q1 => ?_⟩) ?_
            · go_simp
            simp only [Act.put, List.setIfInBounds_toArray, List.set]
            refine wpG_takeP (i := 9) (v := .int .i64 re) rfl (by kernel_rfl) (fun _ _ _ h => h) hA (.inl ⟨rfl, fun w5 q1 => ?_⟩) ?_
            · go_simp
            simp only [Act.put, List.setIfInBounds_toArray, List.set]
            refine wpG_tail_lit (k := 11) rfl rfl (by kernel_rfl) ?_
            simp only [List.drop]
            have fo0 : weXN.frozen? ⟨bo, 0, none⟩ = false := frozen_of_heap HX.out
            have fo1 : weXN.frozen? ⟨bo, 1, none⟩ = false := frozen_of_heap HX.out
            obtain ⟨d0, d1⟩ := cells2_of HX.out
            go_wp2
            go_meet
            case rel =>
              obtain ⟨p1, p2⟩ := put2 (u := .int .i64 rc.count) (v := .int .i64 rc.sum) HX.out
              refine ⟨a3, c3, bo, rfl, rfl, rfl, Lib.hid (ownsRow_any HOW.out p2 (fun k hk e => ?_)), Lib.hid (hA.step p2 (fun k hk e => by have := HB6.out; omega))⟩
              obtain ⟨cur, hcur⟩ := ownsRow_at HOW.out hk
              rw [e, HX.out] at hcur
              injection hcur with hcur
              injection hcur with _ hcur
              exact absurd hcur (by decide)
        case rest =>
          obtain ⟨a3, c3, bo, rfl, rfl, rfl, HO3, HU3⟩ := hcut
          have HZ3 := Lib.hid ((HU3.out.block _ (lt_of_heap HZ.out) (fun e => e)).trans HZ.out)
          have HB3 := Lib.hid ((HU3.out.block _ (lt_of_heap HO.out) (fun e => e)).trans HO.out)
          have HR3 := Lib.hid (HRUN.out wc HU3.out a3 c3 HO3.out)
          obtain ⟨b0, b1', b2, b3, b4⟩ := cells5_of HB3.out
          obtain ⟨z0, z1⟩ := cells2_of HZ3.out
          have fz0 : wc.frozen? ⟨w.heap.size, 0, none⟩ = false := frozen_of_heap HZ3.out
          have fz1 : wc.frozen? ⟨w.heap.size, 1, none⟩ = false := frozen_of_heap HZ3.out
          by_cases hre : re = 0
          · subst hre
            rw [if_neg (by simp)] at HCE
            go_wp2_with (go_at_call 38; fail)
            refine HR3.out.mono ?_
            rintro _ w5 ⟨a5, c5, rfl, ho5, hu5⟩
            have HZ5 := Lib.hid ((hu5.block _ (lt_of_heap HZ3.out) (fun e => e)).trans HZ3.out)
            have HO5 := Lib.hid (ownsRow_low ho5 HU3.out.size); have HU5 := Lib.hid ((HU1.out.trans HU3.out).trans hu5)
            have hzl := lt_of_heap HZ5.out
            clear ho5 hu5 b0 b1' b2 b3 b4 z0 z1 fz0 fz1
            obtain ⟨z0, z1⟩ := cells2_of HZ5.out
            have fz0 : w5.frozen? ⟨w.heap.size, 0, none⟩ = false := frozen_of_heap HZ5.out
            have fz1 : w5.frozen? ⟨w.heap.size, 1, none⟩ = false := frozen_of_heap HZ5.out
            simp only []
            go_upto_region 15 with fail
            obtain ⟨w6, hw6⟩ : ∃ w6, w6 = w5.alloc (.cells #[.int .i64 cf.count, .int .i64 cf.sum] 61) := ⟨_, rfl⟩
            rw [← hw6]
            have hu6 : Upd0 w5 w6 := by rw [hw6]; exact (Upd.refl _ w5).alloc _
            have hb6 : w6.heap[w5.heap.size]? = some (.cells #[.int .i64 cf.count, .int .i64 cf.sum] 61 (0, 0)) := by rw [hw6]; exact alloc_at rfl
            have HZ6 := Lib.hid ((hu6.block _ (lt_of_heap HZ5.out) (fun e => e)).trans HZ5.out)
            have HO6 := Lib.hid (ownsRow_any HO5.out hu6 (fun _ _ e => e)); have HU6 := Lib.hid (HU5.out.trans hu6)
            obtain ⟨y0, y1⟩ := cells2_of hb6
            clear hw6 hu6 hb6 z0 z1 fz0 fz1
            obtain ⟨z0, z1⟩ := cells2_of HZ6.out
            have fz0 : w6.frozen? ⟨w.heap.size, 0, none⟩ = false := frozen_of_heap HZ6.out
            have fz1 : w6.frozen? ⟨w.heap.size, 1, none⟩ = false := frozen_of_heap HZ6.out
            go_region
            go_wp2
            obtain ⟨p1, p2⟩ := put2 (u := .int .i64 cf.count) (v := .int .i64 cf.sum) HZ6.out
            refine bodyPost_ret (results_tct (fn := Tryz.f135) rfl rfl (load44 p1)) rfl ⟨a5, c5, ?_, ?_, HU6.out.cut p2.drew (fun b hb => by omega)⟩
            · rw [HCE.out]; rfl
            · rw [HCE.out]
              refine ownsRow_low (ownsRow_any HO6.out p2.drew (fun k hk e => ?_)) HU1.out.size
              obtain ⟨cur, hcur⟩ := ownsRow_at HO6.out hk
              rw [e, HZ6.out] at hcur
              injection hcur with hcur
              injection hcur with _ hcur
              exact absurd hcur (by decide)
          · rw [if_pos hre] at HCE
            have hre' : (re != 0) = true := by simpa using hre
            clear hre
            go_wp2
            obtain ⟨p1, p2⟩ := put2 (u := .int .i64 0) (v := .int .i64 0) HZ3.out
            refine bodyPost_ret (results_tct (fn := Tryz.f135) rfl rfl (load44 p1)) rfl ⟨none, 0, ?_, ?_, (HU1.out.trans HU3.out).cut p2 (fun b hb => by omega)⟩
            · rw [HCE.out]; rfl
            · rw [HCE.out]; exact World.ownsRow_nil _ _ _ _
end Go.Proofs.YtbonfdkgkcbkmaaGreat
end

section
namespace Go.Proofs.YtbonfdkgkcbkmaaGreat
set_option maxRecDepth 100000
set_option maxRecDepth 100000
open Go.RowKit Go.Shelf

attribute [local go_sem] Oper.semAt_some run_store_func run_store_nilf
abbrev comesV (os : List OpM) (xs : List InM) (ats : List (List Int)) (key : RecV) (n : Nat) : Res := comesF os (fun s => emV xs ats s key) key.src (n + 1) n
set_option maxHeartbeats 4000000 in
theorem comes_any {oa xa aa : Option Addr} {os : List OpM} {xs : List InM} {ats : List (List Int)} {oc xc ac n : Nat} (key : RecV) (w : World) (h : WkIn w oa os oc xa xs) (ha : AtIn w aa ats) (hg : (chkG os).2 = 0) (hal : ats.length = xs.length) (hoa : ∀ o ∈ os, o.a ≤ 9223372036854775807) (hn : n < os.length) :
    Calls Tryz.prog 59 #[wkV oa os oc xa xs xc, .slice aa ats.length ac, .int .i64 n, .agg #[.int .i64 key.src, .int .i64 key.key, .int .i64 key.val]] w fun e w' => ∃ a c, e = .returned (.tuple #[.slice a (comesV os xs ats key n).1.length c, .agg #[.int .i64 (comesV os xs ats key n).2.1.count, .int .i64 (comesV os xs ats key n).2.1.sum], .int .i64 (comesV os xs ats key n).2.2]) ∧
      OwnI w' w.heap.size 2 (.slice a (comesV os xs ats key n).1.length c) (comesV os xs ats key n).1 ∧ Upd0 w w' := by
  obtain ⟨w1, hw1⟩ : ∃ w1, w1 = ((((w.alloc (.cells #[.slice oa os.length oc, .slice xa xs.length xc] 27)).alloc (.cells #[.slice aa ats.length ac] 29)).alloc (.cells #[.int .i64 key.src, .int .i64 key.key, .int .i64 key.val] 36)).alloc (.cells #[.int .i64 0, .int .i64 0] 61)).alloc (.cells #[.func (.func 135) #[] #[.pointer (some ⟨w.heap.size, 0, none⟩), .pointer (some ⟨w.heap.size + 1, 0, none⟩), .pointer (some ⟨w.heap.size + 2, 0, none⟩), .pointer (some ⟨w.heap.size + 4, 0, none⟩)]] 238) := ⟨_, rfl⟩
  have hu1 : Upd0 w w1 := by rw [hw1]; exact (((((Upd.refl _ w).alloc _).alloc _).alloc _).alloc _).alloc _
  have hb0 : w1.heap[w.heap.size]? = some (.cells #[.slice oa os.length oc, .slice xa xs.length xc] 27 (0, 0)) := by rw [hw1]; exact (alloc_lt (by simp <;> omega)).trans ((alloc_lt (by simp <;> omega)).trans ((alloc_lt (by simp <;> omega)).trans ((alloc_lt (by simp)).trans (alloc_at rfl))))
  have hb1 : w1.heap[w.heap.size + 1]? = some (.cells #[.slice aa ats.length ac] 29 (0, 0)) := by rw [hw1]; exact (alloc_lt (by simp <;> omega)).trans ((alloc_lt (by simp <;> omega)).trans ((alloc_lt (by simp <;> omega)).trans (alloc_at (by simp))))
  have hb2 : w1.heap[w.heap.size + 2]? = some (.cells #[.int .i64 key.src, .int .i64 key.key, .int .i64 key.val] 36 (0, 0)) := by rw [hw1]; exact (alloc_lt (by simp <;> omega)).trans ((alloc_lt (by simp <;> omega)).trans (alloc_at (by simp)))
  have HZ := Lib.hid (show w1.heap[w.heap.size + 3]? = some (.cells #[.int .i64 0, .int .i64 0] 61 (0, 0)) by rw [hw1]; exact (alloc_lt (by simp <;> omega)).trans (alloc_at (by simp)))
  have hb4 : w1.heap[w.heap.size + 4]? = some (.cells #[.func (.func 135) #[] #[.pointer (some ⟨w.heap.size, 0, none⟩), .pointer (some ⟨w.heap.size + 1, 0, none⟩), .pointer (some ⟨w.heap.size + 2, 0, none⟩), .pointer (some ⟨w.heap.size + 4, 0, none⟩)]] 238 (0, 0)) := by rw [hw1]; exact alloc_at (by simp)
  have HC := Lib.hid (comes1_any hg hal hoa (n + 1) n w1 (by omega) hn ⟨h.kept hu1, ha.kept hu1, hb0, hb1, hb2, hb4⟩)
  have HU1 := Lib.hid hu1
  obtain ⟨rr, hrr⟩ : ∃ rr, rr = comesV os xs ats key n := ⟨_, rfl⟩
  rw [← show rr = comesF os (fun s => emV xs ats s key) key.src (n + 1) n from hrr] at HC
  rw [← hrr]
  obtain ⟨rl, rc, re⟩ := rr
  have d0 := cells1_of hb4
  clear h ha hg hal hoa hu1 hb0 hb1 hb2 hb4 hrr
  go_enter Tryz.func59, Tryz.ntmps59
  go_upto_region 3 with fail
  rw [← hw1]
  clear hw1
  go_wp2_with (go_at_call 135; fail)
  refine HC.out.mono ?_
  rintro _ w5 ⟨a5, c5, rfl, ho5, hu5⟩
  have HZ5 := Lib.hid ((hu5.block _ (lt_of_heap HZ.out) (fun e => e)).trans HZ.out)
  have HO5 := Lib.hid (ownsRow_low ho5 HU1.out.size); have HU5 := Lib.hid (HU1.out.trans hu5)
  clear ho5 hu5 d0 HC
  obtain ⟨z0, z1⟩ := cells2_of HZ5.out
  have fz0 : w5.frozen? ⟨w.heap.size + 3, 0, none⟩ = false := frozen_of_heap HZ5.out
  have fz1 : w5.frozen? ⟨w.heap.size + 3, 1, none⟩ = false := frozen_of_heap HZ5.out
  simp only []
  go_wp2
  obtain ⟨p1, p2⟩ := put2 (u := .int .i64 rc.count) (v := .int .i64 rc.sum) HZ5.out
  refine bodyPost_ret (results_tct (fn := Tryz.f59) rfl rfl (load44 p1)) rfl ⟨a5, c5, rfl, ?_, HU5.out.cut p2 (fun b hb => by omega)⟩
  refine ownsRow_any HO5.out p2 (fun k hk e => ?_)
  obtain ⟨cur, hcur⟩ := ownsRow_at HO5.out hk
  rw [e, HZ5.out] at hcur
  injection hcur with hcur
  injection hcur with _ hcur
  exact absurd hcur (by decide)

theorem right_key (key : RecV) (w : World) : Calls Tryz.prog 122 #[.agg #[.int .i64 key.src, .int .i64 key.key, .int .i64 key.val]] w fun e w' => e = .returned (.int .i64 (chkRec key)) ∧ Upd0 w w' := by
  have HC := Lib.hid (reccheck_any key (w.alloc (.cells #[.int .i64 key.src, .int .i64 key.key, .int .i64 key.val] 36)))
  go_enter Tryz.func122, Tryz.ntmps122
  go_wp2_with (go_at_call 142; fail)
  refine HC.out.mono ?_
  rintro _ w2 ⟨rfl, hu2⟩
  have HU2 := Lib.hid (((Upd.refl (fun _ => False) w).alloc _).trans hu2)
  clear hu2
  simp only []
  go_wp2
  go_ret
  exact ⟨rfl, HU2.out⟩

/-- What Values, what Cell answers. -/
def doesV (os : List OpM) (xs : List InM) (ats : List (List Int)) (key : RecV) (n : Nat) : List Int × Int := if chkRec key ≠ 0 then ([], chkRec key) else ((comesV os xs ats key n).1, (comesV os xs ats key n).2.2)
def doesC (os : List OpM) (xs : List InM) (ats : List (List Int)) (key : RecV) (n : Nat) : CellV × Int := if chkRec key ≠ 0 then (⟨0, 0⟩, chkRec key) else ((comesV os xs ats key n).2.1, (comesV os xs ats key n).2.2)
def valuesR (os : List OpM) (xs : List InM) (ats : List (List Int)) (n : Int) (key : RecV) : List Int × Int :=
  if chkAt os xs ats ≠ 0 then ([], chkAt os xs ats) else if n < 0 ∨ os.length ≤ n then ([], 2) else doesV os xs ats key n.toNat
def cellR (os : List OpM) (xs : List InM) (ats : List (List Int)) (n : Int) (key : RecV) : CellV × Int :=
  if chkAt os xs ats ≠ 0 then (⟨0, 0⟩, chkAt os xs ats) else if n < 0 ∨ os.length ≤ n then (⟨0, 0⟩, 2) else doesC os xs ats key n.toNat

/-- The boxes that the asking functions read. -/
structure AkAt (oa xa aa : Option Addr) (os : List OpM) (xs : List InM) (ats : List (List Int)) (oc xc ac wk ab nb kb : Nat) (n : Int) (key : RecV) (w : World) : Prop where
  wrk : WkIn w oa os oc xa xs
  rows : AtIn w aa ats
  bw : w.heap[wk]? = some (.cells #[.slice oa os.length oc, .slice xa xs.length xc] 27 (0, 0))
  ba : w.heap[ab]? = some (.cells #[.slice aa ats.length ac] 29 (0, 0))
  bn : w.heap[nb]? = some (.cells #[.int .i64 n] 3 (0, 0))
  bk : w.heap[kb]? = some (.cells #[.int .i64 key.src, .int .i64 key.key, .int .i64 key.val] 36 (0, 0))
theorem AkAt.kept {oa xa aa : Option Addr} {os : List OpM} {xs : List InM} {ats : List (List Int)} {oc xc ac wk ab nb kb : Nat} {n : Int} {key : RecV} {w w' : World} (h : AkAt oa xa aa os xs ats oc xc ac wk ab nb kb n key w) (hu : Upd0 w w') : AkAt oa xa aa os xs ats oc xc ac wk ab nb kb n key w' :=
  have k : ∀ {j p}, w.heap[j]? = some p → w'.heap[j]? = some p := fun hp => (hu.block _ (lt_of_heap hp) (fun e => e)).trans hp
  ⟨h.wrk.kept hu, h.rows.kept hu, k h.bw, k h.ba, k h.bn, k h.bk⟩

set_option maxHeartbeats 4000000 in
theorem values1_any {oa xa aa : Option Addr} {os : List OpM} {xs : List InM} {ats : List (List Int)} {oc xc ac wk ab nb kb n : Nat} {key : RecV} (w : World) (h : AkAt oa xa aa os xs ats oc xc ac wk ab nb kb n key w) (hg : (chkG os).2 = 0) (hal : ats.length = xs.length) (hoa : ∀ o ∈ os, o.a ≤ 9223372036854775807) (hn : n < os.length) :
    Calls Tryz.prog 121 #[.pointer (some ⟨kb, 0, none⟩), .pointer (some ⟨wk, 0, none⟩), .pointer (some ⟨ab, 0, none⟩), .pointer (some ⟨nb, 0, none⟩)] w fun e w' => ∃ a c, e = .returned (.tuple #[.slice a (doesV os xs ats key n).1.length c, .int .i64 (doesV os xs ats key n).2]) ∧
      OwnI w' w.heap.size 2 (.slice a (doesV os xs ats key n).1.length c) (doesV os xs ats key n).1 ∧ Upd0 w w' := by
  have HE := Lib.hid (doesV.eq_1 os xs ats key n)
  obtain ⟨dv, hdv⟩ : ∃ dv, dv = doesV os xs ats key n := ⟨_, rfl⟩
  rw [← hdv] at HE ⊢
  have HC := Lib.hid (fun (W : World) (hW : Upd0 w W) => comes_any (xc := xc) (ac := ac) key W (h.kept hW).wrk (h.kept hW).rows hg hal hoa hn)
  have HR := Lib.hid (right_key key w)
  obtain ⟨rr, hrr⟩ : ∃ rr, rr = comesV os xs ats key n := ⟨_, rfl⟩
  rw [← hrr] at HE HC
  obtain ⟨rl, rc, re⟩ := rr
  obtain ⟨cr, hcr⟩ : ∃ cr, cr = chkRec key := ⟨_, rfl⟩
  rw [← hcr] at HE HR
  have H := Lib.hid h
  obtain ⟨k0, k1, k2⟩ := cells3_of h.bk
  clear h hg hal hoa hn hdv hrr hcr
  go_enter Tryz.func121, Tryz.ntmps121
  go_wp2_with (go_at_call 122; fail)
  refine HR.out.mono ?_
  rintro _ w2 ⟨rfl, hu2⟩
  have H2 := Lib.hid (H.out.kept hu2); have HC2 := Lib.hid (HC.out w2 hu2); have HU2 := Lib.hid hu2
  clear k0 k1 k2 hu2 HC HR
  simp only []
  by_cases hz : cr = 0
  · subst hz
    rw [if_neg (by simp)] at HE
    obtain ⟨k0, k1, k2⟩ := cells3_of H2.out.bk
    obtain ⟨e0, e1⟩ := cells2_of H2.out.bw
    have g0 := cells1_of H2.out.ba
    have g1 := cells1_of H2.out.bn
    go_wp2_with (go_at_call 59; fail)
    refine HC2.out.mono ?_
    rintro _ w5 ⟨a5, c5, rfl, ho5, hu5⟩
    have HO5 := Lib.hid (ownsRow_low ho5 HU2.out.size); have HU5 := Lib.hid (HU2.out.trans hu5)
    clear ho5 hu5 k0 k1 k2 e0 e1 g0 g1 HC2
    simp only []
    go_wp2
    go_ret2
    refine ⟨a5, c5, ?_, ?_, HU5.out.alloc _⟩
    · rw [HE.out]; rfl
    · rw [HE.out]
      exact ownsRow_any HO5.out ((Upd.refl (fun _ => False) w5).alloc _) (fun _ _ e => e)
  · have hz' : (cr != 0) = true := by simpa using hz
    rw [if_pos hz] at HE
    clear hz
    go_wp2
    go_ret2
    refine ⟨none, 0, ?_, ?_, HU2.out⟩
    · rw [HE.out]; rfl
    · rw [HE.out]; exact World.ownsRow_nil _ _ _ _

end Go.Proofs.YtbonfdkgkcbkmaaGreat
end

section
namespace Go.Proofs.YtbonfdkgkcbkmaaGreat
set_option maxRecDepth 100000
set_option maxRecDepth 100000
open Go.RowKit Go.Shelf

attribute [local go_sem] Oper.semAt_some run_store_func run_store_nilf
theorem chkAt_w {os : List OpM} {xs : List InM} {ats : List (List Int)} (h : chkAt os xs ats = 0) : chkW os xs = 0 ∧ ats.length = xs.length := by
  unfold chkAt at h
  split at h
  · rename_i h1; exact absurd h h1
  · rename_i h1
    split at h
    · omega
    · rename_i h2
      exact ⟨by omega, by omega⟩

set_option maxHeartbeats 4000000 in
theorem askedV_any {oa xa aa : Option Addr} {os : List OpM} {xs : List InM} {ats : List (List Int)} {oc xc ac wk ab nb kb : Nat} {n : Int} {key : RecV} (w : World) (h : AkAt oa xa aa os xs ats oc xc ac wk ab nb kb n key w) (hal : ats.length ≤ 50) (hoa : ∀ o ∈ os, o.a ≤ 9223372036854775807) :
    Calls Tryz.prog 120 #[wkV oa os oc xa xs xc, .slice aa ats.length ac, .int .i64 n, .func (.func 121) #[] #[.pointer (some ⟨kb, 0, none⟩), .pointer (some ⟨wk, 0, none⟩), .pointer (some ⟨ab, 0, none⟩), .pointer (some ⟨nb, 0, none⟩)]] w fun e w' => ∃ a c, e = .returned (.tuple #[.slice a (valuesR os xs ats n key).1.length c, .int .i64 (valuesR os xs ats n key).2]) ∧ OwnI w' w.heap.size 2 (.slice a (valuesR os xs ats n key).1.length c) (valuesR os xs ats n key).1 ∧ Upd0 w w' := by
  have HE := Lib.hid (valuesR.eq_1 os xs ats n key)
  obtain ⟨dv, hdv⟩ : ∃ dv, dv = valuesR os xs ats n key := ⟨_, rfl⟩
  rw [← hdv] at HE ⊢
  obtain ⟨w1, hw1⟩ : ∃ w1, w1 = w.alloc (.cells #[.slice oa os.length oc, .slice xa xs.length xc] 27) := ⟨_, rfl⟩
  have hu1 : Upd0 w w1 := by rw [hw1]; exact (Upd.refl _ w).alloc _
  have hb0 : w1.heap[w.heap.size]? = some (.cells #[.slice oa os.length oc, .slice xa xs.length xc] 27 (0, 0)) := by rw [hw1]; exact alloc_at rfl
  have HU1 := Lib.hid hu1; have HB := Lib.hid hb0
  have HC := Lib.hid (checkat_any (xc := xc) (ac := ac) w1 (h.wrk.kept hu1) (h.rows.kept hu1) hal)
  obtain ⟨cv, hcv⟩ : ∃ cv, cv = chkAt os xs ats := ⟨_, rfl⟩
  have HCV := Lib.hid hcv
  rw [← hcv] at HE HC
  have H := Lib.hid h; have HOA := Lib.hid hoa
  have hol := h.wrk.ol
  obtain ⟨c0, c1⟩ := cells2_of hb0
  clear h hoa hdv hcv hu1 hb0
  go_enter Tryz.func120, Tryz.ntmps120
  go_wp2_with (go_at_call 11; fail)
  rw [← hw1]
  clear hw1
  refine HC.out.mono ?_
  rintro _ w2 ⟨rfl, hu2⟩
  have HB2 := Lib.hid ((hu2.block _ (lt_of_heap HB.out) (fun e => e)).trans HB.out)
  have HU2 := Lib.hid (HU1.out.trans hu2)
  have H2 := Lib.hid (H.out.kept HU2.out)
  clear c0 c1 hu2 HC HB
  simp only []
  obtain ⟨c0, c1⟩ := cells2_of HB2.out
  by_cases hz : cv = 0
  · subst hz
    rw [if_neg (by simp)] at HE
    obtain ⟨hcw, hle⟩ := chkAt_w HCV.out.symm
    by_cases hneg : n < 0
    · rw [if_pos (.inl hneg)] at HE
      go_wp2
      go_ret2
      refine ⟨none, 0, ?_, ?_, HU2.out⟩
      · rw [HE.out]; rfl
      · rw [HE.out]; exact World.ownsRow_nil _ _ _ _
    · by_cases hbig : (os.length : Int) ≤ n
      · rw [if_pos (.inr hbig)] at HE
        go_wp2
        go_ret2
        refine ⟨none, 0, ?_, ?_, HU2.out⟩
        · rw [HE.out]; rfl
        · rw [HE.out]; exact World.ownsRow_nil _ _ _ _
      · rw [if_neg (by omega)] at HE
        obtain ⟨nn, rfl⟩ : ∃ nn : Nat, n = nn := ⟨n.toNat, by omega⟩
        rw [Int.toNat_natCast] at HE
        have HD := Lib.hid (values1_any w2 H2.out (chkW_g hcw) hle HOA.out (by omega))
        have hnl : nn < os.length := by omega
        have hneg' : ¬ (nn : Int) < 0 := by omega
        clear hcw hle
        go_wp2_with (go_at_call 121; fail)
        refine HD.out.mono ?_
        rintro _ w5 ⟨a5, c5, rfl, ho5, hu5⟩
        rw [← HE.out] at ho5 ⊢
        have HO5 := Lib.hid (ownsRow_low ho5 HU2.out.size); have HU5 := Lib.hid (HU2.out.trans hu5)
        clear ho5 hu5 c0 c1 HD HE
        simp only []
        go_wp2
        go_ret2
        exact ⟨a5, c5, rfl, HO5.out, HU5.out⟩
  · have hz' : (cv != 0) = true := by simpa using hz
    rw [if_pos hz] at HE
    clear hz
    go_wp2
    go_ret2
    refine ⟨none, 0, ?_, ?_, HU2.out⟩
    · rw [HE.out]; rfl
    · rw [HE.out]; exact World.ownsRow_nil _ _ _ _

set_option maxHeartbeats 4000000 in
theorem values_any {oa xa aa : Option Addr} {os : List OpM} {xs : List InM} {ats : List (List Int)} {oc xc ac : Nat} (n : Int) (key : RecV) (w : World) (h : WkIn w oa os oc xa xs) (ha : AtIn w aa ats) (hal : ats.length ≤ 50) (hoa : ∀ o ∈ os, o.a ≤ 9223372036854775807) :
    Calls Tryz.prog 51 #[wkV oa os oc xa xs xc, .slice aa ats.length ac, .int .i64 n, .agg #[.int .i64 key.src, .int .i64 key.key, .int .i64 key.val]] w fun e w' => ∃ a c, e = .returned (.tuple #[.slice a (valuesR os xs ats n key).1.length c, .int .i64 (valuesR os xs ats n key).2]) ∧ OwnI w' w.heap.size 2 (.slice a (valuesR os xs ats n key).1.length c) (valuesR os xs ats n key).1 ∧ Upd0 w w' := by
  obtain ⟨w1, hw1⟩ : ∃ w1, w1 = (((w.alloc (.cells #[.slice oa os.length oc, .slice xa xs.length xc] 27)).alloc (.cells #[.slice aa ats.length ac] 29)).alloc (.cells #[.int .i64 n] 3)).alloc (.cells #[.int .i64 key.src, .int .i64 key.key, .int .i64 key.val] 36) := ⟨_, rfl⟩
  have hu1 : Upd0 w w1 := by rw [hw1]; exact ((((Upd.refl _ w).alloc _).alloc _).alloc _).alloc _
  have HA := Lib.hid (show AkAt oa xa aa os xs ats oc xc ac w.heap.size (w.heap.size + 1) (w.heap.size + 2) (w.heap.size + 3) n key w1 from ⟨h.kept hu1, ha.kept hu1, by rw [hw1]; exact (alloc_lt (by simp <;> omega)).trans ((alloc_lt (by simp <;> omega)).trans ((alloc_lt (by simp)).trans (alloc_at rfl))), by rw [hw1]; exact (alloc_lt (by simp <;> omega)).trans ((alloc_lt (by simp <;> omega)).trans (alloc_at (by simp))), by rw [hw1]; exact (alloc_lt (by simp <;> omega)).trans (alloc_at (by simp)), by rw [hw1]; exact alloc_at (by simp)⟩)
  have HC := Lib.hid (askedV_any w1 HA.out hal hoa)
  have HU1 := Lib.hid hu1
  have c0 := cells2_of HA.out.bw
  have g0 := cells1_of HA.out.ba
  have g1 := cells1_of HA.out.bn
  obtain ⟨c0, c1⟩ := c0
  obtain ⟨dv, hdv⟩ : ∃ dv, dv = valuesR os xs ats n key := ⟨_, rfl⟩
  rw [← hdv] at HC ⊢
  clear h ha hoa hdv hu1
  go_enter Tryz.func51, Tryz.ntmps51
  go_wp2_with (go_at_call 120; fail)
  rw [← hw1]
  clear hw1
  refine HC.out.mono ?_
  rintro _ w5 ⟨a5, c5, rfl, ho5, hu5⟩
  have HO5 := Lib.hid (ownsRow_low ho5 HU1.out.size); have HU5 := Lib.hid (HU1.out.trans hu5)
  clear ho5 hu5
  simp only []
  go_wp2
  go_ret2
  exact ⟨a5, c5, rfl, HO5.out, HU5.out⟩

end Go.Proofs.YtbonfdkgkcbkmaaGreat
end

section
namespace Go.Proofs.YtbonfdkgkcbkmaaGreat
set_option maxRecDepth 100000
set_option maxRecDepth 100000
open Go.RowKit Go.Shelf

theorem Tryz.info58p : (Tryz.prog.info? 43).map (fun i => (i.zero, i.size, i.bytes)) = some (some (.agg #[.int .i64 0, .int .i64 0, .int .i64 0, .int .i64 0, .int .i64 0, .int .i64 0, .int .i64 0, .int .i64 0]), 8, 64) := by kernel_rfl
theorem made8 (n : Nat) : madeCells #[.int .i64 0, .int .i64 0, .int .i64 0, .int .i64 0, .int .i64 0, .int .i64 0, .int .i64 0, .int .i64 0] n = Array.replicate n (.int .i64 0) := by
  apply Array.ext
  · simp [madeCells]
  · intro i h1 h2
    simp only [madeCells, Array.getElem_map, Array.getElem_range, Array.getElem_replicate]
    have h8 : i % 8 < 8 := Nat.mod_lt _ (by omega)
    show (#[Value.int .i64 0, .int .i64 0, .int .i64 0, .int .i64 0, .int .i64 0, .int .i64 0, .int .i64 0, .int .i64 0] : Array Value)[i % 8]! = _
    generalize i % 8 = j at h8
    match j, h8 with
    | 0, _ => rfl
    | 1, _ => rfl
    | 2, _ => rfl
    | 3, _ => rfl
    | 4, _ => rfl
    | 5, _ => rfl
    | 6, _ => rfl
    | 7, _ => rfl
/-- A place in a block of its own. -/
structure AtBlk (W : World) (g : Nat) (ats : List (List Int)) : Prop where
  out : ∃ cs, W.heap[g]? = some (.cells cs 43 (0, 0)) ∧ cs.size = ats.length * 8 ∧ ∀ i o, ats[i]? = some o → o.length = 8 ∧ ∀ t z, o[t]? = some z → cs[i * 8 + t]? = some (I z)
theorem AtBlk.in' {W : World} {g : Nat} {ats : List (List Int)} (h : AtBlk W g ats) : AtIn W (some ⟨g, 0, none⟩) ats := by
  obtain ⟨cs, h1, _, h3⟩ := h.out
  intro i x hx
  rw [List.getElem?_map, Option.map_eq_some_iff] at hx
  obtain ⟨o, ho, rfl⟩ := hx
  obtain ⟨h4, h5⟩ := h3 i o ho
  refine ⟨by simpa using h4, g, 0, rfl, fun t u hu => ?_⟩
  rw [List.getElem?_map, Option.map_eq_some_iff] at hu
  obtain ⟨z, hz, rfl⟩ := hu
  rw [Nat.zero_add, cell_of_heap h1]
  exact h5 t z hz
theorem AtBlk.kept {W W' : World} {g : Nat} {ats : List (List Int)} (h : AtBlk W g ats) (hu : Upd0 W W') : AtBlk W' g ats := by
  obtain ⟨cs, h1, h2⟩ := h.out
  exact ⟨cs, (hu.block _ (lt_of_heap h1) (fun e => e)).trans h1, h2⟩
theorem AtBlk.put {W : World} {g k : Nat} {ats : List (List Int)} {z0 z1 z2 z3 z4 z5 z6 z7 : Int} (h : AtBlk W g ats) (hk : k < ats.length) :
    AtBlk ((((((((W.setCell ⟨g, k * 8, none⟩ (.int .i64 z0)).setCell ⟨g, k * 8 + 1, none⟩ (.int .i64 z1)).setCell ⟨g, k * 8 + 2, none⟩ (.int .i64 z2)).setCell ⟨g, k * 8 + 3, none⟩ (.int .i64 z3)).setCell ⟨g, k * 8 + 4, none⟩ (.int .i64 z4)).setCell ⟨g, k * 8 + 5, none⟩ (.int .i64 z5)).setCell ⟨g, k * 8 + 6, none⟩ (.int .i64 z6)).setCell ⟨g, k * 8 + 7, none⟩ (.int .i64 z7)) g (ats.set k [z0, z1, z2, z3, z4, z5, z6, z7]) := by
  obtain ⟨cs, h1, h2, h3⟩ := h.out
  have := blk_set (i := k * 8 + 7) (v := .int .i64 z7) (blk_set (i := k * 8 + 6) (v := .int .i64 z6) (blk_set (i := k * 8 + 5) (v := .int .i64 z5) (blk_set (i := k * 8 + 4) (v := .int .i64 z4) (blk_set (i := k * 8 + 3) (v := .int .i64 z3) (blk_set (i := k * 8 + 2) (v := .int .i64 z2) (blk_set (i := k * 8 + 1) (v := .int .i64 z1) (blk_set (i := k * 8) (v := .int .i64 z0) h1)))))))
  refine ⟨_, this, by simp [h2], fun i o ho => ?_⟩
  by_cases e : i = k
  · subst e
    rw [List.getElem?_set_self hk] at ho
    injection ho with ho
    subst ho
    refine ⟨rfl, fun t z ht => ?_⟩
    have htl : t < 8 := (List.getElem?_eq_some_iff.1 ht).1
    match t, htl, ht with
    | 0, _, ht => simp at ht; subst ht; simp [Array.getElem?_setIfInBounds]; omega
    | 1, _, ht => simp at ht; subst ht; simp [Array.getElem?_setIfInBounds]; omega
    | 2, _, ht => simp at ht; subst ht; simp [Array.getElem?_setIfInBounds]; omega
    | 3, _, ht => simp at ht; subst ht; simp [Array.getElem?_setIfInBounds]; omega
    | 4, _, ht => simp at ht; subst ht; simp [Array.getElem?_setIfInBounds]; omega
    | 5, _, ht => simp at ht; subst ht; simp [Array.getElem?_setIfInBounds]; omega
    | 6, _, ht => simp at ht; subst ht; simp [Array.getElem?_setIfInBounds]; omega
    | 7, _, ht => simp at ht; subst ht; simp [Array.getElem?_setIfInBounds]; omega
  · rw [List.getElem?_set_ne (Ne.symm e)] at ho
    obtain ⟨h4, h5⟩ := h3 i o ho
    refine ⟨h4, fun t z ht => ?_⟩
    have htl : t < 8 := by have := (List.getElem?_eq_some_iff.1 ht).1; omega
    have := h5 t z ht
    simp only [Array.getElem?_setIfInBounds]
    rw [if_neg (by omega), if_neg (by omega), if_neg (by omega), if_neg (by omega), if_neg (by omega), if_neg (by omega), if_neg (by omega), if_neg (by omega)]
    exact this
theorem AtBlk.zero {W : World} {g n : Nat} (h : W.heap[g]? = some (.cells (Array.replicate (n * 8) (.int .i64 0)) 43 (0, 0))) : AtBlk W g (List.replicate n zer8) := by
  refine ⟨_, h, by simp, fun i o ho => ?_⟩
  obtain ⟨h1, h2⟩ := List.getElem?_eq_some_iff.1 ho
  rw [List.getElem_replicate] at h2
  subst h2
  refine ⟨rfl, fun t z ht => ?_⟩
  have htl : t < 8 := (List.getElem?_eq_some_iff.1 ht).1
  simp only [List.length_replicate] at h1
  rw [Array.getElem?_replicate, if_pos (by omega)]
  match t, htl, ht with
  | 0, _, ht => simp [zer8] at ht; subst ht; rfl
  | 1, _, ht => simp [zer8] at ht; subst ht; rfl
  | 2, _, ht => simp [zer8] at ht; subst ht; rfl
  | 3, _, ht => simp [zer8] at ht; subst ht; rfl
  | 4, _, ht => simp [zer8] at ht; subst ht; rfl
  | 5, _, ht => simp [zer8] at ht; subst ht; rfl
  | 6, _, ht => simp [zer8] at ht; subst ht; rfl
  | 7, _, ht => simp [zer8] at ht; subst ht; rfl
theorem mk58 (W : World) (n : Nat) (hn : n ≤ 50) : (Instr.makeSlice 29 (.int .i64 n) (.int .i64 n)).run Tryz.prog W = .ok (.slice (some ⟨W.heap.size, 0, none⟩) n n) (W.alloc (.cells (Array.replicate (n * 8) (.int .i64 0)) 43)) := by
  obtain ⟨i, hi, hz, hs, hb⟩ := info_parts Tryz.info58p
  have := run_make W 29 43 i _ Tryz.underlying29 hi hz .i64 .i64 n n (by omega) (Int.le_refl _) (by rw [hb]; omega) (by omega)
  rw [hs] at this
  simp only [Int.toNat_natCast, Value.cells] at this
  rw [made8] at this
  exact this

/-- What None and Whole answer: a place, if the work may be. -/
def AtAns (w w' : World) (n : Nat) (c : Int) (ats : List (List Int)) (v : Value) : Prop :=
  (c ≠ 0 ∧ v = .slice none 0 0) ∨ (c = 0 ∧ ∃ g, w.heap.size ≤ g ∧ v = .slice (some ⟨g, 0, none⟩) n n ∧ AtBlk w' g ats)
def zeroAt (xs : List InM) : List (List Int) := List.replicate xs.length zer8

set_option maxHeartbeats 2000000 in
theorem none_any {oa xa : Option Addr} {os : List OpM} {xs : List InM} {oc xc : Nat} (w : World) (h : WkIn w oa os oc xa xs) :
    Calls Tryz.prog 118 #[wkV oa os oc xa xs xc] w fun e w' => ∃ v, e = .returned (.tuple #[v, .int .i64 (chkW os xs)]) ∧ AtAns w w' xs.length (chkW os xs) (zeroAt xs) v ∧ Upd0 w w' := by
  obtain ⟨wb, hwb⟩ : ∃ wb, wb = w.alloc (.cells #[.slice oa os.length oc, .slice xa xs.length xc] 27) := ⟨_, rfl⟩
  have HU := Lib.hid (show Upd0 w wb by rw [hwb]; exact (Upd.refl _ w).alloc _)
  have HX1 := Lib.hid (show wb.heap[w.heap.size]? = some (.cells #[.slice oa os.length oc, .slice xa xs.length xc] 27 (0, 0)) by rw [hwb]; exact alloc_at rfl)
  have HC := Lib.hid (check_any (xc := xc) wb (h.kept HU.out))
  obtain ⟨cv, hcv⟩ : ∃ cv, cv = chkW os xs := ⟨_, rfl⟩
  rw [← hcv] at HC ⊢
  obtain ⟨c0, c1⟩ := cells2_of HX1.out
  have hxl := h.xl
  clear h hcv
  go_enter Tryz.func118, Tryz.ntmps118
  go_wp2_with (go_at_call 52; fail)
  rw [← hwb]
  clear hwb
  refine HC.out.mono ?_
  rintro e w2 ⟨rfl, hu2⟩
  have HX2 := Lib.hid ((hu2.block _ (lt_of_heap HX1.out) (fun e => e)).trans HX1.out)
  have HU2 := Lib.hid (HU.out.trans hu2)
  clear hu2 c0 c1 HX1 HU HC
  simp only []
  by_cases hz : cv = 0
  · subst hz
    obtain ⟨c0, c1⟩ := cells2_of HX2.out
    have hmk := fun W => mk58 W xs.length (by omega)
    go_wp2
    go_ret2
    exact ⟨_, rfl, .inr ⟨rfl, w2.heap.size, HU2.out.size, rfl, AtBlk.zero (alloc_at rfl)⟩, HU2.out.alloc _⟩
  · have hz' : (cv != 0) = true := by simpa using hz
    go_wp2
    go_ret2
    exact ⟨_, rfl, .inl ⟨hz, rfl⟩, HU2.out⟩

def wholeAt (xs : List InM) : List (List Int) := xs.map fun x => totT x.recs
set_option maxHeartbeats 4000000 in
theorem whole_any {oa xa : Option Addr} {os : List OpM} {xs : List InM} {oc xc : Nat} (w : World) (h : WkIn w oa os oc xa xs) :
    Calls Tryz.prog 50 #[wkV oa os oc xa xs xc] w fun e w' => ∃ v, e = .returned (.tuple #[v, .int .i64 (chkW os xs)]) ∧ AtAns w w' xs.length (chkW os xs) (wholeAt xs) v ∧ Upd0 w w' := by
  obtain ⟨wb, hwb⟩ : ∃ wb, wb = w.alloc (.cells #[.slice oa os.length oc, .slice xa xs.length xc] 27) := ⟨_, rfl⟩
  have HU := Lib.hid (show Upd0 w wb by rw [hwb]; exact (Upd.refl _ w).alloc _)
  have HX1 := Lib.hid (show wb.heap[w.heap.size]? = some (.cells #[.slice oa os.length oc, .slice xa xs.length xc] 27 (0, 0)) by rw [hwb]; exact alloc_at rfl)
  have HC := Lib.hid (none_any (xc := xc) wb (h.kept HU.out))
  have H := Lib.hid h
  obtain ⟨cv, hcv⟩ : ∃ cv, cv = chkW os xs := ⟨_, rfl⟩
  have HCV := Lib.hid hcv
  rw [← hcv] at HC ⊢
  obtain ⟨c0, c1⟩ := cells2_of HX1.out
  have hxl := h.xl
  clear h hcv
  go_enter Tryz.func50, Tryz.ntmps50
  go_wp2_with (go_at_call 118; fail)
  rw [← hwb]
  clear hwb
  refine HC.out.mono ?_
  rintro e w2 ⟨v, rfl, hv, hu2⟩
  have HX2 := Lib.hid ((hu2.block _ (lt_of_heap HX1.out) (fun e => e)).trans HX1.out)
  have HU2 := Lib.hid (HU.out.trans hu2)
  have hws := HU.out.size
  clear hu2 c0 c1 HX1 HU HC
  simp only []
  rcases hv with ⟨hz, rfl⟩ | ⟨rfl, g, hg, rfl, hb⟩
  · go_wp2
    go_loopw [14] (fun i wr => i = .int .i64 0 ∧ Hid (Upd0 w2 wr)) (fun i _ => 0)
    case atStart => exact ⟨rfl, Lib.hid (Upd.refl _ _)⟩
    case round =>
      obtain ⟨rfl, HU3⟩ := hrel
      go_wp2
      go_ret2
      exact ⟨_, rfl, .inl ⟨hz, rfl⟩, HU2.out.trans HU3.out⟩
  · have HB := Lib.hid hb
    clear hb
    go_wp2
    go_loopw [14] (fun i wr => ∃ k : Nat, k ≤ xs.length ∧ i = .int .i64 k ∧ Hid (AtBlk wr g ((xs.take k).map (fun x => totT x.recs) ++ List.replicate (xs.length - k) zer8)) ∧ Hid (Upd (fun j => j = g) w2 wr)) (fun i _ => xs.length - (intOf i).toNat)
    case atStart => exact ⟨0, Nat.zero_le _, rfl, Lib.hid (by simpa [zeroAt] using HB.out), Lib.hid (Upd.refl _ _)⟩
    case round =>
      obtain ⟨k, hk, rfl, HK, HU3⟩ := hrel
      have HUW := Lib.hid (HU2.out.cut HU3.out (fun b hb => by omega))
      have hxg : w2.heap[w.heap.size]? = _ := HX2.out
      have HX3 := Lib.hid ((HU3.out.block _ (lt_of_heap HX2.out) (fun e => by subst e; obtain ⟨cs, h1, _⟩ := HB.out.out; rw [HX2.out] at h1; injection h1 with h1; injection h1 with _ h1; exact absurd h1 (by decide))).trans HX2.out)
      clear hxg
      by_cases hlt : k < xs.length
      · obtain ⟨x, hx⟩ : ∃ x, xs[k]? = some x := ⟨_, List.getElem?_eq_getElem hlt⟩
        obtain ⟨⟨b, f, hxa, d0, d1⟩, hr, hrl⟩ := (H.out.ins.kept HUW.out).at hx
        have HCT := Lib.hid (totalx_any x wr hr hrl)
        have hci := chkW_in HCV.out.symm x (List.mem_of_getElem? hx)
        rw [hci, if_pos rfl] at HCT
        have hbl : b < wr.heap.size := lt_of_cell d0
        have HTK : Hid ((xs.take k).map (fun x => totT x.recs) ++ List.replicate (xs.length - k) zer8 = (xs.take k).map (fun x => totT x.recs) ++ zer8 :: List.replicate (xs.length - (k + 1)) zer8) := Lib.hid (by rw [show xs.length - k = xs.length - (k + 1) + 1 by omega, List.replicate_succ])
        have HTS : Hid (xs.take (k + 1) = xs.take k ++ [x]) := Lib.hid (take_cons' hx)
        obtain ⟨c0, c1⟩ := cells2_of HX3.out
        subst hxa
        clear hx hr hci
        go_wp2_with (go_at_call 119; fail)
        refine HCT.out.mono ?_
        rintro e w5 ⟨rfl, hu5⟩
        have HK5 := Lib.hid (HK.out.kept hu5)
        have HU5 := Lib.hid (HU3.out.trans (hu5.mono (fun _ _ e => e.elim)))
        have hat : ((xs.take k).map (fun x => totT x.recs) ++ List.replicate (xs.length - k) zer8)[k]? = some zer8 := by
          rw [HTK.out, List.getElem?_append_right (by simp; omega), List.length_map, List.length_take, Nat.min_eq_left hk, Nat.sub_self]; rfl
        obtain ⟨_, _, q0, q1, q2, q3, q4, q5, q6, q7, hga, _, e0, e1, e2, e3, e4, e5, e6, e7⟩ := HK5.out.in'.at hat
        injection hga with hga
        injection hga with hga1 hga2
        subst hga1 hga2
        simp only [Nat.zero_add] at e0 e1 e2 e3 e4 e5 e6 e7
        have f0 : ∀ j, w5.frozen? ⟨g, j, none⟩ = false := fun j => by obtain ⟨cs, h1, _⟩ := HK5.out.out; exact frozen_of_heap h1
        clear hu5 c0 c1 d0 d1 hat HCT
        simp only [totT, List.map_cons, List.map_nil]
        go_wp2
        go_roundw
        case rel =>
          refine ⟨k + 1, by omega, by go_num, ?_, ?_⟩
          · have hset : ((xs.take k).map (fun x => totT x.recs) ++ List.replicate (xs.length - k) zer8).set k [cnt x.recs 0, cnt x.recs 1, cnt x.recs 2, cnt x.recs 3, cnt x.recs 4, cnt x.recs 5, cnt x.recs 6, cnt x.recs 7] = (xs.take (k + 1)).map (fun x => totT x.recs) ++ List.replicate (xs.length - (k + 1)) zer8 := by
              rw [HTK.out, HTS.out, List.set_append_right _ _ (by simp; omega), List.length_map, List.length_take, Nat.min_eq_left hk, Nat.sub_self, List.set_cons_zero, List.map_append, List.append_assoc]
              rfl
            rw [← hset]
            exact Lib.hid (HK5.out.put (by simp; omega))
          · exact Lib.hid ((((((((HU5.out.trans (upd_own _ _ _ _)).trans (upd_own _ _ _ _)).trans (upd_own _ _ _ _)).trans (upd_own _ _ _ _)).trans (upd_own _ _ _ _)).trans (upd_own _ _ _ _)).trans (upd_own _ _ _ _)).trans (upd_own _ _ _ _))
        case measure => simp [intOf]; omega
      · obtain rfl : k = xs.length := by omega
        have HKB := HK.out
        rw [List.take_length, Nat.sub_self, List.replicate_zero, List.append_nil] at HKB
        have HKB := Lib.hid HKB
        clear HK
        go_wp2
        go_ret2
        exact ⟨_, rfl, .inr ⟨rfl, g, by omega, rfl, HKB.out⟩, HUW.out⟩
end Go.Proofs.YtbonfdkgkcbkmaaGreat
end

section
namespace Go.Proofs.YtbonfdkgkcbkmaaGreat
set_option maxRecDepth 100000
set_option maxRecDepth 100000
open Go.RowKit Go.Shelf

attribute [local go_sem] Oper.semAt_some
def wkO (b : Nat) : List OpM := [⟨1, 1, none, 0, [], 0, 0⟩, ⟨4, 1, some ⟨b, 0, none⟩, 1, [0], 0, 0⟩, ⟨7, 1, some ⟨b + 1, 0, none⟩, 1, [1], 0, 0⟩]
def wkX (b : Nat) : List InM := [⟨0, some ⟨b + 3, 0, none⟩, 3, [⟨0, 1, 2⟩, ⟨0, 9, 5⟩, ⟨0, 1, 3⟩]⟩]
theorem wk_chk (b : Nat) : chkW (wkO b) (wkX b) = 0 := by
  have h1 : (chkG (wkO b)).2 = 0 := rfl
  have h2 : (wkX b).any badIn = false := rfl
  have h3 : sortI (wantI (wkO b)) = [0] := by
    show sortI [0] = [0]
    simp [sortI]
  unfold chkW
  rw [h1, h2, h3]
  rfl
theorem wk_val (b : Nat) : valuesR (wkO b) (wkX b) (wholeAt (wkX b)) 2 ⟨0, 1, 0⟩ = ([2, 5], 0) := by
  have h1 : chkAt (wkO b) (wkX b) (wholeAt (wkX b)) = 0 := by
    unfold chkAt
    rw [wk_chk]
    rfl
  have h2 : emV (wkX b) (wholeAt (wkX b)) 0 ⟨0, 1, 0⟩ = [2, 3] := by kernel_rfl
  have h3 : RunR ⟨4, 1, some ⟨b, 0, none⟩, 1, [0], 0, 0⟩ ⟨0, 0⟩ [2, 3] = (⟨2, 5⟩, [2, 5], 0) := by kernel_rfl
  have h4 : RunR ⟨7, 1, some ⟨b + 1, 0, none⟩, 1, [1], 0, 0⟩ ⟨0, 0⟩ [2, 5] = (⟨0, 0⟩, [2, 5], 0) := by kernel_rfl
  have h5 : comesV (wkO b) (wkX b) (wholeAt (wkX b)) ⟨0, 1, 0⟩ 2 = ([2, 5], ⟨0, 0⟩, 0) := by kernel_rfl
  unfold valuesR doesV
  rw [h1, if_neg (by decide), if_neg (by show ¬ ((2 : Int) < 0 ∨ ((3 : Nat) : Int) ≤ 2); decide), if_neg (by decide)]
  show ((comesV (wkO b) (wkX b) (wholeAt (wkX b)) ⟨0, 1, 0⟩ 2).1, (comesV (wkO b) (wkX b) (wholeAt (wkX b)) ⟨0, 1, 0⟩ 2).2.2) = _
  rw [h5]
theorem flat_at {s : Nat} : ∀ {xs : List (List Value)} {i : Nat} {x : List Value}, (∀ y ∈ xs, y.length = s) → xs[i]? = some x → ∀ t u, x[t]? = some u → xs.flatten[i * s + t]? = some u
  | [], _, _, _, h, _, _, _ => by simp at h
  | y :: l, 0, x, hl, h, t, u, hu => by
    simp at h; subst h
    rw [List.flatten_cons, List.getElem?_append_left (by have := (List.getElem?_eq_some_iff.1 hu).1; omega)]
    simpa using hu
  | y :: l, i + 1, x, hl, h, t, u, hu => by
    have h3 : y.length = s := hl y (by simp)
    rw [List.flatten_cons, List.getElem?_append_right (by rw [h3, Nat.succ_mul]; omega), h3, show (i + 1) * s + t - s = i * s + t by rw [Nat.succ_mul]; omega]
    exact flat_at (fun z hz => hl z (by simp [hz])) (by simpa using h) t u hu
theorem row_flat {s : Nat} {w : World} {g : Nat} {ty : TypeId} {xs : List (List Value)} (h : w.heap[g]? = some (.cells xs.flatten.toArray ty (0, 0))) (hl : ∀ y ∈ xs, y.length = s) : Row s w (some ⟨g, 0, none⟩) xs := fun i x hx =>
  ⟨hl x (List.mem_of_getElem? hx), g, 0, rfl, fun t u hu => by
    rw [Nat.zero_add, cell_of_heap h]
    simpa using flat_at hl hx t u hu⟩
set_option maxHeartbeats 4000000 in
theorem wakes_any (w : World) : Calls Tryz.prog 9 #[] w fun e w' => e = .returned (.bool true) ∧ Upd0 w w' := by
  obtain ⟨b, hb⟩ : ∃ b, b = w.heap.size := ⟨_, rfl⟩
  obtain ⟨w1, hw1⟩ : ∃ w1, w1 = (((((w.alloc (.cells #[.int .i64 0] 3)).alloc (.cells #[.int .i64 1] 3)).alloc (.cells #[.int .i64 1, .int .i64 1, .slice none 0 0, .int .i64 0, .int .i64 0, .int .i64 4, .int .i64 1, .slice (some ⟨b, 0, none⟩) 1 1, .int .i64 0, .int .i64 0, .int .i64 7, .int .i64 1, .slice (some ⟨b + 1, 0, none⟩) 1 1, .int .i64 0, .int .i64 0] 89)).alloc (.cells #[.int .i64 0, .int .i64 1, .int .i64 2, .int .i64 0, .int .i64 9, .int .i64 5, .int .i64 0, .int .i64 1, .int .i64 3] 36)).alloc (.cells #[.int .i64 0, .slice (some ⟨b + 1 + 1 + 1, 0, none⟩) 3 3] 41)).alloc (.cells #[.slice (some ⟨b + 1 + 1, 0, none⟩) 3 3, .slice (some ⟨b + 1 + 1 + 1 + 1, 0, none⟩) 1 1] 27) := ⟨_, rfl⟩
  have HU := Lib.hid (show Upd0 w w1 by rw [hw1]; exact ((((((Upd.refl _ w).alloc _).alloc _).alloc _).alloc _).alloc _).alloc _)
  have h0 : w1.heap[b]? = some (.cells #[.int .i64 0] 3 (0, 0)) := by rw [hw1, hb]; exact (alloc_lt (by simp <;> omega)).trans ((alloc_lt (by simp <;> omega)).trans ((alloc_lt (by simp <;> omega)).trans ((alloc_lt (by simp <;> omega)).trans ((alloc_lt (by simp)).trans (alloc_at rfl)))))
  have h1 : w1.heap[b + 1]? = some (.cells #[.int .i64 1] 3 (0, 0)) := by rw [hw1, hb]; exact (alloc_lt (by simp <;> omega)).trans ((alloc_lt (by simp <;> omega)).trans ((alloc_lt (by simp <;> omega)).trans ((alloc_lt (by simp)).trans (alloc_at (by simp)))))
  have h2 : w1.heap[b + 1 + 1]? = some (.cells #[.int .i64 1, .int .i64 1, .slice none 0 0, .int .i64 0, .int .i64 0, .int .i64 4, .int .i64 1, .slice (some ⟨b, 0, none⟩) 1 1, .int .i64 0, .int .i64 0, .int .i64 7, .int .i64 1, .slice (some ⟨b + 1, 0, none⟩) 1 1, .int .i64 0, .int .i64 0] 89 (0, 0)) := by rw [hw1, hb]; exact (alloc_lt (by simp <;> omega)).trans ((alloc_lt (by simp <;> omega)).trans ((alloc_lt (by simp)).trans (alloc_at (by simp))))
  have h3 : w1.heap[b + 1 + 1 + 1]? = some (.cells #[.int .i64 0, .int .i64 1, .int .i64 2, .int .i64 0, .int .i64 9, .int .i64 5, .int .i64 0, .int .i64 1, .int .i64 3] 36 (0, 0)) := by rw [hw1, hb]; exact (alloc_lt (by simp <;> omega)).trans ((alloc_lt (by simp)).trans (alloc_at (by simp)))
  have h4 : w1.heap[b + 1 + 1 + 1 + 1]? = some (.cells #[.int .i64 0, .slice (some ⟨b + 1 + 1 + 1, 0, none⟩) 3 3] 41 (0, 0)) := by rw [hw1, hb]; exact (alloc_lt (by simp)).trans (alloc_at (by simp))
  have HX := Lib.hid (show w1.heap[b + 1 + 1 + 1 + 1 + 1]? = some (.cells #[.slice (some ⟨b + 1 + 1, 0, none⟩) 3 3, .slice (some ⟨b + 1 + 1 + 1 + 1, 0, none⟩) 1 1] 27 (0, 0)) by rw [hw1, hb]; exact alloc_at (by simp))
  have hi0 : IntsIn w1 (some ⟨b, 0, none⟩) [0] := row_flat (ty := 3) h0 (by simp)
  have hi1 : IntsIn w1 (some ⟨b + 1, 0, none⟩) [1] := row_flat (ty := 3) h1 (by simp)
  have HW := Lib.hid (show WkIn w1 (some ⟨b + 1 + 1, 0, none⟩) (wkO b) 3 (some ⟨b + 1 + 1 + 1 + 1, 0, none⟩) (wkX b) from
    ⟨⟨row_flat (ty := 89) h2 (by simp [wkO, OpM.cells]), fun o ho => by
      simp only [wkO, List.mem_cons, List.mem_nil_iff, or_false] at ho
      rcases ho with rfl | rfl | rfl
      · exact ⟨Row.nil _ _ _, by simp⟩
      · exact ⟨hi0, by simp⟩
      · exact ⟨hi1, by simp⟩⟩, by simp [wkO], by simp [wkO], by unfold maxLen; omega,
     ⟨row_flat (ty := 41) h4 (by simp [wkX, InM.cells]), fun x hx => by
      simp only [wkX, List.mem_cons, List.mem_nil_iff, or_false] at hx
      subst hx
      exact ⟨row_flat (ty := 36) h3 (by simp [RecV.cells]), by simp⟩⟩, by simp [wkX]⟩)
  obtain ⟨c0, c1⟩ := cells2_of HX.out
  clear h0 h1 h2 h3 h4 hi0 hi1
  go_enter Tryz.func9, Tryz.ntmps9
  go_upto_region 2 with fail
  rw [← hb, ← hw1]
  clear hw1 hb
  go_wp2_with (go_at_call 50; fail)
  refine (whole_any (xc := 1) w1 HW.out).mono ?_
  rintro _ w2 ⟨v, rfl, hv, hu2⟩
  rw [wk_chk] at hv ⊢
  rcases hv with ⟨hz, _⟩ | ⟨_, g, hg, rfl, hB⟩
  · exact absurd rfl hz
  have HX2 := Lib.hid ((hu2.block _ (lt_of_heap HX.out) (fun e => e)).trans HX.out)
  have HV := Lib.hid (values_any (xc := 1) (ac := 1) 2 ⟨0, 1, 0⟩ w2 (HW.out.kept hu2) hB.in' (by simp [wholeAt, wkX]) (fun o ho => by
      simp only [wkO, List.mem_cons, List.mem_nil_iff, or_false] at ho
      rcases ho with rfl | rfl | rfl <;> simp))
  have HU2 := Lib.hid (HU.out.trans hu2)
  rw [wk_val] at HV
  clear c0 c1 hu2 hB HX HU
  obtain ⟨c0, c1⟩ := cells2_of HX2.out
  simp only []
  go_wp2_with (go_at_call 51; fail)
  refine HV.out.mono ?_
  rintro _ w5 ⟨a5, c5, rfl, ho5, hu5⟩
  obtain ⟨bb, ff, hba, hq0⟩ := (OwnI.in' ho5).cell (i := 0) rfl
  obtain ⟨bb', ff', hba', hq1⟩ := (OwnI.in' ho5).cell (i := 1) rfl
  rw [hba] at hba'
  injection hba' with hba'
  injection hba' with e1 e2
  subst e1 e2
  subst hba
  have HU5 := Lib.hid (HU2.out.trans hu5)
  clear hu5 ho5 c0 c1 HV
  rw [Nat.add_zero] at hq0
  simp only []
  go_wp2
  go_ret
  exact ⟨rfl, HU5.out⟩
end Go.Proofs.YtbonfdkgkcbkmaaGreat
end

section
namespace Go.Proofs.YtbonfdkgkcbkmaaGreat
set_option maxRecDepth 100000
set_option maxRecDepth 100000
open Go.RowKit Go.Shelf

theorem run_append_none' {P : Program} {w : World} (base : Nat) (t ty e : TypeId) (i : TypeInfo) (size c : Nat) (ht : P.underlying t = some (.slice e)) (hi : P.info? e = some i)
    (v : Value) (n : Nat) (xs : List Value) (hown : w.ownsRow base e size v n xs) :
    (Builtin.append_ #[t, t] ty #[v, .slice none 0 c]).run P w = .ok v w := by
  rcases hown.2 with ⟨rfl, rfl⟩ | ⟨g, cap, cur, rfl, _, _, hnc, _⟩
  · simp [Builtin.append_, run_underlying ht, sizeOf, typeInfo, hi, Builtin.lenOf, Builtin.firstCells]
  · simp [Builtin.append_, run_underlying ht, sizeOf, typeInfo, hi, Builtin.lenOf, Builtin.firstCells, hnc, storeCells]
theorem flat_len {s : Nat} : ∀ {xs : List (List Value)}, (∀ y ∈ xs, y.length = s) → xs.flatten.length = xs.length * s
  | [], _ => by simp
  | y :: l, h => by
    rw [List.flatten_cons, List.length_append, h y (by simp), flat_len (fun z hz => h z (by simp [hz])), List.length_cons, Nat.succ_mul]; omega
theorem row_news {s : Nat} {w : World} {b o : Nat} {xs : List (List Value)} (hs : 0 < s) (h : Row s w (some ⟨b, o, none⟩) xs) : ∀ j u, xs.flatten[j]? = some u → w.cell? ((⟨b, o, none⟩ : Addr).add j) = some u := by
  intro j u hu
  have hl : ∀ y ∈ xs, y.length = s := fun y hy => by
    obtain ⟨i, hi⟩ := List.getElem?_of_mem hy
    exact (h i y hi).1
  have hjl := (List.getElem?_eq_some_iff.1 hu).1
  rw [flat_len hl] at hjl
  have hi : j / s < xs.length := (Nat.div_lt_iff_lt_mul hs).2 hjl
  have ht : j % s < s := Nat.mod_lt _ hs
  have hx := List.getElem?_eq_getElem hi
  obtain ⟨hxl, b', o', e, hc⟩ := h _ _ hx
  have hu2 := List.getElem?_eq_getElem (l := xs[j / s]) (i := j % s) (by omega)
  have h3 := flat_at hl hx _ _ hu2
  have hj : j / s * s + j % s = j := by rw [Nat.mul_comm]; exact Nat.div_add_mod j s
  rw [hj, hu] at h3
  injection h3 with h3
  injection e with e
  injection e with e1 e2
  subst e1 e2
  have := hc _ _ hu2
  rw [hj, ← h3] at this
  have e4 : (⟨b, o, none⟩ : Addr).add j = ⟨b, o + j, none⟩ := by unfold Addr.add; split <;> first | rfl | simp_all
  rw [e4]
  exact this
theorem wp_appR {P : Program} {o : Oper} {a : Act} {K : Act → World → Prop} {Q : Exit → Act → World → Prop} {w : World} (s x : Operand) (t : TypeId)
    (ho : o.op = .call { callee := .builtin .append, args := #[s, x], argTypes := #[t, t] })
    (base : Nat) (e : TypeId) (i : TypeInfo) (z : Value) (size bytes : Nat) (ht : P.underlying t = some (.slice e)) (hi : P.info? e = some i) (hz : i.zero = some z)
    (hsize : i.size = size) (hby : i.bytes = bytes) (hzs : z.cells.size = size) (hsz : 0 < size)
    (v : Value) (n : Nat) (vs : List Value) (hs : a.eval s = v) (hown : w.ownsRow base e size v n vs)
    (ax : Option Addr) (m c : Nat) (els : List (List Value)) (hx : a.eval x = .slice ax m c) (hrow : Row size w ax els) (hm : els.length = m) (h1 : ∀ u ∈ els.flatten, u.oneCell' = true)
    (h63 : n + m ≤ maxLen) (hbytes : (n + m) * bytes ≤ 140737488355328) (hbase : base ≤ w.heap.size)
    (h : ∀ v' w', w'.ownsRow base e size v' (n + m) (vs ++ els.flatten) → Upd (fun k => v.ownBlock = some k) w w' → K (a.put o.dst v') w') : o.wp P a w K Q := by
  have hl : ∀ y ∈ els, y.length = size := fun y hy => by
    obtain ⟨i, hi⟩ := List.getElem?_of_mem hy
    exact (hrow i y hi).1
  cases ax with
  | none =>
    have he : els = [] := by
      match els, hrow with
      | [], _ => rfl
      | y :: l, hrow =>
        obtain ⟨_, b, f, e, _⟩ := hrow 0 y rfl
        cases e
    subst he
    have hm0 : m = 0 := by simpa using hm.symm
    subst hm0
    have hr := run_append_none' (P := P) (w := w) base t o.type e i size c ht hi v n vs hown
    exact Lib.wp_append_run w s x t t ho v _ hs hx v w hr (h v w (by simpa using hown) (Upd.refl _ _))
  | some ad =>
    have hnews : ∀ j u, els.flatten[j]? = some u → w.cell? (ad.add j) = some u := by
      match els, hrow with
      | [], _ => intro j u hu; simp at hu
      | y :: l, hrow =>
        obtain ⟨_, b, f, e, _⟩ := hrow 0 y rfl
        injection e with e
        subst e
        exact row_news hsz hrow
    obtain ⟨v', w', hr, g1, g2, _, _⟩ := run_append_own_at (P := P) w base t o.type e i z size bytes ht hi hz hsize hby hzs hsz v n vs hown ad m c els.flatten (by rw [flat_len hl, hm]) hnews h1 h63 hbytes hbase
    exact Lib.wp_append_run w s x t t ho v _ hs hx v' w' hr (h v' w' g1 (Upd.of_grown g2 (fun k hk => hk)))
theorem wpList_appR {P : Program} {ops : Array Oper} {rest : List Oper} {o : Oper} {a : Act} {Q : Exit → Act → World → Prop} {w : World} (hgd : o.guard = none) (s x : Operand) (t : TypeId)
    (ho : o.op = .call { callee := .builtin .append, args := #[s, x], argTypes := #[t, t] })
    (base : Nat) (e : TypeId) (i : TypeInfo) (z : Value) (size bytes : Nat) (ht : P.underlying t = some (.slice e)) (hi : P.info? e = some i) (hz : i.zero = some z)
    (hsize : i.size = size) (hby : i.bytes = bytes) (hzs : z.cells.size = size) (hsz : 0 < size)
    (v : Value) (n : Nat) (vs : List Value) (hs : a.eval s = v) (hown : w.ownsRow base e size v n vs)
    (ax : Option Addr) (m c : Nat) (els : List (List Value)) (hx : a.eval x = .slice ax m c) (hrow : Row size w ax els) (hm : els.length = m) (h1 : ∀ u ∈ els.flatten, u.oneCell' = true)
    (h63 : n + m ≤ maxLen) (hbytes : (n + m) * bytes ≤ 140737488355328) (hbase : base ≤ w.heap.size)
    (h : ∀ v' w', w'.ownsRow base e size v' (n + m) (vs ++ els.flatten) → Upd (fun k => v.ownBlock = some k) w w' → wpList P ops Q rest (a.put o.dst v') w') : wpList P ops Q (o :: rest) a w :=
  wpList_plain hgd fun _ hK => wp_appR s x t ho base e i z size bytes ht hi hz hsize hby hzs hsz v n vs hs hown ax m c els hx hrow hm h1 h63 hbytes hbase fun v' w' h2 h3 => hK _ _ (h v' w' h2 h3)
theorem own_empty (W : World) {B : Nat} (e : TypeId) (s : Nat) (hb : B ≤ W.heap.size) : (W.alloc (.cells #[] e)).ownsRow B e s (.slice (some ⟨W.heap.size, 0, none⟩) 0 0) 0 [] :=
  ⟨by simp, .inr ⟨W.heap.size, 0, _, rfl, hb, alloc_at rfl, Nat.le_refl _, by unfold maxLen; omega, by simp, by simp⟩⟩
end Go.Proofs.YtbonfdkgkcbkmaaGreat
end

