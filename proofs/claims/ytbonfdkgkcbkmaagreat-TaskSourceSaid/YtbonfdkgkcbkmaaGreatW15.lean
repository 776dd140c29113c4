/- Walks: the channels of a graph, one by one (plan.links: a range over a function). -/
import Derived.Test.YtbonfdkgkcbkmaaGreatW9
import Derived.Test.YtbonfdkgkcbkmaaGreatW11
import Derived.Deep.OwnRows
set_option linter.unusedVariables false
set_option linter.unusedSimpArgs false

section
namespace Go.Proofs.YtbonfdkgkcbkmaaGreat
set_option maxRecDepth 100000
open Go.RowKit Go.Shelf

attribute [local go_sem] Oper.semAt_some
theorem infoSet : (Tryz.prog.info? 196).map (fun i => (i.zero, i.size, i.bytes)) = some (some (.int .u64 0), 1, 8) := by kernel_rfl
theorem made1 (z : Value) (n : Nat) : madeCells #[z] n = (List.replicate n z).toArray := by
  apply Array.ext
  · simp [madeCells]
  · intro i h1 h2
    simp only [madeCells, Array.getElem_map, Array.getElem_range]
    simp [Nat.mod_one]
theorem mkset (n : Nat) (hn : n ≤ 100000) (W : World) : (Instr.makeSlice 398 (.int .i64 n) (.int .i64 n)).run Tryz.prog W = .ok (.slice (some ⟨W.heap.size, 0, none⟩) n n) (W.alloc (.cells (List.replicate n (.int .u64 0)).toArray 196)) := by
  rw [run_make_row' (P := Tryz.prog) 398 196 (.int .u64 0) 8 Tryz.underlying398 infoSet rfl .i64 .i64 n (by omega) (by omega) W, made1]
/-- The row of sets, the first k laid. -/
def setRow (os : List OpM) (L : List (Int × Int)) (k : Nat) : List Value := (L.take k).map (fun x => Value.int .u64 (mkAt os x)) ++ List.replicate (L.length - k) (.int .u64 0)
theorem setRow_zero (os : List OpM) (L : List (Int × Int)) : setRow os L 0 = List.replicate L.length (.int .u64 0) := by simp [setRow]
theorem setRow_full (os : List OpM) (L : List (Int × Int)) : setRow os L L.length = L.map fun x => Value.int .u64 (mkAt os x) := by simp [setRow]
theorem setRow_at {os : List OpM} {L : List (Int × Int)} {k : Nat} (h : k < L.length) : (setRow os L k)[k]? = some (.int .u64 0) := by
  rw [setRow, List.getElem?_append_right (by simp; omega)]
  simp only [List.length_map, List.length_take]
  rw [Nat.min_eq_left (by omega), Nat.sub_self, List.getElem?_replicate, if_pos (by omega)]
theorem setRow_set {os : List OpM} {L : List (Int × Int)} {k : Nat} {x : Int × Int} (h : L[k]? = some x) : (setRow os L k).set k (.int .u64 (mkAt os x)) = setRow os L (k + 1) := by
  have hk := (List.getElem?_eq_some_iff.1 h).1
  have e : L.length - k = (L.length - (k + 1)) + 1 := by omega
  have hl : ((L.take k).map fun x => Value.int .u64 (mkAt os x)).length = k := by simp; omega
  rw [setRow, setRow, take_cons' h, List.map_append, e, List.replicate_succ, List.append_assoc]
  rw [List.set_append_right _ _ (by omega), hl, Nat.sub_self]
  rfl
/-- The subtasks, and their sets. -/
structure LnAt (os : List OpM) (L : List (Int × Int)) (a : Option Addr) (c hb : Nat) (W : World) : Prop where
  subs : W.ownsRow 0 124 2 (.slice a L.length c) L.length (L.map subC).flatten
  sets : W.heap[hb]? = some (.cells (L.map fun x => Value.int .u64 (mkAt os x)).toArray 196 (0, 0))
theorem LnAt.T {os : List OpM} {L : List (Int × Int)} {a : Option Addr} {c hb : Nat} {W W' : World} {Φ : Nat → TypeId → Prop} (h : LnAt os L a c hb W) (hu : UpdT Φ W W') (hp : ∀ k t, Φ k t → t ≠ 124 ∧ t ≠ 196) : LnAt os L a c hb W' :=
  ⟨ownsRow_T h.subs hu (fun k _ p => (hp _ _ p).1 rfl), hu.keep h.sets (fun cs t fr e p => by injection e with _ e; subst e; exact (hp _ _ p).2 rfl)⟩
theorem LnAt.kept {os : List OpM} {L : List (Int × Int)} {a : Option Addr} {c hb : Nat} {W W' : World} (h : LnAt os L a c hb W) (hu : Upd0 W W') : LnAt os L a c hb W' :=
  h.T (Φ := fun _ _ => False) (UpdT.of0 hu) (fun _ _ p => p.elim)
theorem LnAt.set {os : List OpM} {L : List (Int × Int)} {a : Option Addr} {c hb : Nat} {W : World} (h : LnAt os L a c hb W) {i : Nat} {x : Int × Int} (hi : L[i]? = some x) : W.cell? ⟨hb, i, none⟩ = some (.int .u64 (mkAt os x)) := by
  rw [cell_of_heap h.sets]; simp [hi]
theorem mk_mem {os : List OpM} (hwd : ∀ o ∈ os, 1 ≤ o.width ∧ o.width ≤ 3) {x : Int × Int} (hx : x ∈ subsL os) : mkAt os x ∈ [0, 255, 15, 240, 7, 56, 192] := by
  obtain ⟨j, k, o, h1, rfl, h3⟩ := subsL_mem hx
  have e : wdAt os ((j : Int), (k : Int)).1 = o.width := by simp [wdAt, h1]
  unfold mkAt
  rw [e]
  exact mask_mem (hwd o (List.mem_of_getElem? h1))
set_option maxHeartbeats 16000000 in
theorem links1_any {oa : Option Addr} {os : List OpM} {oc gb B : Nat} (G : World → Prop) (hG : ∀ W, G W → OpsIn W oa os ∧ W.heap[gb]? = some (.cells #[.slice oa os.length oc] 24 (0, 0)) ∧ B ≤ W.heap.size) (hG0 : ∀ W W', G W → Upd0 W W' → G W') (hlo : os.length ≤ 50) (hwd : ∀ o ∈ os, 1 ≤ o.width ∧ o.width ≤ 3) {Φb : Nat → TypeId → Prop} (hΦ : ∀ k t, Φb k t → t ≠ 124 ∧ t ≠ 196) (hGb : ∀ W W', G W → UpdT Φb W W' → G W')
    (l : Nat) (J : List LkV → World → Prop) (Jx : World → Prop) (W : World) (hu0 : G W) (h0 : J [] W) (hJ : ∀ pre W W', B ≤ W.heap.size → J pre W → Upd0 W W' → J pre W')
    (hY : ∀ pre x W1, G W1 → J pre W1 → (∃ rest, linksL os = (pre ++ [x]) ++ rest) → YieldAt Fence.wide 3 Tryz.prog l #[.int .i64 pre.length, .agg #[.int .i64 x.frm, .int .i64 x.dst, .int .u64 x.set]] W1 fun e W' => (e = .returned (.bool true) ∧ J (pre ++ [x]) W' ∧ UpdT Φb W1 W') ∨ (e = .returned (.bool false) ∧ Jx W')) :
    CallsIn Fence.wide 4 Tryz.prog 317 #[.func (.yield l) #[] #[], .pointer (some ⟨gb, 0, none⟩)] W fun e W' => (∃ v, e = .returned v) ∧ ((∃ ks, ks = linksL os ∧ J ks W') ∨ Jx W') := by
  have HY := Lib.hid hY; have HJ := Lib.hid hJ; have HG := Lib.hid hG; have HG0 := Lib.hid hG0; have HGB := Lib.hid hGb; have HWD := Lib.hid hwd; have HPHI := Lib.hid hΦ
  have HU0 := Lib.hid hu0; have HJ0 := Lib.hid h0; have HLO := Lib.hid hlo
  have HA := Lib.hid (allS_any (oc := oc) W (hG W hu0).1 hlo (fun o ho => by have := hwd o ho; omega))
  have c0 := cells1_of (hG W hu0).2.1
  have HMEM := Lib.hid (fun (x : Int × Int) (hx : x ∈ subsL os) => mk_mem hwd hx)
  have HSUB := Lib.hid (fun (x : Int × Int) (hx : x ∈ subsL os) => subsL_mem hx)
  have HLE := Lib.hid (show (subsL os).length ≤ 50000 by have := subsF_le os 0 (fun o ho => by have := hwd o ho; omega); unfold subsL; omega)
  have HSP := Lib.hid (fun (i j : Nat) (a b : Int × Int) (hi : (subsL os)[i]? = some a) (hj : (subsL os)[j]? = some b) => links_split hi hj)
  have HLK := Lib.hid (show linksL os = lkF os (subsL os) 0 (subsL os) from rfl)
  obtain ⟨sl, hsl⟩ : ∃ sl, sl = subsL os := ⟨_, rfl⟩
  rw [← hsl] at HA HMEM HSUB HLE HSP HLK
  obtain ⟨N, hN⟩ : ∃ N, N = sl.length := ⟨_, rfl⟩
  have HN := Lib.hid hN
  clear hY hJ hG hG0 hGb hwd hu0 h0 hΦ hlo hsl
  refine callsIn_of_wp Tryz.func317 rfl trivial ?_ rfl
  simp only [Tryz.ntmps317, List.size_toArray, List.length_cons, List.length_nil, Nat.reduceAdd, Nat.reduceSub, Array.replicate_succ, Array.replicate_zero, List.push_toArray, List.append_toArray, List.nil_append, List.cons_append]
  refine wpIn_mono ?_ noPanic_of
  refine wpIn_wide.2 ?_
  go_wp2_with (go_at_call 230; fail)
  (with_reducible refine HA.out.mono ?_)
  rintro _ w2 ⟨a2, c2, rfl, ho2, hu2⟩
  have ho2 : w2.ownsRow 0 124 2 (.slice a2 N c2) N (sl.map subC).flatten := by rw [hN]; exact ownsRow_low ho2 (Nat.zero_le _)
  rw [← hN]
  have HU2 := Lib.hid hu2
  have HO2 := Lib.hid ho2
  have hmk := mkset N (by have := HLE.out; omega) w2
  clear ho2 hu2 HA c0 hN
  simp only []
  go_upto_region 3 with fail
  obtain ⟨w3, hw3⟩ : ∃ w3, w3 = w2.alloc (.cells (Array.replicate N (.int .u64 0)) 196) := ⟨_, rfl⟩
  obtain ⟨hb, hhb⟩ : ∃ hb, hb = w2.heap.size := ⟨_, rfl⟩
  rw [← hw3, ← hhb]
  have hu3 : Upd0 w2 w3 := by rw [hw3]; exact (Upd.refl _ w2).alloc _
  have HX3 := Lib.hid (show w3.heap[hb]? = some (.cells (setRow os sl 0).toArray 196 (0, 0)) by rw [setRow_zero, hw3, ← HN.out, List.toArray_replicate]; exact alloc_at hhb)
  have HU3 := Lib.hid (HU2.out.trans hu3)
  have HO3 := Lib.hid (ownsRow_any HO2.out hu3 (fun _ _ e => e))
  have HHB := Lib.hid (show W.heap.size ≤ hb by have := HU2.out.size; omega)
  have hNb : N ≤ 50000 := by have := HLE.out; have := HN.out; omega
  clear hw3 hhb hu3 hmk HO2 HU2
  go_wp2_with (fail)
  go_loopw [20] (fun i wr => ∃ k : Nat, k ≤ N ∧ i = .int .i64 k ∧ Hid (Upd0 W wr) ∧ Hid (wr.ownsRow 0 124 2 (.slice a2 N c2) N (sl.map subC).flatten) ∧ Hid (wr.heap[hb]? = some (.cells (setRow os sl k).toArray 196 (0, 0)))) (fun i _ => N - (intOf i).toNat)
  case atStart => exact ⟨0, Nat.zero_le _, rfl, HU3, HO3, HX3⟩
  case round =>
    clear HU3 HO3 HX3
    obtain ⟨k, hk, rfl, HU, HO, HX⟩ := hrel
    by_cases hlt : k < N
    · obtain ⟨x, hx⟩ : ∃ x, sl[k]? = some x := ⟨_, List.getElem?_eq_getElem (by have := HN.out; omega)⟩
      obtain ⟨i, m, o, hi, rfl, hm⟩ := HSUB.out x (List.mem_of_getElem? hx)
      have hxo := HO.out
      rw [HN.out] at hxo
      obtain ⟨sb, sf, rfl, s0, s1⟩ := subAt (OwnS.in' hxo) hx
      have HE := Lib.hid (show maskN o.width (m : Int) 8 = mkAt os ((i : Int), (m : Int)) by simp [mkAt, wdAt, hi])
      have hwo := HWD.out o (List.mem_of_getElem? hi)
      have hops := (HG.out _ (HG0.out _ _ HU0.out HU.out)).1
      have hgb := (HG.out _ (HG0.out _ _ HU0.out HU.out)).2.1
      obtain ⟨w4, hw4⟩ : ∃ w4, w4 = wr.alloc (.cells #[.int .i64 i, .int .i64 m] 124) := ⟨_, rfl⟩
      have hu4 : Upd0 wr w4 := by rw [hw4]; exact (Upd.refl _ wr).alloc _
      have hx4 : w4.heap[wr.heap.size]? = some (.cells #[.int .i64 i, .int .i64 m] 124 (0, 0)) := by rw [hw4]; exact alloc_at rfl
      have HGR := Lib.hid (groups_any (oc := oc) (idx := (m : Int)) w4 (hops.kept hu4) hi hwo (by have := HLO.out; omega))
      have g4 := cells1_of ((hu4.block _ (lt_of_heap hgb) (fun e => e)).trans hgb)
      have HU4 := Lib.hid (HU.out.trans hu4)
      have HO4 := Lib.hid (ownsRow_any HO.out hu4 (fun _ _ e => e))
      have HX4 := Lib.hid ((hu4.block _ (lt_of_heap HX.out) (fun e => e)).trans HX.out)
      have HSX := Lib.hid hx
      have hsbl := lt_of_cell s0
      obtain ⟨x0, x1⟩ := cells2_of hx4
      clear hx hi hm hxo hwo hops hgb hu4 hx4 HU HO HX
      go_upto_region 6 with fail
      rw [← hw4]
      clear hw4 s0 s1 hsbl
      go_wp2_with (go_at_call 318; fail)
      (with_reducible refine HGR.out.mono ?_)
      rintro _ w5 ⟨rfl, hu5⟩
      have HU5 := Lib.hid (HU4.out.trans hu5)
      have HO5 := Lib.hid (ownsRow_any HO4.out hu5 (fun _ _ e => e))
      have HX5 := Lib.hid ((hu5.block _ (lt_of_heap HX4.out) (fun e => e)).trans HX4.out)
      have c5 : w5.cell? ⟨hb, k, none⟩ = some (.int .u64 0) := by rw [cell_of_heap HX5.out]; simpa using setRow_at (os := os) (L := sl) (by rw [← HN.out]; exact hlt)
      have f5 : w5.frozen? ⟨hb, k, none⟩ = false := frozen_of_heap HX5.out
      have hlti : (k : Int) < N := by omega
      clear hu5 HGR x0 x1 g4 HU4 HO4 HX4
      simp only []
      rw [HE.out]
      go_wp2
      go_roundw
      case rel =>
        have hset := upd_own w5 hb k (.int .u64 (mkAt os ((i : Int), (m : Int))))
        refine ⟨k + 1, by omega, by go_num, Lib.hid (HU5.out.cut hset (fun q hq => by have := HHB.out; omega)), Lib.hid ?_, Lib.hid ?_⟩
        · refine ownsRow_T (Φ := fun _ t => t = 196) HO5.out (hset.mono (fun q hq e => ⟨_, _, _, by subst e; exact HX5.out, rfl⟩)) (fun q _ e => absurd e (by decide))
        · have := blk_set (i := k) (v := .int .u64 (mkAt os ((i : Int), (m : Int)))) HX5.out
          rw [this, ← setRow_set HSX.out]
          simp
      case measure => simp [intOf]; omega
    · obtain rfl : N = k := by omega
      have HLN := Lib.hid (show LnAt os sl a2 c2 hb wr from ⟨by have := HO.out; rw [HN.out] at this; exact this, by have := HX.out; rw [HN.out, setRow_full] at this; exact this⟩)
      have HGW := Lib.hid (HG0.out _ _ HU0.out HU.out)
      have HJW := Lib.hid (HJ.out _ _ _ (HG.out _ HU0.out).2.2 HJ0.out HU.out)
      clear HU HO HX HU0 HJ0
      go_wp2_with (fail)
      obtain ⟨wo, rfl⟩ : ∃ wo : World, wo = wr := ⟨_, rfl⟩
      go_loopw [3, 34] (fun c i wr => ∃ k : Nat, k ≤ N ∧ i = .int .i64 k ∧ (∃ n : Nat, c = .int .i64 n ∧ n ≤ 50000 * k ∧ Hid (n = (lkF os sl 0 (sl.take k)).length)) ∧ Hid (G wr) ∧ Hid (LnAt os sl a2 c2 hb wr) ∧ Hid (J (lkF os sl 0 (sl.take k)) wr)) (fun _ i _ => N - (intOf i).toNat)
      case atStart => exact ⟨0, Nat.zero_le _, rfl, ⟨0, rfl, Nat.zero_le _, Lib.hid rfl⟩, HGW, HLN, HJW⟩
      case round =>
        clear HGW HLN HJW
        obtain ⟨k, hk, rfl, ⟨n, rfl, hnk, HNN⟩, HGW, HLN, HJW⟩ := hrel
        by_cases hlt : k < N
        · obtain ⟨a, ha⟩ : ∃ a, sl[k]? = some a := ⟨_, List.getElem?_eq_getElem (by have := HN.out; omega)⟩
          obtain ⟨ai, am, ao, hai, rfl, _⟩ := HSUB.out a (List.mem_of_getElem? ha)
          obtain ⟨sb, sf, rfl, s0, s1⟩ := subAt (OwnS.in' HLN.out.subs) ha
          obtain ⟨w4, hw4⟩ : ∃ w4, w4 = wr.alloc (.cells #[.int .i64 ai, .int .i64 am] 124) := ⟨_, rfl⟩
          obtain ⟨fb, hfb⟩ : ∃ fb, fb = wr.heap.size := ⟨_, rfl⟩
          have hu4 : Upd0 wr w4 := by rw [hw4]; exact (Upd.refl _ wr).alloc _
          have HX4 := Lib.hid (show w4.heap[fb]? = some (.cells #[.int .i64 ai, .int .i64 am] 124 (0, 0)) by rw [hw4]; exact alloc_at hfb)
          have HG4 := Lib.hid (HG0.out _ _ HGW.out hu4)
          have HL4 := Lib.hid (HLN.out.kept hu4)
          have HJ4 := Lib.hid (HJ.out _ _ _ (HG.out _ HGW.out).2.2 HJW.out hu4)
          have HSA := Lib.hid ha
          have hsbl := lt_of_cell s0
          clear ha hai hu4 HGW HLN HJW
          go_upto_region 11 with fail
          rw [← hw4, ← hfb]
          clear hw4 hfb s0 s1 hsbl
          go_wp2_with (fail)
          obtain ⟨wo, rfl⟩ : ∃ wo : World, wo = w4 := ⟨_, rfl⟩
          go_loopw [3, 41] (fun c i wr => ∃ j : Nat, j ≤ N ∧ i = .int .i64 j ∧ (∃ m : Nat, c = .int .i64 m ∧ m ≤ n + j ∧ Hid (m = (lkF os sl 0 (sl.take k) ++ lkRow os k ((ai : Int), (am : Int)) 0 (sl.take j)).length)) ∧ Hid (G wr) ∧ Hid (LnAt os sl (some ⟨sb, sf, none⟩) c2 hb wr) ∧ Hid (wr.heap[fb]? = some (.cells #[.int .i64 ai, .int .i64 am] 124 (0, 0))) ∧ Hid (J (lkF os sl 0 (sl.take k) ++ lkRow os k ((ai : Int), (am : Int)) 0 (sl.take j)) wr)) (fun _ i _ => N - (intOf i).toNat)
          case atStart => exact ⟨0, Nat.zero_le _, rfl, ⟨n, rfl, by omega, by rw [List.take_zero, lkRow, List.append_nil]; exact HNN⟩, HG4, HL4, HX4, by rw [List.take_zero, lkRow, List.append_nil]; exact HJ4⟩
          case round =>
            clear HG4 HL4 HX4 HJ4
            obtain ⟨j, hj, rfl, ⟨m, rfl, hmn, HM⟩, HGW, HLN, HXF, HJW⟩ := hrel
            by_cases hlt2 : j < N
            · obtain ⟨b, hbb⟩ : ∃ b, sl[j]? = some b := ⟨_, List.getElem?_eq_getElem (by have := HN.out; omega)⟩
              obtain ⟨bi, bm, bo, hbi, rfl, _⟩ := HSUB.out b (List.mem_of_getElem? hbb)
              obtain ⟨sb2, sf2, he2, s0, s1⟩ := subAt (OwnS.in' HLN.out.subs) hbb
              injection he2 with he2
              injection he2 with he3 he4
              subst he3 he4
              obtain ⟨w5, hw5⟩ : ∃ w5, w5 = wr.alloc (.cells #[.int .i64 bi, .int .i64 bm] 124) := ⟨_, rfl⟩
              obtain ⟨tb, htb⟩ : ∃ tb, tb = wr.heap.size := ⟨_, rfl⟩
              have hu5 : Upd0 wr w5 := by rw [hw5]; exact (Upd.refl _ wr).alloc _
              have HT5 := Lib.hid (show w5.heap[tb]? = some (.cells #[.int .i64 bi, .int .i64 bm] 124 (0, 0)) by rw [hw5]; exact alloc_at htb)
              have HF5 := Lib.hid ((hu5.block _ (lt_of_heap HXF.out) (fun e => e)).trans HXF.out)
              have HG5 := Lib.hid (HG0.out _ _ HGW.out hu5)
              have HL5 := Lib.hid (HLN.out.kept hu5)
              have HJ5 := Lib.hid (HJ.out _ _ _ (HG.out _ HGW.out).2.2 HJW.out hu5)
              have HSB := Lib.hid hbb
              have HBI := Lib.hid hbi
              have hsbl := lt_of_cell s0
              have HSPL := Lib.hid (HSP.out k j _ _ HSA.out hbb)
              clear hbb hbi hu5 HGW HLN HJW HXF
              go_upto_region 14 with fail
              rw [← hw5, ← htb]
              clear hw5 htb s0 s1 hsbl
              obtain ⟨ma, hma⟩ : ∃ ma, ma = mkAt os ((ai : Int), (am : Int)) := ⟨_, rfl⟩
              obtain ⟨mb, hmb⟩ : ∃ mb, mb = mkAt os ((bi : Int), (bm : Int)) := ⟨_, rfl⟩
              have ca := HL5.out.set HSA.out
              have cb := HL5.out.set HSB.out
              have hand := and_bits _ (HMEM.out _ (List.mem_of_getElem? HSA.out)) _ (HMEM.out _ (List.mem_of_getElem? HSB.out))
              rw [← hma] at ca
              rw [← hmb] at cb
              rw [← hma, ← hmb] at hand
              obtain ⟨mm, hmm⟩ : ∃ mm, mm = ma &&& mb := ⟨_, rfl⟩
              rw [← hmm] at hand
              have HMM := Lib.hid (show mm = mkAt os ((ai : Int), (am : Int)) &&& mkAt os ((bi : Int), (bm : Int)) by rw [hmm, hma, hmb])
              have hkI : (k : Int) < N := by omega
              have hjI : (j : Int) < N := by omega
              clear hma hmb hmm
              go_quiet (fail)
              clear ca cb hand
              obtain ⟨w6, hw6⟩ : ∃ w6, w6 = w5.drewN nq := ⟨_, rfl⟩
              have hu6 : Upd0 w5 w6 := by rw [hw6]; exact ⟨rfl, rfl, rfl, Nat.le_refl _, fun _ _ _ => rfl⟩
              have HT6 := Lib.hid ((hu6.block _ (lt_of_heap HT5.out) (fun e => e)).trans HT5.out)
              have HF6 := Lib.hid ((hu6.block _ (lt_of_heap HF5.out) (fun e => e)).trans HF5.out)
              have HG6 := Lib.hid (HG0.out _ _ HG5.out hu6)
              have HL6 := Lib.hid (HL5.out.kept hu6)
              have HJ6 := Lib.hid (HJ.out _ _ _ (HG.out _ HG5.out).2.2 HJ5.out hu6)
              rw [← hw6]
              clear hw6 hu6 HT5 HF5 HG5 HL5 HJ5
              by_cases hz : mm = 0
              · subst hz
                have HNO := Lib.hid (show lk1 os k ((ai : Int), (am : Int)) j ((bi : Int), (bm : Int)) = [] by
                  have : lkB os ((ai : Int), (am : Int)) ((bi : Int), (bm : Int)) = false := by unfold lkB; rw [← HMM.out]; simp
                  simp [lk1, this])
                clear HMM
                go_upto_region 15 with fail
                have hA : Upd0 w6 w6.drew := (Upd.refl _ _).drew
                refine wp_region_G 14 (fun W => Upd0 w6 W) [false, false, false, false, false, false, false, false, false, false, false, false, false, false, false] rfl (by kernel_rfl) ?_
                generalize w6.drew = we at hA ⊢
                refine wpG_takeT (i := 0) (v := .int .u64 0) rfl (fun L hc h => (hc.waits (n := 14) (i := 2) (by kernel_rfl) (hc.waits (n := 2) (i := 1) (by kernel_rfl) (hc.waits (n := 1) (i := 0) (by kernel_rfl) h)))) (by kernel_rfl) (fun _ _ _ h => h) hA (.inl ⟨rfl, fun w5 q1 => ?_⟩) ?_
                · go_simp
                simp only [Act.put, List.setIfInBounds_toArray, List.set]
                refine wpG_takeT (i := 1) (v := .bool true) rfl (fun L hc h => (hc.waits (n := 14) (i := 2) (by kernel_rfl) (hc.waits (n := 2) (i := 1) (by kernel_rfl) h))) (by kernel_rfl) (fun _ _ _ h => h) hA (.inl ⟨rfl, fun w5 q1 => ?_⟩) ?_
                · go_simp
                simp only [Act.put, List.setIfInBounds_toArray, List.set]
                refine wpG_takeT (i := 2) (v := .bool true) rfl (fun L hc h => (hc.waits (n := 14) (i := 2) (by kernel_rfl) h)) (by kernel_rfl) (fun _ _ _ h => h) hA (.inl ⟨rfl, fun w5 q1 => ?_⟩) ?_
                · go_simp
                simp only [Act.put, List.setIfInBounds_toArray, List.set]
                refine wpG_takeT (i := 3) (v := undef) rfl (fun L hc h => (hc.waits (n := 14) (i := 13) (by kernel_rfl) (hc.waits (n := 13) (i := 12) (by kernel_rfl) (hc.waits (n := 12) (i := 9) (by kernel_rfl) (hc.waits (n := 9) (i := 8) (by kernel_rfl) (hc.waits (n := 8) (i := 7) (by kernel_rfl) (hc.waits (n := 7) (i := 4) (by kernel_rfl) (hc.waits (n := 4) (i := 3) (by kernel_rfl) h)))))))) (by kernel_rfl) (fun _ _ _ h => h) hA (.inr ⟨rfl, rfl⟩) ?_
                simp only [Act.put, List.setIfInBounds_toArray, List.set]
                refine wpG_takeT (i := 4) (v := undef) rfl (fun L hc h => (hc.waits (n := 14) (i := 13) (by kernel_rfl) (hc.waits (n := 13) (i := 12) (by kernel_rfl) (hc.waits (n := 12) (i := 9) (by kernel_rfl) (hc.waits (n := 9) (i := 8) (by kernel_rfl) (hc.waits (n := 8) (i := 7) (by kernel_rfl) (hc.waits (n := 7) (i := 4) (by kernel_rfl) h))))))) (by kernel_rfl) (fun _ _ _ h => h) hA (.inr ⟨rfl, rfl⟩) ?_
                simp only [Act.put, List.setIfInBounds_toArray, List.set]
                refine wpG_takeT (i := 5) (v := undef) rfl (fun L hc h => (hc.waits (n := 14) (i := 13) (by kernel_rfl) (hc.waits (n := 13) (i := 12) (by kernel_rfl) (hc.waits (n := 12) (i := 9) (by kernel_rfl) (hc.waits (n := 9) (i := 8) (by kernel_rfl) (hc.waits (n := 8) (i := 7) (by kernel_rfl) (hc.waits (n := 7) (i := 6) (by kernel_rfl) (hc.waits (n := 6) (i := 5) (by kernel_rfl) h)))))))) (by kernel_rfl) (fun _ _ _ h => h) hA (.inr ⟨rfl, rfl⟩) ?_
                simp only [Act.put, List.setIfInBounds_toArray, List.set]
                refine wpG_takeT (i := 6) (v := undef) rfl (fun L hc h => (hc.waits (n := 14) (i := 13) (by kernel_rfl) (hc.waits (n := 13) (i := 12) (by kernel_rfl) (hc.waits (n := 12) (i := 9) (by kernel_rfl) (hc.waits (n := 9) (i := 8) (by kernel_rfl) (hc.waits (n := 8) (i := 7) (by kernel_rfl) (hc.waits (n := 7) (i := 6) (by kernel_rfl) h))))))) (by kernel_rfl) (fun _ _ _ h => h) hA (.inr ⟨rfl, rfl⟩) ?_
                simp only [Act.put, List.setIfInBounds_toArray, List.set]
                refine wpG_takeT (i := 7) (v := undef) rfl (fun L hc h => (hc.waits (n := 14) (i := 13) (by kernel_rfl) (hc.waits (n := 13) (i := 12) (by kernel_rfl) (hc.waits (n := 12) (i := 9) (by kernel_rfl) (hc.waits (n := 9) (i := 8) (by kernel_rfl) (hc.waits (n := 8) (i := 7) (by kernel_rfl) h)))))) (by kernel_rfl) (fun _ _ _ h => h) hA (.inr ⟨rfl, rfl⟩) ?_
                simp only [Act.put, List.setIfInBounds_toArray, List.set]
                refine wpG_takeT (i := 8) (v := undef) rfl (fun L hc h => (hc.waits (n := 14) (i := 13) (by kernel_rfl) (hc.waits (n := 13) (i := 12) (by kernel_rfl) (hc.waits (n := 12) (i := 9) (by kernel_rfl) (hc.waits (n := 9) (i := 8) (by kernel_rfl) h))))) (by kernel_rfl) (fun _ _ _ h => h) hA (.inr ⟨rfl, rfl⟩) ?_
                simp only [Act.put, List.setIfInBounds_toArray, List.set]
                refine wpG_takeT (i := 9) (v := undef) rfl (fun L hc h => (hc.waits (n := 14) (i := 13) (by kernel_rfl) (hc.waits (n := 13) (i := 12) (by kernel_rfl) (hc.waits (n := 12) (i := 9) (by kernel_rfl) h)))) (by kernel_rfl) (fun _ _ _ h => h) hA (.inr ⟨rfl, rfl⟩) ?_
                simp only [Act.put, List.setIfInBounds_toArray, List.set]
                refine wpG_takeT (i := 10) (v := undef) rfl (fun L hc h => (hc.waits (n := 14) (i := 13) (by kernel_rfl) (hc.waits (n := 13) (i := 12) (by kernel_rfl) (hc.waits (n := 12) (i := 11) (by kernel_rfl) (hc.waits (n := 11) (i := 10) (by kernel_rfl) h))))) (by kernel_rfl) (fun _ _ _ h => h) hA (.inr ⟨rfl, rfl⟩) ?_
                simp only [Act.put, List.setIfInBounds_toArray, List.set]
                refine wpG_takeT (i := 11) (v := undef) rfl (fun L hc h => (hc.waits (n := 14) (i := 13) (by kernel_rfl) (hc.waits (n := 13) (i := 12) (by kernel_rfl) (hc.waits (n := 12) (i := 11) (by kernel_rfl) h)))) (by kernel_rfl) (fun _ _ _ h => h) hA (.inr ⟨rfl, rfl⟩) ?_
                simp only [Act.put, List.setIfInBounds_toArray, List.set]
                refine wpG_takeT (i := 12) (v := undef) rfl (fun L hc h => (hc.waits (n := 14) (i := 13) (by kernel_rfl) (hc.waits (n := 13) (i := 12) (by kernel_rfl) h))) (by kernel_rfl) (fun _ _ _ h => h) hA (.inr ⟨rfl, rfl⟩) ?_
                simp only [Act.put, List.setIfInBounds_toArray, List.set]
                refine wpG_takeT (i := 13) (v := undef) rfl (fun L hc h => (hc.waits (n := 14) (i := 13) (by kernel_rfl) h)) (by kernel_rfl) (fun _ _ _ h => h) hA (.inr ⟨rfl, rfl⟩) ?_
                simp only [Act.put, List.setIfInBounds_toArray, List.set]
                refine wpG_tail_lit (k := 14) rfl rfl (by kernel_rfl) ?_
                simp only [List.drop]
                have HG7 := Lib.hid (HG0.out _ _ HG6.out hA)
                have HL7 := Lib.hid (HL6.out.kept hA)
                have HF7 := Lib.hid ((hA.block _ (lt_of_heap HF6.out) (fun e => e)).trans HF6.out)
                have HJ7 := Lib.hid (HJ.out _ _ _ (HG.out _ HG6.out).2.2 HJ6.out hA)
                clear hA HG6 HL6 HF6 HJ6 HT6
                go_wp2
                go_roundw
                case rel =>
                  refine ⟨j + 1, by omega, by go_num, ⟨m, rfl, by omega, ?_⟩, HG7, HL7, HF7, ?_⟩
                  · rw [lkRow_take HSB.out, HNO.out, List.append_nil]; exact HM
                  · rw [lkRow_take HSB.out, HNO.out, List.append_nil]; exact HJ7
                case measure => simp [intOf]; omega
              · obtain ⟨⟨ob, obf, rfl, _, _, _⟩, hins, hinl⟩ := (HG.out _ HG6.out).1.at HBI.out
                have hjl := (List.getElem?_eq_some_iff.1 HBI.out).1
                have hbiI : (bi : Int) < os.length := by omega
                obtain ⟨ct, hct⟩ : ∃ ct, ct = bo.ins.contains (ai : Int) := ⟨_, rfl⟩
                have HCT := Lib.hid (fun (W' : World) (hW : Upd0 w6 W') => contains_in (c := bo.ic) (ai : Int) W' (hins.kept hW) hinl)
                rw [← hct] at HCT
                have HLB := Lib.hid (show lkB os ((ai : Int), (am : Int)) ((bi : Int), (bm : Int)) = ct by
                  unfold lkB
                  rw [← HMM.out, hct]
                  simp [hz, insAt, HBI.out])
                have hzI : ¬ (mm : Int) = 0 := by omega
                clear hins hinl hct
                go_upto_region 15 with fail
                have hA : Upd0 w6 w6.drew := (Upd.refl _ _).drew
                refine wp_region_G 14 (fun W => Upd0 w6 W) [false, false, false, false, false, false, false, false, false, false, false, false, false, false, false] rfl (by kernel_rfl) ?_
                generalize w6.drew = we at hA ⊢
                refine wpG_takeT (i := 0) (v := .int .u64 mm) rfl (fun L hc h => (hc.waits (n := 14) (i := 2) (by kernel_rfl) (hc.waits (n := 2) (i := 1) (by kernel_rfl) (hc.waits (n := 1) (i := 0) (by kernel_rfl) h)))) (by kernel_rfl) (fun _ _ _ h => h) hA (.inl ⟨rfl, fun w5 q1 => ?_⟩) ?_
                · go_simp
                simp only [Act.put, List.setIfInBounds_toArray, List.set]
                refine wpG_takeT (i := 1) (v := .bool false) rfl (fun L hc h => (hc.waits (n := 14) (i := 2) (by kernel_rfl) (hc.waits (n := 2) (i := 1) (by kernel_rfl) h))) (by kernel_rfl) (fun _ _ _ h => h) hA (.inl ⟨rfl, fun w5 q1 => ?_⟩) ?_
                · go_simp
                simp only [Act.put, List.setIfInBounds_toArray, List.set]
                refine wpG_takeT (i := 2) (v := .bool false) rfl (fun L hc h => (hc.waits (n := 14) (i := 2) (by kernel_rfl) h)) (by kernel_rfl) (fun _ _ _ h => h) hA (.inl ⟨rfl, fun w5 q1 => ?_⟩) ?_
                · go_simp
                simp only [Act.put, List.setIfInBounds_toArray, List.set]
                refine wpG_takeT (i := 3) (v := .pointer (some ⟨gb, 0, none⟩)) rfl (fun L hc h => (hc.waits (n := 14) (i := 13) (by kernel_rfl) (hc.waits (n := 13) (i := 12) (by kernel_rfl) (hc.waits (n := 12) (i := 9) (by kernel_rfl) (hc.waits (n := 9) (i := 8) (by kernel_rfl) (hc.waits (n := 8) (i := 7) (by kernel_rfl) (hc.waits (n := 7) (i := 4) (by kernel_rfl) (hc.waits (n := 4) (i := 3) (by kernel_rfl) h)))))))) (by kernel_rfl) (fun _ _ _ h => h) hA (.inl ⟨rfl, fun w5 q1 => ?_⟩) ?_
                · go_simp
                simp only [Act.put, List.setIfInBounds_toArray, List.set]
                refine wpG_takeT (i := 4) (v := .slice (some ⟨ob, obf, none⟩) os.length oc) rfl (fun L hc h => (hc.waits (n := 14) (i := 13) (by kernel_rfl) (hc.waits (n := 13) (i := 12) (by kernel_rfl) (hc.waits (n := 12) (i := 9) (by kernel_rfl) (hc.waits (n := 9) (i := 8) (by kernel_rfl) (hc.waits (n := 8) (i := 7) (by kernel_rfl) (hc.waits (n := 7) (i := 4) (by kernel_rfl) h))))))) (by kernel_rfl) (fun _ _ _ h => h) hA (.inl ⟨rfl, fun w5 q1 => ?_⟩) ?_
                · have c0 := cells1_of (HG.out _ (HG0.out _ _ HG6.out q1)).2.1
                  go_simp
                simp only [Act.put, List.setIfInBounds_toArray, List.set]
                refine wpG_takeT (i := 5) (v := .pointer (some ⟨tb, 0, none⟩)) rfl (fun L hc h => (hc.waits (n := 14) (i := 13) (by kernel_rfl) (hc.waits (n := 13) (i := 12) (by kernel_rfl) (hc.waits (n := 12) (i := 9) (by kernel_rfl) (hc.waits (n := 9) (i := 8) (by kernel_rfl) (hc.waits (n := 8) (i := 7) (by kernel_rfl) (hc.waits (n := 7) (i := 6) (by kernel_rfl) (hc.waits (n := 6) (i := 5) (by kernel_rfl) h)))))))) (by kernel_rfl) (fun _ _ _ h => h) hA (.inl ⟨rfl, fun w5 q1 => ?_⟩) ?_
                · go_simp
                simp only [Act.put, List.setIfInBounds_toArray, List.set]
                refine wpG_takeT (i := 6) (v := .int .i64 bi) rfl (fun L hc h => (hc.waits (n := 14) (i := 13) (by kernel_rfl) (hc.waits (n := 13) (i := 12) (by kernel_rfl) (hc.waits (n := 12) (i := 9) (by kernel_rfl) (hc.waits (n := 9) (i := 8) (by kernel_rfl) (hc.waits (n := 8) (i := 7) (by kernel_rfl) (hc.waits (n := 7) (i := 6) (by kernel_rfl) h))))))) (by kernel_rfl) (fun _ _ _ h => h) hA (.inl ⟨rfl, fun w5 q1 => ?_⟩) ?_
                · obtain ⟨c0, c1⟩ := cells2_of ((q1.block _ (lt_of_heap HT6.out) (fun e => e)).trans HT6.out)
                  go_simp
                simp only [Act.put, List.setIfInBounds_toArray, List.set]
                refine wpG_takeT (i := 7) (v := .pointer (some ⟨ob, obf + bi * 5, none⟩)) rfl (fun L hc h => (hc.waits (n := 14) (i := 13) (by kernel_rfl) (hc.waits (n := 13) (i := 12) (by kernel_rfl) (hc.waits (n := 12) (i := 9) (by kernel_rfl) (hc.waits (n := 9) (i := 8) (by kernel_rfl) (hc.waits (n := 8) (i := 7) (by kernel_rfl) h)))))) (by kernel_rfl) (fun _ _ _ h => h) hA (.inl ⟨rfl, fun w5 q1 => ?_⟩) ?_
                · go_simp
                simp only [Act.put, List.setIfInBounds_toArray, List.set]
                refine wpG_takeT (i := 8) (v := .pointer (some ⟨ob, obf + bi * 5 + 2, none⟩)) rfl (fun L hc h => (hc.waits (n := 14) (i := 13) (by kernel_rfl) (hc.waits (n := 13) (i := 12) (by kernel_rfl) (hc.waits (n := 12) (i := 9) (by kernel_rfl) (hc.waits (n := 9) (i := 8) (by kernel_rfl) h))))) (by kernel_rfl) (fun _ _ _ h => h) hA (.inl ⟨rfl, fun w5 q1 => ?_⟩) ?_
                · go_simp
                simp only [Act.put, List.setIfInBounds_toArray, List.set]
                refine wpG_takeT (i := 9) (v := .slice bo.ia bo.ins.length bo.ic) rfl (fun L hc h => (hc.waits (n := 14) (i := 13) (by kernel_rfl) (hc.waits (n := 13) (i := 12) (by kernel_rfl) (hc.waits (n := 12) (i := 9) (by kernel_rfl) h)))) (by kernel_rfl) (fun _ _ _ h => h) hA (.inl ⟨rfl, fun w5 q1 => ?_⟩) ?_
                · obtain ⟨⟨ob2, obf2, e2, p0, p1, p2, _⟩, _⟩ := (HG.out _ (HG0.out _ _ HG6.out q1)).1.at HBI.out
                  injection e2 with e2
                  injection e2 with e3 e4
                  subst e3 e4
                  go_simp
                simp only [Act.put, List.setIfInBounds_toArray, List.set]
                refine wpG_takeT (i := 10) (v := .pointer (some ⟨fb, 0, none⟩)) rfl (fun L hc h => (hc.waits (n := 14) (i := 13) (by kernel_rfl) (hc.waits (n := 13) (i := 12) (by kernel_rfl) (hc.waits (n := 12) (i := 11) (by kernel_rfl) (hc.waits (n := 11) (i := 10) (by kernel_rfl) h))))) (by kernel_rfl) (fun _ _ _ h => h) hA (.inl ⟨rfl, fun w5 q1 => ?_⟩) ?_
                · go_simp
                simp only [Act.put, List.setIfInBounds_toArray, List.set]
                refine wpG_takeT (i := 11) (v := .int .i64 ai) rfl (fun L hc h => (hc.waits (n := 14) (i := 13) (by kernel_rfl) (hc.waits (n := 13) (i := 12) (by kernel_rfl) (hc.waits (n := 12) (i := 11) (by kernel_rfl) h)))) (by kernel_rfl) (fun _ _ _ h => h) hA (.inl ⟨rfl, fun w5 q1 => ?_⟩) ?_
                · obtain ⟨c0, c1⟩ := cells2_of ((q1.block _ (lt_of_heap HF6.out) (fun e => e)).trans HF6.out)
                  go_simp
                simp only [Act.put, List.setIfInBounds_toArray, List.set]
                refine wpG_doIf (i := 12) rfl (by kernel_rfl) rfl (fun K hK => ?_)
                have HKK := Lib.hid hK
                clear hK
                go_step
                refine (HCT.out _ hA).mono ?_
                rintro _ w7 ⟨rfl, rfl⟩
                simp only []
                refine HKK.out _ _ hA ?_
                clear HKK
                simp only [Act.put, List.setIfInBounds_toArray, List.set]
                refine wpG_takeT (i := 13) (v := .bool (!ct)) rfl (fun L hc h => (hc.waits (n := 14) (i := 13) (by kernel_rfl) h)) (by kernel_rfl) (fun _ _ _ h => h) hA (.inl ⟨rfl, fun w5 q1 => ?_⟩) ?_
                · go_simp
                simp only [Act.put, List.setIfInBounds_toArray, List.set]
                refine wpG_tail_lit (k := 14) rfl rfl (by kernel_rfl) ?_
                simp only [List.drop]
                have HG7 := Lib.hid (HG0.out _ _ HG6.out hA)
                have HL7 := Lib.hid (HL6.out.kept hA)
                have HF7 := Lib.hid ((hA.block _ (lt_of_heap HF6.out) (fun e => e)).trans HF6.out)
                have HJ7 := Lib.hid (HJ.out _ _ _ (HG.out _ HG6.out).2.2 HJ6.out hA)
                clear hA HG6 HL6 HF6 HJ6 HT6
                cases ct
                · have HNO := Lib.hid (show lk1 os k ((ai : Int), (am : Int)) j ((bi : Int), (bm : Int)) = [] by simp [lk1, HLB.out])
                  go_wp2
                  go_roundw
                  case rel =>
                    refine ⟨j + 1, by omega, by go_num, ⟨m, rfl, by omega, ?_⟩, HG7, HL7, HF7, ?_⟩
                    · rw [lkRow_take HSB.out, HNO.out, List.append_nil]; exact HM
                    · rw [lkRow_take HSB.out, HNO.out, List.append_nil]; exact HJ7
                  case measure => simp [intOf]; omega
                · have HONE := Lib.hid (show lk1 os k ((ai : Int), (am : Int)) j ((bi : Int), (bm : Int)) = [⟨k, j, mm⟩] by rw [lk1, if_pos HLB.out, HMM.out])
                  have hJy := HY.out _ ⟨k, j, mm⟩ we HG7.out HJ7.out (by obtain ⟨rest, h1⟩ := HSPL.out; exact ⟨rest, by rw [h1, HONE.out]; simp⟩)
                  rw [← HM.out] at hJy
                  obtain ⟨fn, tmps, assign, body, hy, hR⟩ := hJy
                  have HRR := Lib.hid hR
                  simp only at hy
                  clear hR HLB HMM
                  go_upto_region 16 with fail
                  refine (wpIn_wide (n := 4)).1 ?_
                  gi_wp2_with (fail)
                  refine HRR.out.mono ?_
                  rintro e w8 (⟨rfl, hJ8, hu8⟩ | ⟨rfl, hx8⟩)
                  · have HG8 := Lib.hid (HGB.out _ _ HG7.out hu8)
                    have HL8 := Lib.hid (HL7.out.T hu8 HPHI.out)
                    have HF8 := Lib.hid (hu8.keep HF7.out (fun cs t fr e p => by injection e with _ e; subst e; exact (HPHI.out _ _ p).1 rfl))
                    have HJ8 := Lib.hid hJ8
                    clear hJ8 hu8 hy HRR HG7 HL7 HF7 HJ7
                    simp only []
                    gi_wp2
                    go_wp2
                    go_roundw
                    case rel =>
                      refine ⟨j + 1, by omega, by go_num, ⟨m + 1, by go_num, by omega, ?_⟩, HG8, HL8, HF8, ?_⟩
                      · refine Lib.hid ?_
                        rw [lkRow_take HSB.out, HONE.out, ← List.append_assoc, List.length_append, ← HM.out]; rfl
                      · rw [lkRow_take HSB.out, HONE.out, ← List.append_assoc]; exact HJ8
                    case measure => simp [intOf]; omega
                  · have HX8 := Lib.hid hx8
                    clear hx8 hy HRR
                    simp only []
                    gi_wp2
                    go_wp2
                    exact noPanic_ret' (bodyPost_ret (results_none rfl _ _ _) rfl (And.intro ⟨_, rfl⟩ (.inr HX8.out)))
            · obtain rfl : N = j := by omega
              have HJ9 := Lib.hid (show J (lkF os sl 0 (sl.take (k + 1))) wr by
                have h9 := HJW.out
                rw [HN.out, List.take_of_length_le (Nat.le_refl _), ← lkF_take HSA.out] at h9
                exact h9)
              have HN9 := Lib.hid (show m = (lkF os sl 0 (sl.take (k + 1))).length by
                have h9 := HM.out
                rw [HN.out, List.take_of_length_le (Nat.le_refl _), ← lkF_take HSA.out] at h9
                exact h9)
              have hle := HLE.out
              have hnN := HN.out
              have HLN2 : Hid (LnAt os sl (some ⟨sb, sf, none⟩) c2 hb wr) := HLN
              clear HJW HM
              go_wp2
              go_roundw
              case rel => exact ⟨k + 1, by omega, by go_num, ⟨m, rfl, by omega, HN9⟩, HGW, HLN2, HJ9⟩
              case measure => simp [intOf]; omega
        · obtain rfl : N = k := by omega
          have HJ9 := Lib.hid (show J (linksL os) wr by
            have h9 := HJW.out
            rw [HN.out, List.take_of_length_le (Nat.le_refl _), ← HLK.out] at h9
            exact h9)
          clear HJW
          go_wp2
          exact noPanic_end' (bodyPost_end (results_none rfl _ _ _) rfl (And.intro ⟨_, rfl⟩ (.inl ⟨_, rfl, HJ9.out⟩)))
end Go.Proofs.YtbonfdkgkcbkmaaGreat
end

section
namespace Go.Proofs.YtbonfdkgkcbkmaaGreat
set_option maxRecDepth 100000
open Go.RowKit Go.Shelf

attribute [local go_sem] Oper.semAt_some run_store_func
theorem infoI : (Tryz.prog.info? 3).map (fun i => (i.zero, i.size, i.bytes)) = some (some (.int .i64 0), 1, 8) := by kernel_rfl
/-- Channels with their numbers. -/
def numK (l : List LkV) : List (Int × LkV) := l.zipIdx.map fun x => ((x.2 : Int), x.1)
theorem numK_snoc (l : List LkV) (x : LkV) : numK (l ++ [x]) = numK l ++ [((l.length : Int), x)] := by
  simp [numK, List.zipIdx_append]
theorem numK_app (l m : List LkV) : ∃ r, numK (l ++ m) = numK l ++ r := by
  unfold numK
  rw [List.zipIdx_append, List.map_append]
  exact ⟨_, rfl⟩
theorem numK_len (l : List LkV) : (numK l).length = l.length := by simp [numK]
theorem numK_mem {l : List LkV} {z : Int × LkV} (h : z ∈ numK l) : z.2 ∈ l := by
  unfold numK at h
  obtain ⟨x, hx, rfl⟩ := List.mem_map.1 h
  exact List.fst_mem_of_mem_zipIdx hx
/-- The numbers of those of which something holds. -/
def keepL (p : LkV → Bool) (pre : List (Int × LkV)) : List Int := (pre.filter fun z => p z.2).map (·.1)
def thoseL (p : LkV → Bool) (os : List OpM) : List Int := keepL p (numK (linksL os))
theorem keepL_snoc (p : LkV → Bool) (pre : List (Int × LkV)) (z : Int × LkV) : keepL p (pre ++ [z]) = keepL p pre ++ if p z.2 then [z.1] else [] := by
  simp only [keepL, List.filter_append, List.map_append, List.filter_cons, List.filter_nil]
  split <;> simp
theorem keepL_len (p : LkV → Bool) (pre : List (Int × LkV)) : (keepL p pre).length ≤ pre.length := by
  rw [keepL, List.length_map]; exact List.length_filter_le _ _
theorem linksL_le {os : List OpM} (hlo : os.length ≤ 50) (hwd : ∀ o ∈ os, 1 ≤ o.width ∧ o.width ≤ 3) : (linksL os).length ≤ 2500000000 := by
  have h1 := subsF_le os 0 (fun o ho => by have := hwd o ho; omega)
  have h2 := lkF_len os (subsL os) (subsL os) 0
  have h3 : (subsL os).length ≤ 50000 := by unfold subsL; omega
  have h4 := Nat.mul_le_mul h3 h3
  unfold linksL
  omega
theorem links_any {oa : Option Addr} {os oc : Nat} (w : World) : Calls Tryz.prog 251 #[.agg #[.slice oa os oc]] w fun e w' => e = .returned (.func (.func 317) #[] #[.pointer (some ⟨w.heap.size, 0, none⟩)]) ∧ w' = w.alloc (.cells #[.slice oa os oc] 24) := by
  go_enter Tryz.func251, Tryz.ntmps251
  go_wp2
  go_ret
  exact ⟨rfl, rfl⟩
/-- Between the rounds of those. -/
structure ThAt (p : LkV → Bool) (w : World) (bx : Nat) (pre : List (Int × LkV)) (W : World) : Prop where
  out : ∃ a c, W.heap[bx]? = some (.cells #[.slice a (keepL p pre).length c] 75 (0, 0)) ∧ OwnI W (bx + 1) 3 (.slice a (keepL p pre).length c) (keepL p pre)
  upd : Upd0 w W
  low : w.heap.size ≤ bx
def thB (bx : Nat) : Nat → TypeId → Prop := fun k t => (k = bx ∧ t = 75) ∨ (bx < k ∧ t = 3)
theorem ThAt.T {p : LkV → Bool} {w W W' : World} {bx : Nat} {pre : List (Int × LkV)} {Φ : Nat → TypeId → Prop} (h : ThAt p w bx pre W) (hu : UpdT Φ W W') (hp : ∀ k t, Φ k t → w.heap.size ≤ k ∧ t ≠ 75 ∧ t ≠ 3) : ThAt p w bx pre W' := by
  obtain ⟨a, c, h1, h2⟩ := h.out
  refine ⟨⟨a, c, hu.keep h1 (fun cs t fr e p => ?_), ownsRow_T h2 hu (fun k _ p => (hp _ _ p).2.2 rfl)⟩, Upd.step h.upd hu (fun k hk ⟨_, _, _, _, p⟩ => by have := (hp _ _ p).1; omega), h.low⟩
  injection e with _ e
  subst e
  exact (hp _ _ p).2.1 rfl
theorem ThAt.kept {p : LkV → Bool} {w W W' : World} {bx : Nat} {pre : List (Int × LkV)} (h : ThAt p w bx pre W) (hu : Upd0 W W') : ThAt p w bx pre W' :=
  h.T (Φ := fun _ _ => False) (UpdT.of0 hu) (fun _ _ p => p.elim)
theorem ThAt.put {p : LkV → Bool} {w W : World} {bx : Nat} {pre : List (Int × LkV)} (h : ThAt p w bx pre W) {l : Nat} {o : Loop} {o' : Obj} (hl : w.heap.size ≤ l) (ho : W.heap[l]? = some (.loop o)) : ThAt p w bx pre (W.putObj l o') := by
  obtain ⟨a, c, h1, h2⟩ := h.out
  exact ⟨⟨a, c, cells_put _ h1 rfl ho rfl, ownsRow_put h2 _ ho rfl⟩, h.upd.step (upd_put _) (fun k hk e => by omega), h.low⟩
theorem ThAt.skip {p : LkV → Bool} {w W : World} {bx : Nat} {pre : List (Int × LkV)} {z : Int × LkV} (h : ThAt p w bx pre W) (hz : p z.2 = false) : ThAt p w bx (pre ++ [z]) W := by
  have e : keepL p (pre ++ [z]) = keepL p pre := by rw [keepL_snoc, hz]; simp
  exact ⟨by rw [e]; exact h.out, h.upd, h.low⟩
theorem ThAt.more {p : LkV → Bool} {w W w4 : World} {bx n : Nat} {pre : List (Int × LkV)} {z : Int × LkV} {a : Option Addr} {c g4 cap4 : Nat} {L : List Int} {cs : Array Value} (hz : p z.2 = true) (h : ThAt p w bx pre W) (hL : L = keepL p pre) (hn : n = L.length) (h1 : W.heap[bx]? = some (.cells #[.slice a n c] 75 (0, 0))) (h2 : W.ownsRow (bx + 1) 3 1 (.slice a n c) n (L.map I))
    (hown4 : w4.ownsRow (bx + 1) 3 1 (.slice (some ⟨g4, 0, none⟩) (n + 1) cap4) (n + 1) (L.map I ++ [.int .i64 z.1])) (hgrow : (W.alloc (.cells cs 3)).grownBy w4 (Value.slice a n c).ownBlock) :
    ThAt p w bx (pre ++ [z]) (w4.setCell ⟨bx, 0, none⟩ (.slice (some ⟨g4, 0, none⟩) (n + 1) cap4)) ∧ UpdT (thB bx) W (w4.setCell ⟨bx, 0, none⟩ (.slice (some ⟨g4, 0, none⟩) (n + 1) cap4)) := by
  subst hn
  have hv : ∀ q, (Value.slice a L.length c).ownBlock = some q → bx + 1 ≤ q := fun q hq => (World.ownsRow.lt h2 q hq).1
  have hbx : w4.heap[bx]? = some (.cells #[.slice a L.length c] 75 (0, 0)) :=
    (hgrow.block _ (by simp; have := lt_of_heap h1; omega) (fun e => by have := (World.ownsRow.lt h2 _ e.symm).1; omega)).trans ((alloc_lt (lt_of_heap h1)).trans h1)
  have hg4 : bx + 1 ≤ g4 := (World.ownsRow.lt hown4 g4 rfl).1
  have hua : Upd (fun q => (Value.slice a L.length c).ownBlock = some q) W w4 := ((Upd.refl _ W).alloc _).trans (Upd.of_grown hgrow (fun q hq => hq))
  have hub : Upd (fun q => (Value.slice a L.length c).ownBlock = some q ∨ q = bx) W (w4.setCell ⟨bx, 0, none⟩ (.slice (some ⟨g4, 0, none⟩) (L.length + 1) cap4)) :=
    (hua.mono (fun _ _ e => .inl e)).trans ((upd_own w4 bx 0 _).mono (fun _ _ e => .inr e))
  have hut : UpdT (thB bx) W (w4.setCell ⟨bx, 0, none⟩ (.slice (some ⟨g4, 0, none⟩) (L.length + 1) cap4)) := hub.mono (fun q hq e => by
    rcases e with e | e
    · obtain ⟨cur, hcur⟩ := ownsRow_at h2 e
      exact ⟨_, _, _, hcur, .inr ⟨by have := hv q e; omega, rfl⟩⟩
    · subst e
      exact ⟨_, _, _, h1, .inl ⟨rfl, rfl⟩⟩)
  have hlow := h.low
  have e : keepL p (pre ++ [z]) = L ++ [z.1] := by rw [keepL_snoc, hz, hL]; rfl
  refine ⟨⟨⟨some ⟨g4, 0, none⟩, cap4, ?_, ?_⟩, Upd.step h.upd hut (fun q hq ⟨_, _, _, _, p⟩ => by rcases p with ⟨p, _⟩ | ⟨p, _⟩ <;> omega), h.low⟩, hut⟩
  · have := blk_set (i := 0) (v := .slice (some ⟨g4, 0, none⟩) (L.length + 1) cap4) hbx
    rw [e, List.length_append]
    simpa using this
  · rw [e, List.length_append]
    refine ownsRow_heap (by simpa [OwnI] using hown4) (fun q hq => ?_)
    simp only [Value.ownBlock, Option.some.injEq] at hq
    exact set_ne (by show q ≠ bx; omega)
set_option maxHeartbeats 8000000 in
theorem those_any {oa : Option Addr} {os : List OpM} {oc g : Nat} {lb : Array Value} {p : LkV → Bool} (w : World) (h : OpsIn w oa os) (hlo : os.length ≤ 50) (hwd : ∀ o ∈ os, 1 ≤ o.width ∧ o.width ≤ 3) (eg : ∀ args w, (callFunc g args).run Tryz.prog w = .ok (.enter g args) w)
    (hc : ∀ z W, z ∈ linksL os → Upd0 w W → Calls Tryz.prog g (#[.agg #[.int .i64 z.frm, .int .i64 z.dst, .int .u64 z.set]] ++ lb) W fun e w' => e = .returned (.bool (p z)) ∧ Upd0 W w') :
    Calls Tryz.prog 176 #[.agg #[.slice oa os.length oc], .func (.func g) #[] lb] w fun e w' => ∃ a c, e = .returned (.slice a (thoseL p os).length c) ∧ OwnI w' w.heap.size 3 (.slice a (thoseL p os).length c) (thoseL p os) ∧ Upd0 w w' := by
  obtain ⟨gb, hgb⟩ : ∃ gb, gb = w.heap.size := ⟨_, rfl⟩
  obtain ⟨w3, hw3⟩ : ∃ w3, w3 = ((w.alloc (.cells #[.slice oa os.length oc] 24)).alloc (.cells #[.func (.func g) #[] lb] 277)).alloc (.cells #[.slice none 0 0] 75) := ⟨_, rfl⟩
  have hu3 : Upd0 w w3 := by rw [hw3]; exact (((Upd.refl _ w).alloc _).alloc _).alloc _
  have hb0 : w3.heap[gb]? = some (.cells #[.slice oa os.length oc] 24 (0, 0)) := by rw [hw3, hgb]; exact (alloc_lt (by simp <;> omega)).trans ((alloc_lt (by simp)).trans (alloc_at rfl))
  have hb1 : w3.heap[gb + 1]? = some (.cells #[.func (.func g) #[] lb] 277 (0, 0)) := by rw [hw3, hgb]; exact (alloc_lt (by simp)).trans (alloc_at (by simp))
  have hb2 : w3.heap[gb + 2]? = some (.cells #[.slice none 0 0] 75 (0, 0)) := by rw [hw3, hgb]; exact alloc_at (by simp)
  have hz3 : w3.heap.size = gb + 3 := by rw [hw3, hgb]; simp
  have HAL := Lib.hid (links_any (oa := oa) (os := os.length) (oc := oc) w3)
  have HW := Lib.hid h; have HWD := Lib.hid hwd; have HU3 := Lib.hid hu3; have H0 := Lib.hid hb0; have H1 := Lib.hid hb1; have H2 := Lib.hid hb2; have HZ3 := Lib.hid hz3; have HGB := Lib.hid hgb; have HC := Lib.hid hc; have HLO := Lib.hid hlo
  have HLE := Lib.hid (linksL_le hlo hwd)
  have c0 := cells1_of hb0
  clear h hwd hu3 hb0 hb1 hb2 hz3 hc hlo
  refine (callsIn_wide (n := 5)).1 ?_
  refine callsIn_of_wp_marks Tryz.func176 rfl trivial ?_ rfl
  simp only [Tryz.ntmps176, List.size_toArray, List.length_cons, List.length_nil, Nat.reduceAdd, Nat.reduceSub, Array.replicate_succ, Array.replicate_zero, List.push_toArray, List.append_toArray, List.nil_append, List.cons_append]
  gi_upto_region 2 with fail
  rw [← hw3]
  try simp only [Nat.add_assoc, Nat.reduceAdd]
  rw [← hgb]
  clear hw3 hgb
  gi_wp2_with (gi_at_call 251; fail)
  refine ⟨trivial, callsIn_wide.2 (HAL.out.mono ?_)⟩
  rintro e w5 ⟨rfl, hw5⟩
  clear HAL c0
  simp only []
  gi_wp2
  have hu5 : Upd0 w3 w5 := by rw [hw5]; exact (Upd.refl _ w3).alloc _
  have hb5 : w5.heap[gb + 3]? = some (.cells #[.slice oa os.length oc] 24 (0, 0)) := by rw [hw5]; exact alloc_at HZ3.out.symm
  have HZ5 := Lib.hid (show w5.heap.size = gb + 4 by rw [hw5]; simp [HZ3.out])
  have HB5 := Lib.hid hb5
  have HF5 := Lib.hid ((hu5.block _ (lt_of_heap H1.out) (fun e => e)).trans H1.out)
  have HU5 := Lib.hid (HU3.out.trans hu5)
  have HAT := Lib.hid (show ThAt p w (gb + 2) [] w5 from ⟨⟨none, 0, (hu5.block _ (lt_of_heap H2.out) (fun e => e)).trans H2.out, World.ownsRow_nil _ _ _ _⟩, HU3.out.trans hu5, by have := HGB.out; omega⟩)
  clear hw5 hu5 hb5
  refine wpIn_rangeFunc_T (α := Int × LkV) (encs := fun z => #[.int .i64 z.1, .agg #[.int .i64 z.2.frm, .int .i64 z.2.dst, .int .u64 z.2.set]]) rfl (by omega) (gf := 317) (lb := #[.pointer (some ⟨w3.heap.size, 0, none⟩)]) rfl trivial (fun _ _ => rfl) (fun _ => rfl) (fun _ _ => False) (thB (gb + 2)) (fun pre x' => ∃ rest, numK (linksL os) = (pre ++ [x']) ++ rest) (fun ks _ => ks = numK (linksL os)) (fun pre W => ThAt p w (gb + 2) pre W ∧ W.heap[gb + 1]? = some (.cells #[.func (.func g) #[] lb] 277 (0, 0))) (fun _ _ => False)
    ?hIU ?hIP (fun _ _ _ _ e => e.elim) (fun _ _ _ _ _ e => e.elim) ⟨HAT.out, HF5.out⟩ (fun _ _ _ _ _ e _ _ => e) ?hseq (fun z a' W => ∃ rb, W.heap[rb]? = some (.cells #[.int .i64 z.2.frm, .int .i64 z.2.dst, .int .u64 z.2.set] 198 (0, 0)) ∧ a' = { tmps := #[.agg #[.slice oa os.length oc], .func (.func g) #[] lb, .pointer (some ⟨gb, 0, none⟩), .pointer (some ⟨gb + 1, 0, none⟩), .slice none 0 0, .pointer (some ⟨gb + 2, 0, none⟩), .int .i64 z.1, .pointer (some ⟨rb, 0, none⟩), .agg #[.slice oa os.length oc], .func (.func 317) #[] #[.pointer (some ⟨w3.heap.size, 0, none⟩)], .int .i64 z.1, .agg #[.int .i64 z.2.frm, .int .i64 z.2.dst, .int .u64 z.2.set], undef, undef, undef, undef, undef, undef, undef, undef], defers := [] }) ?hAP ?hassign ?hbody ?hdone (fun _ _ e => e.elim)
  case hIU =>
    rintro pre W W' hs ⟨h, hf⟩ hu
    exact ⟨h.T hu (fun _ _ p => p.elim), hu.keep hf (fun _ _ _ _ p => p)⟩
  case hIP =>
    rintro pre W l o o' ⟨h, hf⟩ hl ho
    exact ⟨h.put (by have := HZ5.out; have := HGB.out; omega) ho, cells_put _ hf rfl ho rfl⟩
  case hseq =>
    intro l J Jx W h0 hu hJ hJx hY
    have hz := HZ5.out
    have hz3 := HZ3.out
    rw [hz3]
    have key := links1_any (B := gb + 4) (gb := gb + 3) (Φb := thB (gb + 2)) (oa := oa) (oc := oc) (os := os) (fun W => Upd0 w W ∧ W.heap[gb + 3]? = some (.cells #[.slice oa os.length oc] 24 (0, 0)) ∧ gb + 4 ≤ W.heap.size) (fun W hW => ⟨HW.out.kept hW.1, hW.2.1, hW.2.2⟩)
      (fun W W' hW hu' => ⟨hW.1.trans hu', (hu'.block _ (lt_of_heap hW.2.1) (fun e => e)).trans hW.2.1, Nat.le_trans hW.2.2 hu'.size⟩) HLO.out HWD.out
      (fun k t p => by rcases p with ⟨_, p⟩ | ⟨_, p⟩ <;> subst p <;> decide)
      (fun W W' hW hu' => ⟨Upd.step hW.1 hu' (fun k hk ⟨_, _, _, _, p⟩ => by have := HGB.out; rcases p with ⟨p, _⟩ | ⟨p, _⟩ <;> omega), hu'.keep hW.2.1 (fun cs t fr e p => by injection e with _ e; subst e; rcases p with ⟨_, p⟩ | ⟨_, p⟩ <;> exact absurd p (by decide)), Nat.le_trans hW.2.2 hu'.size⟩)
      l (fun pre W => J (numK pre) W) Jx W ⟨HU5.out.trans hu, (hu.block _ (lt_of_heap HB5.out) (fun e => e)).trans HB5.out, by have := hu.size; omega⟩ h0 (fun pre W W' hs hj hu' => hJ (numK pre) W W' (by omega) hj (UpdT.of0 hu'))
      (fun pre x W1 hg hj hp => by
        have hy := hY (numK pre) ((pre.length : Int), x) W1 (by have := hg.2.2; omega) hj (by
          obtain ⟨rest, hr⟩ := hp
          obtain ⟨r, hr2⟩ := numK_app (pre ++ [x]) rest
          exact ⟨r, by rw [hr, hr2, numK_snoc]⟩)
        rw [← numK_snoc] at hy
        exact hy)
    refine key.mono ?_
    rintro e W' ⟨h1, ⟨ks, rfl, hk⟩ | hk⟩
    · exact ⟨h1, .inl ⟨_, rfl, hk⟩⟩
    · exact ⟨h1, .inr hk⟩
  case hAP =>
    rintro z a' W l o o' ⟨rb, h1, h2⟩ hl ho
    exact ⟨rb, cells_put o' h1 rfl ho rfl, h2⟩
  case hassign =>
    intro l z W K _ hK
    have HK := Lib.hid hK
    clear hK
    gi_wp2
    exact HK.out _ _ ((Upd.refl _ W).alloc _) ⟨W.heap.size, alloc_at rfl, rfl⟩
  case hbody =>
    rintro l pre z a' W r hl hs ⟨hi, hf⟩ ⟨rest, hpl⟩ ⟨rb, h5, rfl⟩ hlr
    have hzl : z.2 ∈ linksL os := numK_mem (by rw [hpl]; simp)
    have hple : (keepL p pre).length < 2500000000 := by
      have h1 := congrArg List.length hpl
      have h2 := HLE.out
      have h3 := keepL_len p pre
      rw [numK_len] at h1
      simp only [List.length_append, List.length_cons, List.length_nil] at h1
      omega
    have HCZ := Lib.hid (HC.out z.2 W hzl hi.upd)
    have HI := Lib.hid hi
    have HF := Lib.hid hf
    obtain ⟨r0, r1, r2⟩ := cells3_of h5
    have x0 := cells1_of hf
    have HSZ := Lib.hid (show gb + 4 ≤ W.heap.size by have := HZ5.out; omega)
    obtain ⟨L, hL⟩ : ∃ L, L = keepL p pre := ⟨_, rfl⟩
    rw [← hL] at hple
    have HL := Lib.hid hL
    clear hi hf hpl hlr h5 hL hzl
    gi_wp2_with (fail)
    refine ⟨trivial, ?_⟩
    refine (CallsIn.inRound l (callsIn_wide.2 HCZ.out)).mono ?_
    rintro e W3 ⟨rfl, hu3⟩
    have HI3 := Lib.hid (HI.out.kept hu3)
    have HF3 := Lib.hid ((hu3.block _ (lt_of_heap HF.out) (fun e => e)).trans HF.out)
    have HU3' := Lib.hid hu3
    have HS3 := Lib.hid (show gb + 4 ≤ W3.heap.size by have := hu3.size; have := HSZ.out; omega)
    clear hu3 HCZ r0 r1 r2 x0 HI HF
    simp only []
    obtain ⟨pz, hpz⟩ : ∃ pz, pz = p z.2 := ⟨_, rfl⟩
    rw [← hpz]
    have HPZ := Lib.hid hpz.symm
    clear hpz
    cases pz
    · gi_wp2
      exact ⟨⟨HI3.out.skip HPZ.out, HF3.out⟩, UpdT.of0 HU3'.out⟩
    · obtain ⟨a, c, h1, h2⟩ := HI3.out.out
      rw [← HL.out] at h1 h2
      obtain ⟨n, hn⟩ : ∃ n, n = L.length := ⟨_, rfl⟩
      have h2 : W3.ownsRow (gb + 2 + 1) 3 1 (.slice a n c) n (L.map I) := by rw [hn]; exact h2
      rw [← hn] at h1 hple
      have HN := Lib.hid hn
      have x0 := cells1_of h1
      have H1' := Lib.hid h1; have H2' := Lib.hid h2
      have hbl := lt_of_heap h1
      have hne : gb + 2 ≠ gb + 1 := by omega
      clear h1 h2 hn
      gi_wp2_with (gi_at_builtin; obtain ⟨i0, hi0, hz0, hz1, hz2⟩ := info_parts infoI; refine wpListIn_append_own _ rfl (.tmp 15) (.tmp 17) 75 rfl (gb + 2 + 1) 3 i0 (.int .i64 0) 1 8 Tryz.underlying75 hi0 hz0 hz1 hz2 rfl (by omega) (.slice a n c) n (L.map I) rfl (H2'.out.alloc _) ⟨W3.heap.size, 0, none⟩ 1 1 [.int .i64 z.1] rfl rfl (cell_one_new _ _ _) (by simp [Value.oneCell']) (by unfold maxLen; omega) (by omega) (by simp; have := HS3.out; omega) ?_; clear hi0 hz0 hz1 hz2; intro v' w4 hown4 hgrow _; obtain ⟨g4, cap4, rfl⟩ := ownsRow_succ hown4; have HM := Lib.hid (ThAt.more (z := z) HPZ.out HI3.out HL.out HN.out H1'.out H2'.out hown4 hgrow); have hbx4 : w4.heap[gb + 2]? = some (.cells #[.slice a n c] 75 (0, 0)) := (hgrow.block _ (by simp; omega) (fun e => by have := (World.ownsRow.lt H2'.out _ e.symm).1; omega)).trans ((alloc_lt hbl).trans H1'.out); have HF4 := Lib.hid ((hgrow.block (gb + 1) (by simp; have := HS3.out; omega) (fun e => by have := (World.ownsRow.lt H2'.out _ e.symm).1; omega)).trans ((alloc_lt (lt_of_heap HF3.out)).trans HF3.out)); have c4' := cells1_of hbx4; have f4' : w4.frozen? ⟨gb + 2, 0, none⟩ = false := frozen_of_heap hbx4; clear hown4 hgrow hbx4)
      exact ⟨⟨HM.out.1, (set_ne (by show gb + 1 ≠ gb + 2; omega)).trans HF4.out⟩, (UpdT.of0 HU3'.out).trans HM.out.2⟩
  case hdone =>
    rintro ks W hS ⟨h, hf⟩ hD
    subst hS
    obtain ⟨a, c, h1, h2⟩ := h.out
    have x0 := cells1_of h1
    have H2' := Lib.hid h2; have HD := Lib.hid hD; have HUW := Lib.hid h.upd
    clear h1 h2 hD h hf
    gi_wp2
    have hz := HZ5.out; have hgb := HGB.out
    refine ⟨by simp, .inl ⟨_, _, rfl, run_takeDeferred HD.out, ?_⟩⟩
    refine ⟨_, results_tmp rfl _ _ _, a, c, rfl, ownsRow_low (ownsRow_put H2'.out _ HD.out rfl) (by omega), ?_⟩
    exact HUW.out.step (upd_put _) (fun q hq e => by omega)
end Go.Proofs.YtbonfdkgkcbkmaaGreat
end

section
namespace Go.Proofs.YtbonfdkgkcbkmaaGreat
set_option maxRecDepth 100000
open Go.RowKit Go.Shelf

attribute [local go_sem] Oper.semAt_some
set_option maxHeartbeats 1000000 in
theorem ends2_any {eb nb g2 : Nat} {z : LkV} {v n : Int} (w : World) (he : w.heap[eb]? = some (.cells #[.func (.func g2) #[] #[]] 199 (0, 0))) (hn : w.heap[nb]? = some (.cells #[.int .i64 n] 3 (0, 0))) (eg : ∀ args w, (callFunc g2 args).run Tryz.prog w = .ok (.enter g2 args) w)
    (hq : ∀ W, Calls Tryz.prog g2 #[.agg #[.int .i64 z.frm, .int .i64 z.dst, .int .u64 z.set]] W fun e w' => e = .returned (.int .i64 v) ∧ Upd0 W w') :
    Calls Tryz.prog 177 #[.agg #[.int .i64 z.frm, .int .i64 z.dst, .int .u64 z.set], .pointer (some ⟨eb, 0, none⟩), .pointer (some ⟨nb, 0, none⟩)] w fun e w' => e = .returned (.bool (v == n)) ∧ Upd0 w w' := by
  obtain ⟨b, hb⟩ : ∃ b, b = w.heap.size := ⟨_, rfl⟩
  obtain ⟨w1, hw1⟩ : ∃ w1, w1 = w.alloc (.cells #[.int .i64 z.frm, .int .i64 z.dst, .int .u64 z.set] 198) := ⟨_, rfl⟩
  have hu1 : Upd0 w w1 := by rw [hw1]; exact (Upd.refl _ w).alloc _
  have HX := Lib.hid (show w1.heap[b]? = some (.cells #[.int .i64 z.frm, .int .i64 z.dst, .int .u64 z.set] 198 (0, 0)) by rw [hw1]; exact alloc_at hb)
  have HE := Lib.hid ((hu1.block _ (lt_of_heap he) (fun e => e)).trans he)
  have HN := Lib.hid ((hu1.block _ (lt_of_heap hn) (fun e => e)).trans hn)
  have HQ := Lib.hid hq; have HU := Lib.hid hu1
  clear he hn hq hu1
  go_enter Tryz.func177, Tryz.ntmps177
  go_upto_region 1 with fail
  rw [← hw1, ← hb]
  clear hw1 hb
  have hA : Upd0 w1 w1.drew := (Upd.refl _ _).drew
  refine wp_region_G 5 (fun W => Upd0 w1 W) [false, false, false, false, false, false] rfl (by kernel_rfl) ?_
  generalize w1.drew = we at hA ⊢
  refine wpG_takeT (i := 0) (v := .func (.func g2) #[] #[]) rfl (fun L hc h => (hc.waits (n := 5) (i := 0) (by kernel_rfl) h)) (by kernel_rfl) (fun _ _ _ h => h) hA (.inl ⟨rfl, fun w5 q1 => ?_⟩) ?_
  · have c0 := cells1_of ((q1.block _ (lt_of_heap HE.out) (fun e => e)).trans HE.out)
    go_simp
  simp only [Act.put, List.setIfInBounds_toArray, List.set]
  refine wpG_takeT (i := 1) (v := .agg #[.int .i64 z.frm, .int .i64 z.dst, .int .u64 z.set]) rfl (fun L hc h => (hc.waits (n := 5) (i := 1) (by kernel_rfl) h)) (by kernel_rfl) (fun _ _ _ h => h) hA (.inl ⟨rfl, fun w5 q1 => ?_⟩) ?_
  · obtain ⟨c0, c1, c2⟩ := cells3_of ((q1.block _ (lt_of_heap HX.out) (fun e => e)).trans HX.out)
    go_simp
  simp only [Act.put, List.setIfInBounds_toArray, List.set]
  refine wpG_takeT (i := 3) (v := .int .i64 n) rfl (fun L hc h => (hc.waits (n := 5) (i := 3) (by kernel_rfl) h)) (by kernel_rfl) (fun _ _ _ h => h) hA (.inl ⟨rfl, fun w5 q1 => ?_⟩) ?_
  · have c0 := cells1_of ((q1.block _ (lt_of_heap HN.out) (fun e => e)).trans HN.out)
    go_simp
  simp only [Act.put, List.setIfInBounds_toArray, List.set]
  refine wpG_doIf (i := 2) rfl (by kernel_rfl) rfl (fun K hK => ?_)
  have HKK := Lib.hid hK
  clear hK
  go_step
  refine (HQ.out _).mono ?_
  rintro _ w7 ⟨rfl, hu7⟩
  have hA := hA.trans hu7
  clear hu7
  simp only []
  refine HKK.out _ _ hA ?_
  clear HKK
  simp only [Act.put, List.setIfInBounds_toArray, List.set]
  refine wpG_takeT (i := 4) (v := .bool (v == n)) rfl (fun L hc h => (hc.waits (n := 5) (i := 4) (by kernel_rfl) h)) (by kernel_rfl) (fun _ _ _ h => h) hA (.inl ⟨rfl, fun w5 q1 => ?_⟩) ?_
  · go_simp
  simp only [Act.put, List.setIfInBounds_toArray, List.set]
  refine wpG_tail_lit (k := 5) rfl rfl (by kernel_rfl) ?_
  simp only [List.drop]
  go_wp2
  go_ret
  exact ⟨rfl, HU.out.trans hA⟩
/-- What the ends of channels are asked for. -/
def EndsR (os : List OpM) (n : Int) (q : LkV → Int) : List Int × Int := if (chkG os).2 ≠ 0 then ([], (chkG os).2) else if (subR os n).2 ≠ 0 then ([], (subR os n).2) else (thoseL (fun z => q z == n) os, 0)
theorem callEnds2 : ∀ args w, (callFunc 177 args).run Tryz.prog w = .ok (.enter 177 args) w := enters_of Tryz.func177 (by kernel_rfl) rfl
theorem callEnds1 : ∀ args w, (callFunc 175 args).run Tryz.prog w = .ok (.enter 175 args) w := enters_of Tryz.func175 (by kernel_rfl) rfl
theorem callOut1 : ∀ args w, (callFunc 98 args).run Tryz.prog w = .ok (.enter 98 args) w := enters_of Tryz.func98 (by kernel_rfl) rfl
set_option maxHeartbeats 4000000 in
theorem ends1_any {oa : Option Addr} {os : List OpM} {oc gb nb eb g2 : Nat} {q : LkV → Int} (n : Int) (w : World) (h : OpsIn w oa os) (hck : (chkG os).2 = 0) (hlo : os.length ≤ 50) (hg : w.heap[gb]? = some (.cells #[.slice oa os.length oc] 24 (0, 0))) (hn : w.heap[nb]? = some (.cells #[.int .i64 n] 3 (0, 0)))
    (he : w.heap[eb]? = some (.cells #[.func (.func g2) #[] #[]] 199 (0, 0))) (eg : ∀ args w, (callFunc g2 args).run Tryz.prog w = .ok (.enter g2 args) w)
    (hq : ∀ z W, Calls Tryz.prog g2 #[.agg #[.int .i64 (LkV.frm z), .int .i64 z.dst, .int .u64 z.set]] W fun e w' => e = .returned (.int .i64 (q z)) ∧ Upd0 W w') :
    Calls Tryz.prog 175 #[.pointer (some ⟨gb, 0, none⟩), .pointer (some ⟨nb, 0, none⟩), .pointer (some ⟨eb, 0, none⟩)] w fun e w' => ∃ a c, e = .returned (.tuple #[.slice a (EndsR os n q).1.length c, .int .i64 (EndsR os n q).2]) ∧ OwnI w' w.heap.size 3 (.slice a (EndsR os n q).1.length c) (EndsR os n q).1 ∧ Upd0 w w' := by
  have hwd := chkG_wide hck
  have HS := Lib.hid (sub_any (oc := oc) n w h hlo (fun o ho => by have := hwd o ho; omega))
  have HTH := Lib.hid (fun (W : World) (hW : Upd0 w W) => those_any (oc := oc) (g := 177) (lb := #[.pointer (some ⟨eb, 0, none⟩), .pointer (some ⟨nb, 0, none⟩)]) (p := fun z => q z == n) W (h.kept hW) hlo hwd callEnds2
    (fun z W2 _ hW2 => ends2_any (v := q z) W2 (((hW.trans hW2).block _ (lt_of_heap he) (fun e => e)).trans he) (((hW.trans hW2).block _ (lt_of_heap hn) (fun e => e)).trans hn) eg (hq z)))
  have HR := Lib.hid (show EndsR os n q = if (subR os n).2 ≠ 0 then ([], (subR os n).2) else (thoseL (fun z => q z == n) os, 0) by unfold EndsR; rw [if_neg (by simp [hck])])
  obtain ⟨er, her⟩ : ∃ er, er = EndsR os n q := ⟨_, rfl⟩
  rw [← her] at HR ⊢
  obtain ⟨sr, hsr⟩ : ∃ sr, sr = subR os n := ⟨_, rfl⟩
  rw [← hsr] at HS HR
  obtain ⟨⟨s1, s2⟩, se⟩ := sr
  simp only at HS HR
  obtain ⟨tl, htl⟩ : ∃ tl, tl = thoseL (fun z => q z == n) os := ⟨_, rfl⟩
  rw [← htl] at HR HTH
  have HG := Lib.hid hg; have HN := Lib.hid hn
  have c0 := cells1_of hg
  have d0 := cells1_of hn
  clear h hck hg hn he eg hq hwd her hsr htl
  go_enter Tryz.func175, Tryz.ntmps175
  go_wp2_with (go_at_call 173; fail)
  (with_reducible refine HS.out.mono ?_)
  rintro _ w2 ⟨rfl, hu2⟩
  obtain ⟨w3, hw3⟩ : ∃ w3, w3 = w2.alloc (.cells #[.int .i64 s1, .int .i64 s2] 124) := ⟨_, rfl⟩
  have hu3 : Upd0 w w3 := by rw [hw3]; exact hu2.alloc _
  have HU3 := Lib.hid hu3
  have HG3 := Lib.hid ((hu3.block _ (lt_of_heap HG.out) (fun e => e)).trans HG.out)
  clear hu2 hu3 HS c0 d0
  simp only []
  go_upto_region 2 with fail
  rw [← hw3]
  clear hw3
  by_cases hz : se = 0
  · subst hz
    rw [if_neg (by simp)] at HR
    have HT := Lib.hid (HTH.out w3 HU3.out)
    have c0 := cells1_of HG3.out
    clear HTH
    go_wp2_with (go_at_call 176; fail)
    (with_reducible refine HT.out.mono ?_)
    rintro _ w4 ⟨a4, c4, rfl, ho4, hu4⟩
    have HO4 := Lib.hid ho4; have HU4 := Lib.hid (HU3.out.trans hu4)
    clear ho4 hu4 HT c0
    simp only []
    go_wp2
    go_ret2
    refine ⟨a4, c4, by rw [HR.out]; rfl, ?_, HU4.out⟩
    rw [HR.out]
    exact ownsRow_low HO4.out HU3.out.size
  · rw [if_pos hz] at HR
    clear HTH
    go_wp2
    go_ret2
    refine ⟨none, 0, by rw [HR.out]; rfl, ?_, HU3.out⟩
    rw [HR.out]
    exact World.ownsRow_nil _ _ _ _
set_option maxHeartbeats 1000000 in
theorem ends_any {oa : Option Addr} {os : List OpM} {oc g2 : Nat} {q : LkV → Int} (n : Int) (w : World) (h : OpsIn w oa os) (hol : os.length ≤ 50) (hoc : os.length ≤ oc) (hom : oc ≤ maxLen) (eg : ∀ args w, (callFunc g2 args).run Tryz.prog w = .ok (.enter g2 args) w)
    (hq : ∀ z W, Calls Tryz.prog g2 #[.agg #[.int .i64 (LkV.frm z), .int .i64 z.dst, .int .u64 z.set]] W fun e w' => e = .returned (.int .i64 (q z)) ∧ Upd0 W w') :
    Calls Tryz.prog 96 #[.agg #[.slice oa os.length oc], .int .i64 n, .func (.func g2) #[] #[]] w fun e w' => ∃ a c, e = .returned (.tuple #[.slice a (EndsR os n q).1.length c, .int .i64 (EndsR os n q).2]) ∧ OwnI w' w.heap.size 3 (.slice a (EndsR os n q).1.length c) (EndsR os n q).1 ∧ Upd0 w w' := by
  obtain ⟨b, hb⟩ : ∃ b, b = w.heap.size := ⟨_, rfl⟩
  obtain ⟨w1, hw1⟩ : ∃ w1, w1 = ((w.alloc (.cells #[.slice oa os.length oc] 24)).alloc (.cells #[.int .i64 n] 3)).alloc (.cells #[.func (.func g2) #[] #[]] 199) := ⟨_, rfl⟩
  have hu1 : Upd0 w w1 := by rw [hw1]; exact (((Upd.refl _ w).alloc _).alloc _).alloc _
  have hb0 : w1.heap[b]? = some (.cells #[.slice oa os.length oc] 24 (0, 0)) := by rw [hw1, hb]; exact (alloc_lt (by simp <;> omega)).trans ((alloc_lt (by simp)).trans (alloc_at rfl))
  have hb1 : w1.heap[b + 1]? = some (.cells #[.int .i64 n] 3 (0, 0)) := by rw [hw1, hb]; exact (alloc_lt (by simp)).trans (alloc_at (by simp))
  have hb2 : w1.heap[b + 2]? = some (.cells #[.func (.func g2) #[] #[]] 199 (0, 0)) := by rw [hw1, hb]; exact alloc_at (by simp)
  have hbs : w.heap.size ≤ w1.heap.size := hu1.size
  have HAS := Lib.hid (askedI_any (g := 175) (lb := #[.pointer (some ⟨b, 0, none⟩), .pointer (some ⟨b + 1, 0, none⟩), .pointer (some ⟨b + 2, 0, none⟩)]) (oc := oc) (R := fun v E W => E = (EndsR os n q).2 ∧ ∃ a c, v = .slice a (EndsR os n q).1.length c ∧ OwnI W w.heap.size 3 v (EndsR os n q).1 ∧ Upd0 w W) w1 (h.kept hu1) hol hoc hom callEnds1
    (fun he W hW => ⟨by simp [EndsR, he], none, 0, by simp [EndsR, he], by
      have e : (EndsR os n q).1 = [] := by simp [EndsR, he]
      rw [e]; exact World.ownsRow_nil _ _ _ _, hu1.trans hW⟩)
    (fun he W hW => (ends1_any (oc := oc) n W (h.kept (hu1.trans hW)) he hol ((hW.block _ (lt_of_heap hb0) (fun e => e)).trans hb0) ((hW.block _ (lt_of_heap hb1) (fun e => e)).trans hb1) ((hW.block _ (lt_of_heap hb2) (fun e => e)).trans hb2) eg hq).mono (fun e W' ⟨a, c, h1, h2, h3⟩ =>
      ⟨_, _, h1, rfl, a, c, rfl, ownsRow_low h2 (hu1.trans hW).size, (hu1.trans hW).trans h3⟩)))
  have c0 := cells1_of hb0
  clear h hol hoc hom hb0 hb1 hb2 eg hq hbs
  go_enter Tryz.func96, Tryz.ntmps96
  go_wp2_with (go_at_call 174; fail)
  rw [← hw1, ← hb]
  clear hw1 hb
  try simp only [Nat.add_assoc, Nat.reduceAdd]
  (with_reducible refine HAS.out.mono ?_)
  rintro _ w2 ⟨v, E, rfl, rfl, a, c, rfl, ho2, hu2⟩
  have HU2 := Lib.hid hu2; have HO2 := Lib.hid ho2
  clear hu2 ho2 HAS c0 hu1
  simp only []
  go_wp2
  go_ret2
  exact ⟨a, c, rfl, HO2.out, HU2.out⟩
abbrev OutR (os : List OpM) (n : Int) : List Int × Int := EndsR os n fun z => z.frm
set_option maxHeartbeats 1000000 in
theorem plout_any {oa : Option Addr} {os : List OpM} {oc : Nat} (n : Int) (w : World) (h : OpsIn w oa os) (hol : os.length ≤ 50) (hoc : os.length ≤ oc) (hom : oc ≤ maxLen) :
    Calls Tryz.prog 33 #[.agg #[.slice oa os.length oc], .int .i64 n] w fun e w' => ∃ a c, e = .returned (.tuple #[.slice a (OutR os n).1.length c, .int .i64 (OutR os n).2]) ∧ OwnI w' w.heap.size 3 (.slice a (OutR os n).1.length c) (OutR os n).1 ∧ Upd0 w w' := by
  obtain ⟨w1, hw1⟩ : ∃ w1, w1 = w.alloc (.cells #[.slice oa os.length oc] 24) := ⟨_, rfl⟩
  have hu1 : Upd0 w w1 := by rw [hw1]; exact (Upd.refl _ w).alloc _
  have hb0 : w1.heap[w.heap.size]? = some (.cells #[.slice oa os.length oc] 24 (0, 0)) := by rw [hw1]; exact alloc_at rfl
  have HE := Lib.hid (ends_any (g2 := 98) (q := fun z => z.frm) n w1 (h.kept hu1) hol hoc hom callOut1 (fun z W => out1_any z.frm z.dst z.set W))
  have HU := Lib.hid hu1
  have c0 := cells1_of hb0
  clear h hol hoc hom hb0 hu1
  go_enter Tryz.func33, Tryz.ntmps33
  go_wp2_with (go_at_call 96; fail)
  rw [← hw1]
  clear hw1
  (with_reducible refine HE.out.mono ?_)
  rintro _ w2 ⟨a, c, rfl, ho2, hu2⟩
  have HU2 := Lib.hid (HU.out.trans hu2); have HO2 := Lib.hid (ownsRow_low ho2 HU.out.size)
  clear hu2 ho2 HE c0
  simp only []
  go_wp2
  go_ret2
  exact ⟨a, c, rfl, HO2.out, HU2.out⟩
end Go.Proofs.YtbonfdkgkcbkmaaGreat
end

section
namespace Go.Proofs.YtbonfdkgkcbkmaaGreat
set_option maxRecDepth 100000
open Go.RowKit Go.Shelf

attribute [local go_sem] Oper.semAt_some
theorem lkRow_set {os : List OpM} {i : Nat} {a : Int × Int} {z : LkV} : ∀ {l : List (Int × Int)} {j : Nat}, z ∈ lkRow os i a j l → z.set < 256
  | [], j, h => by simp [lkRow] at h
  | b :: l, j, h => by
    rw [lkRow, List.mem_append] at h
    rcases h with h | h
    · unfold lk1 at h
      split at h
      · simp only [List.mem_singleton] at h
        rw [h]
        exact Nat.lt_of_le_of_lt Nat.and_le_left (maskN_lt _ _ 8 (Nat.le_refl _))
      · simp at h
    · exact lkRow_set h
theorem lkF_set {os : List OpM} {L : List (Int × Int)} {z : LkV} : ∀ {l : List (Int × Int)} {i : Nat}, z ∈ lkF os L i l → z.set < 256
  | [], i, h => by simp [lkF] at h
  | a :: l, i, h => by
    rw [lkF, List.mem_append] at h
    rcases h with h | h
    · exact lkRow_set h
    · exact lkF_set h
theorem links_set {os : List OpM} {z : LkV} (h : z ∈ linksL os) : z.set < 256 := lkF_set h
set_option maxHeartbeats 1000000 in
theorem route2_any {nb kb g : Nat} {z : LkV} {n : Int} (w : World) (hn : w.heap[nb]? = some (.cells #[.int .i64 n] 3 (0, 0))) (hk : w.heap[kb]? = some (.cells #[.int .i64 g] 3 (0, 0))) (hz : z.set < 256) (hg : g < 8) :
    Calls Tryz.prog 312 #[.agg #[.int .i64 z.frm, .int .i64 z.dst, .int .u64 z.set], .pointer (some ⟨nb, 0, none⟩), .pointer (some ⟨kb, 0, none⟩)] w fun e w' => e = .returned (.bool ((z.frm : Int) == n && z.set.testBit g)) ∧ Upd0 w w' := by
  obtain ⟨b, hb⟩ : ∃ b, b = w.heap.size := ⟨_, rfl⟩
  obtain ⟨w1, hw1⟩ : ∃ w1, w1 = w.alloc (.cells #[.int .i64 z.frm, .int .i64 z.dst, .int .u64 z.set] 198) := ⟨_, rfl⟩
  have hu1 : Upd0 w w1 := by rw [hw1]; exact (Upd.refl _ w).alloc _
  have hx : w1.heap[b]? = some (.cells #[.int .i64 z.frm, .int .i64 z.dst, .int .u64 z.set] 198 (0, 0)) := by rw [hw1]; exact alloc_at hb
  obtain ⟨x0, x1, x2⟩ := cells3_of hx
  have n0 := cells1_of ((hu1.block _ (lt_of_heap hn) (fun e => e)).trans hn)
  have k0 := cells1_of ((hu1.block _ (lt_of_heap hk) (fun e => e)).trans hk)
  have HS := Lib.hid (sethas_any z.set g w1 hz hg)
  have HU := Lib.hid hu1
  clear hn hk hu1 hx
  go_enter Tryz.func312, Tryz.ntmps312
  go_upto_region 1 with fail
  rw [← hw1, ← hb]
  clear hw1 hb
  by_cases he : (z.frm : Int) = n
  · go_wp2_with (go_at_call 313; fail)
    (with_reducible refine HS.out.mono ?_)
    rintro _ w2 ⟨rfl, rfl⟩
    simp only []
    go_wp2
    go_ret
    exact ⟨by simp [he], HU.out⟩
  · go_wp2
    go_ret
    exact ⟨by simp [he], HU.out⟩
/-- What Route answers. -/
def rtL (os : List OpM) (n : Int) (r : RecV) : List Int := thoseL (fun z => (z.frm : Int) == n && z.set.testBit (grpN r)) os
def RouteR (os : List OpM) (n : Int) (r : RecV) : List Int × Int := if (chkG os).2 ≠ 0 then ([], (chkG os).2) else if (hasR os n r).2 ≠ 0 then ([], (hasR os n r).2) else if (hasR os n r).1 = false then ([], 2) else (rtL os n r, 0)
theorem callRoute2 : ∀ args w, (callFunc 312 args).run Tryz.prog w = .ok (.enter 312 args) w := enters_of Tryz.func312 (by kernel_rfl) rfl
theorem callRoute1 : ∀ args w, (callFunc 311 args).run Tryz.prog w = .ok (.enter 311 args) w := enters_of Tryz.func311 (by kernel_rfl) rfl
theorem hasR_rec {os : List OpM} {n : Int} {r : RecV} (h : (hasR os n r).2 = 0) : chkRec r = 0 := by
  unfold hasR at h
  split at h
  · rename_i h1; exact absurd h h1
  · split at h
    · simp at h
    · rename_i h2
      exact Classical.byContradiction h2
set_option maxHeartbeats 4000000 in
theorem route1_any {oa : Option Addr} {os : List OpM} {oc gb nb rb : Nat} (n : Int) (r : RecV) (w : World) (h : OpsIn w oa os) (hck : (chkG os).2 = 0) (hlo : os.length ≤ 50) (hg : w.heap[gb]? = some (.cells #[.slice oa os.length oc] 24 (0, 0))) (hn : w.heap[nb]? = some (.cells #[.int .i64 n] 3 (0, 0)))
    (hr : w.heap[rb]? = some (.cells #[.int .i64 r.src, .int .i64 r.key, .int .i64 r.val] 36 (0, 0))) :
    Calls Tryz.prog 311 #[.pointer (some ⟨gb, 0, none⟩), .pointer (some ⟨nb, 0, none⟩), .pointer (some ⟨rb, 0, none⟩)] w fun e w' => ∃ a c, e = .returned (.tuple #[.slice a (RouteR os n r).1.length c, .int .i64 (RouteR os n r).2]) ∧ OwnI w' w.heap.size 3 (.slice a (RouteR os n r).1.length c) (RouteR os n r).1 ∧ Upd0 w w' := by
  have hwd := chkG_wide hck
  have HH := Lib.hid (phas_any (oc := oc) n r w h hlo (fun o ho => by have := hwd o ho; omega))
  have HTH := Lib.hid (fun (W : World) (kb : Nat) (hW : Upd0 w W) (hk : W.heap[kb]? = some (.cells #[.int .i64 (grpN r)] 3 (0, 0))) => those_any (oc := oc) (g := 312) (lb := #[.pointer (some ⟨nb, 0, none⟩), .pointer (some ⟨kb, 0, none⟩)]) (p := fun z => (z.frm : Int) == n && z.set.testBit (grpN r)) W (h.kept hW) hlo hwd callRoute2
    (fun z W2 hz hW2 => route2_any W2 (((hW.trans hW2).block _ (lt_of_heap hn) (fun e => e)).trans hn) ((hW2.block _ (lt_of_heap hk) (fun e => e)).trans hk) (links_set hz) (grpN_lt r)))
  have HR := Lib.hid (show RouteR os n r = if (hasR os n r).2 ≠ 0 then ([], (hasR os n r).2) else if (hasR os n r).1 = false then ([], 2) else (rtL os n r, 0) by unfold RouteR; rw [if_neg (by simp [hck])])
  have HRC := Lib.hid (fun (h : (hasR os n r).2 = 0) => hasR_rec h)
  obtain ⟨er, her⟩ : ∃ er, er = RouteR os n r := ⟨_, rfl⟩
  rw [← her] at HR ⊢
  obtain ⟨hr2, hhr⟩ : ∃ hr2, hr2 = hasR os n r := ⟨_, rfl⟩
  rw [← hhr] at HH HR HRC
  obtain ⟨hb1, hb2⟩ := hr2
  simp only at HH HR HRC
  obtain ⟨tl, htl⟩ : ∃ tl, tl = rtL os n r := ⟨_, rfl⟩
  rw [← htl] at HR
  rw [show thoseL (fun z => (z.frm : Int) == n && z.set.testBit (grpN r)) os = tl from htl.symm] at HTH
  have HG := Lib.hid hg; have HRB := Lib.hid hr
  have c0 := cells1_of hg
  have d0 := cells1_of hn
  obtain ⟨r0, r1, r2⟩ := cells3_of hr
  clear h hck hg hn hr hwd her hhr htl
  go_enter Tryz.func311, Tryz.ntmps311
  go_wp2_with (go_at_call 94; fail)
  (with_reducible refine HH.out.mono ?_)
  rintro _ w2 ⟨rfl, hu2⟩
  have HU2 := Lib.hid hu2
  have HG2 := Lib.hid ((hu2.block _ (lt_of_heap HG.out) (fun e => e)).trans HG.out)
  have HR2 := Lib.hid ((hu2.block _ (lt_of_heap HRB.out) (fun e => e)).trans HRB.out)
  clear hu2 HH c0 d0 r0 r1 r2
  simp only []
  by_cases hz : hb2 = 0
  · subst hz
    rw [if_neg (by simp)] at HR
    cases hb1
    · rw [if_pos rfl] at HR
      clear HTH
      go_wp2
      go_ret2
      refine ⟨none, 0, by rw [HR.out]; rfl, ?_, HU2.out⟩
      rw [HR.out]
      exact World.ownsRow_nil _ _ _ _
    · rw [if_neg (by simp)] at HR
      have HGP := Lib.hid (group_any r w2)
      rw [if_pos (HRC.out rfl)] at HGP
      obtain ⟨r0, r1, r2⟩ := cells3_of HR2.out
      go_wp2_with (go_at_call 209; fail)
      (with_reducible refine HGP.out.mono ?_)
      rintro _ w3 ⟨rfl, hu3⟩
      obtain ⟨w4, hw4⟩ : ∃ w4, w4 = w3.alloc (.cells #[.int .i64 (grpN r)] 3) := ⟨_, rfl⟩
      obtain ⟨kb, hkb⟩ : ∃ kb, kb = w3.heap.size := ⟨_, rfl⟩
      have hu4 : Upd0 w2 w4 := by rw [hw4]; exact hu3.alloc _
      have HK4 := Lib.hid (show w4.heap[kb]? = some (.cells #[.int .i64 (grpN r)] 3 (0, 0)) by rw [hw4]; exact alloc_at hkb)
      have HU4 := Lib.hid (HU2.out.trans hu4)
      have HG4 := Lib.hid ((hu4.block _ (lt_of_heap HG2.out) (fun e => e)).trans HG2.out)
      have HT := Lib.hid (HTH.out w4 kb HU4.out HK4.out)
      clear hu3 hu4 HGP r0 r1 r2 HTH
      simp only []
      go_upto_region 7 with fail
      rw [← hw4, ← hkb]
      clear hw4 hkb
      have c0 := cells1_of HG4.out
      go_wp2_with (go_at_call 176; fail)
      (with_reducible refine HT.out.mono ?_)
      rintro _ w5 ⟨a5, c5, rfl, ho5, hu5⟩
      have HO5 := Lib.hid ho5; have HU5 := Lib.hid (HU4.out.trans hu5)
      clear ho5 hu5 HT c0
      simp only []
      go_wp2
      go_ret2
      refine ⟨a5, c5, by rw [HR.out]; rfl, ?_, HU5.out⟩
      rw [HR.out]
      exact ownsRow_low HO5.out HU4.out.size
  · rw [if_pos hz] at HR
    clear HTH
    go_wp2
    go_ret2
    refine ⟨none, 0, by rw [HR.out]; rfl, ?_, HU2.out⟩
    rw [HR.out]
    exact World.ownsRow_nil _ _ _ _
set_option maxHeartbeats 1000000 in
theorem plroute_any {oa : Option Addr} {os : List OpM} {oc : Nat} (n : Int) (r : RecV) (w : World) (h : OpsIn w oa os) (hol : os.length ≤ 50) (hoc : os.length ≤ oc) (hom : oc ≤ maxLen) :
    Calls Tryz.prog 246 #[.agg #[.slice oa os.length oc], .int .i64 n, .agg #[.int .i64 r.src, .int .i64 r.key, .int .i64 r.val]] w fun e w' => ∃ a c, e = .returned (.tuple #[.slice a (RouteR os n r).1.length c, .int .i64 (RouteR os n r).2]) ∧ OwnI w' w.heap.size 3 (.slice a (RouteR os n r).1.length c) (RouteR os n r).1 ∧ Upd0 w w' := by
  obtain ⟨b, hb⟩ : ∃ b, b = w.heap.size := ⟨_, rfl⟩
  obtain ⟨w1, hw1⟩ : ∃ w1, w1 = ((w.alloc (.cells #[.slice oa os.length oc] 24)).alloc (.cells #[.int .i64 n] 3)).alloc (.cells #[.int .i64 r.src, .int .i64 r.key, .int .i64 r.val] 36) := ⟨_, rfl⟩
  have hu1 : Upd0 w w1 := by rw [hw1]; exact (((Upd.refl _ w).alloc _).alloc _).alloc _
  have hb0 : w1.heap[b]? = some (.cells #[.slice oa os.length oc] 24 (0, 0)) := by rw [hw1, hb]; exact (alloc_lt (by simp <;> omega)).trans ((alloc_lt (by simp)).trans (alloc_at rfl))
  have hb1 : w1.heap[b + 1]? = some (.cells #[.int .i64 n] 3 (0, 0)) := by rw [hw1, hb]; exact (alloc_lt (by simp)).trans (alloc_at (by simp))
  have hb2 : w1.heap[b + 2]? = some (.cells #[.int .i64 r.src, .int .i64 r.key, .int .i64 r.val] 36 (0, 0)) := by rw [hw1, hb]; exact alloc_at (by simp)
  have HAS := Lib.hid (askedI_any (g := 311) (lb := #[.pointer (some ⟨b, 0, none⟩), .pointer (some ⟨b + 1, 0, none⟩), .pointer (some ⟨b + 2, 0, none⟩)]) (oc := oc) (R := fun v E W => E = (RouteR os n r).2 ∧ ∃ a c, v = .slice a (RouteR os n r).1.length c ∧ OwnI W w.heap.size 3 v (RouteR os n r).1 ∧ Upd0 w W) w1 (h.kept hu1) hol hoc hom callRoute1
    (fun he W hW => ⟨by simp [RouteR, he], none, 0, by simp [RouteR, he], by
      have e : (RouteR os n r).1 = [] := by simp [RouteR, he]
      rw [e]; exact World.ownsRow_nil _ _ _ _, hu1.trans hW⟩)
    (fun he W hW => (route1_any (oc := oc) n r W (h.kept (hu1.trans hW)) he hol ((hW.block _ (lt_of_heap hb0) (fun e => e)).trans hb0) ((hW.block _ (lt_of_heap hb1) (fun e => e)).trans hb1) ((hW.block _ (lt_of_heap hb2) (fun e => e)).trans hb2)).mono (fun e W' ⟨a, c, h1, h2, h3⟩ =>
      ⟨_, _, h1, rfl, a, c, rfl, ownsRow_low h2 (hu1.trans hW).size, (hu1.trans hW).trans h3⟩)))
  have c0 := cells1_of hb0
  clear h hol hoc hom hb0 hb1 hb2
  go_enter Tryz.func246, Tryz.ntmps246
  go_wp2_with (go_at_call 174; fail)
  rw [← hw1, ← hb]
  clear hw1 hb
  try simp only [Nat.add_assoc, Nat.reduceAdd]
  (with_reducible refine HAS.out.mono ?_)
  rintro _ w2 ⟨v, E, rfl, rfl, a, c, rfl, ho2, hu2⟩
  have HU2 := Lib.hid hu2; have HO2 := Lib.hid ho2
  clear hu2 ho2 HAS c0 hu1
  simp only []
  go_wp2
  go_ret2
  exact ⟨a, c, rfl, HO2.out, HU2.out⟩
end Go.Proofs.YtbonfdkgkcbkmaaGreat
end

section
namespace Go.Proofs.YtbonfdkgkcbkmaaGreat
set_option maxRecDepth 100000
open Go.RowKit Go.Shelf

attribute [local go_sem] Oper.semAt_some
/-- What holds between the rounds of collected. -/
structure CoI (Φ : Nat → TypeId → Prop) (w : World) (pre : List Int) (W : World) : Prop where
  out : ∃ a c, W.heap[w.heap.size]? = some (.cells #[.slice a pre.length c] 75 (0, 0)) ∧ OwnI W (w.heap.size + 1) 3 (.slice a pre.length c) pre
  upd : UpdT Φ w W

/-- What the body of collected may write. -/
def coIB (w : World) : Nat → TypeId → Prop := fun k t => (k = w.heap.size ∧ t = 75) ∨ (w.heap.size < k ∧ t = 3)

theorem CoI.box {w W w4 : World} {pre : List Int} {x : Int} {a : Option Addr} {c : Nat} (h1 : W.heap[w.heap.size]? = some (.cells #[.slice a pre.length c] 75 (0, 0))) (h2 : OwnI W (w.heap.size + 1) 3 (.slice a pre.length c) pre) (hgrow : (W.alloc (.cells #[.int .i64 x] 3)).grownBy w4 (Value.slice a pre.length c).ownBlock) :
    w4.heap[w.heap.size]? = some (.cells #[.slice a pre.length c] 75 (0, 0)) :=
  (hgrow.block _ (by simp; have := lt_of_heap h1; omega) (fun e => by have := (World.ownsRow.lt h2 _ e.symm).1; omega)).trans ((alloc_lt (lt_of_heap h1)).trans h1)
theorem CoI.more {Φ : Nat → TypeId → Prop} {w W w4 : World} {pre : List Int} {x : Int} {a : Option Addr} {c g4 cap4 : Nat} (h1 : W.heap[w.heap.size]? = some (.cells #[.slice a pre.length c] 75 (0, 0))) (h2 : OwnI W (w.heap.size + 1) 3 (.slice a pre.length c) pre) (h3 : UpdT Φ w W)
    (hown4 : w4.ownsRow (w.heap.size + 1) 3 1 (.slice (some ⟨g4, 0, none⟩) (pre.length + 1) cap4) (pre.length + 1) (pre.map I ++ [.int .i64 x])) (hgrow : (W.alloc (.cells #[.int .i64 x] 3)).grownBy w4 (Value.slice a pre.length c).ownBlock) :
    CoI Φ w (pre ++ [x]) (w4.setCell ⟨w.heap.size, 0, none⟩ (.slice (some ⟨g4, 0, none⟩) (pre.length + 1) cap4)) ∧ UpdT (coIB w) W (w4.setCell ⟨w.heap.size, 0, none⟩ (.slice (some ⟨g4, 0, none⟩) (pre.length + 1) cap4)) := by
  have hg4 : w.heap.size + 1 ≤ g4 := (World.ownsRow.lt hown4 g4 rfl).1
  have hv : ∀ k, (Value.slice a pre.length c).ownBlock = some k → w.heap.size + 1 ≤ k := fun k hk => (World.ownsRow.lt h2 k hk).1
  have hbx : w4.heap[w.heap.size]? = some (.cells #[.slice a pre.length c] 75 (0, 0)) :=
    (hgrow.block _ (by simp; have := lt_of_heap h1; omega) (fun e => by have := hv _ e.symm; omega)).trans ((alloc_lt (lt_of_heap h1)).trans h1)
  have hua : Upd (fun k => (Value.slice a pre.length c).ownBlock = some k) W w4 := ((Upd.refl _ W).alloc _).trans (Upd.of_grown hgrow (fun k hk => hk))
  have hub : Upd (fun k => (Value.slice a pre.length c).ownBlock = some k ∨ k = w.heap.size) W (w4.setCell ⟨w.heap.size, 0, none⟩ (.slice (some ⟨g4, 0, none⟩) (pre.length + 1) cap4)) :=
    (hua.mono (fun _ _ e => .inl e)).trans ((upd_own w4 w.heap.size 0 _).mono (fun _ _ e => .inr e))
  refine ⟨⟨⟨some ⟨g4, 0, none⟩, cap4, ?_, ?_⟩, ?_⟩, ?_⟩
  · have := blk_set (i := 0) (v := .slice (some ⟨g4, 0, none⟩) (pre.length + 1) cap4) hbx
    simpa using this
  · refine ownsRow_heap (by simpa [OwnI] using hown4) (fun k hk => ?_)
    simp only [Value.ownBlock, Option.some.injEq] at hk
    exact set_ne (by show k ≠ w.heap.size; omega)
  · refine h3.own hub (fun k hk => ?_)
    rcases hk with hk | hk
    · have := hv k hk; omega
    · omega
  · refine hub.mono (fun k hk e => ?_)
    rcases e with e | e
    · obtain ⟨cur, hcur⟩ := ownsRow_at h2 e
      exact ⟨_, _, _, hcur, .inr ⟨by have := hv k e; omega, rfl⟩⟩
    · subst e
      exact ⟨_, _, _, h1, .inl ⟨rfl, rfl⟩⟩

set_option maxHeartbeats 4000000 in
theorem appendseq_any {gf : Nat} {lb : Array Value} (w : World) (Φ : Nat → TypeId → Prop) (S : List Int → World → Prop) (eg : ∀ args w, (callFunc gf args).run Tryz.prog w = .ok (.enter gf args) w)
    (hΦ : ∀ k t, Φ k t → w.heap.size ≤ k → t ≠ 75 ∧ t ≠ 3) (hSP : ∀ xs W l o o', S xs W → w.heap.size ≤ l → W.heap[l]? = some o → o.isCells = false → S xs (W.putObj l o'))
    (hseq : ∀ (l : Nat) (J : List Int → World → Prop) (Jx : World → Prop) (W : World), J [] W → Upd0 w W → w.heap.size < W.heap.size → (∀ pre W W', w.heap.size < W.heap.size → J pre W → UpdT Φ W W' → J pre W') → (∀ W W', w.heap.size < W.heap.size → Jx W → UpdT Φ W W' → Jx W') →
      (∀ pre x W1, w.heap.size < W1.heap.size → J pre W1 → pre.length < 1000 → YieldAt Fence.wide 3 Tryz.prog l #[.int .i64 x] W1 fun e W' => (e = .returned (.bool true) ∧ J (pre ++ [x]) W' ∧ UpdT (coIB w) W1 W') ∨ (e = .returned (.bool false) ∧ Jx W')) →
      CallsIn Fence.wide 4 Tryz.prog gf (#[.func (.yield l) #[] #[]] ++ lb) W fun e W' => (∃ v, e = .returned v) ∧ ((∃ xs, S xs W' ∧ J xs W') ∨ Jx W')) :
    Calls Tryz.prog 345 #[.slice none 0 0, .func (.func gf) #[] lb] w fun e w' => ∃ xs a c, e = .returned (.slice a xs.length c) ∧ OwnI w' w.heap.size 3 (.slice a xs.length c) xs ∧ S xs w' ∧ UpdT Φ w w' := by
  obtain ⟨w1, hw1⟩ : ∃ w1, w1 = w.alloc (.cells #[.slice none 0 0] 75) := ⟨_, rfl⟩
  have hu1 : Upd0 w w1 := by rw [hw1]; exact (Upd.refl _ w).alloc _
  have hx1 : w1.heap[w.heap.size]? = some (.cells #[.slice none 0 0] 75 (0, 0)) := by rw [hw1]; exact alloc_at rfl
  have hz1 : w1.heap.size = w.heap.size + 1 := by rw [hw1]; simp
  have HAT := Lib.hid (show CoI Φ w [] w1 from ⟨⟨none, 0, hx1, World.ownsRow_nil _ _ _ _⟩, UpdT.of0 hu1⟩)
  have HSEQ := Lib.hid hseq; have HPHI := Lib.hid hΦ; have HSP := Lib.hid hSP; have HU1 := Lib.hid hu1; have HZ1 := Lib.hid hz1
  clear hseq hΦ hSP hu1 hx1 hz1
  refine (callsIn_wide (n := 5)).1 ?_
  refine callsIn_of_wp_marks Tryz.func345 rfl trivial ?_ rfl
  simp only [Tryz.ntmps345, List.size_toArray, List.length_cons, List.length_nil, Nat.reduceAdd, Nat.reduceSub, Array.replicate_succ, Array.replicate_zero, List.push_toArray, List.append_toArray, List.nil_append, List.cons_append]
  gi_wp2
  rw [← hw1]
  clear hw1
  refine wpIn_rangeFunc_T (α := Int) (encs := fun x => #[.int .i64 x]) rfl (by omega) (gf := gf) (lb := lb) rfl trivial eg (fun _ => rfl) Φ (coIB w) (fun pre _ => pre.length < 1000) S (CoI Φ w) (fun _ _ => False)
    ?hIU ?hIP (fun _ _ _ _ e => e.elim) (fun _ _ _ _ _ e => e.elim) HAT.out ?hSP ?hseq (fun x a' _ => a' = { tmps := #[.slice none 0 0, .func (.func gf) #[] lb, .pointer (some ⟨w.heap.size, 0, none⟩), undef, .slice none 0 0, .int .i64 x, .func (.func gf) #[] lb, .int .i64 x, undef, undef, undef, undef, undef], defers := [] }) (fun _ _ _ _ _ _ e _ _ => e) ?hassign ?hbody ?hdone (fun _ _ e => e.elim)
  case hIU =>
    rintro pre W W' hs ⟨⟨a, c, h1, h2⟩, h3⟩ hu
    refine ⟨⟨a, c, hu.keep h1 (fun cs t fr e p => ?_), ownsRow_T h2 hu (fun k hk p => (HPHI.out k 3 p (by omega)).2 rfl)⟩, h3.trans hu⟩
    injection e with _ e
    subst e
    exact (HPHI.out _ _ p (Nat.le_refl _)).1 rfl
  case hIP =>
    rintro pre W l o o' ⟨⟨a, c, h1, h2⟩, h3⟩ hl ho
    exact ⟨⟨a, c, cells_put o' h1 rfl ho rfl, ownsRow_put h2 o' ho rfl⟩, h3.put (by have := HZ1.out; omega) o'⟩
  case hSP =>
    intro xs W l o o' h hl ho
    exact HSP.out xs W l _ o' h (by have := HZ1.out; omega) ho rfl
  case hseq =>
    intro l J Jx W h0 hu hJ hJx hY
    have hz := HZ1.out
    exact HSEQ.out l J Jx W h0 (HU1.out.trans hu) (by have := hu.size; omega) (fun pre W W' hs => hJ pre W W' (by omega)) (fun W W' hs => hJx W W' (by omega)) (fun pre x W1 hs h hp => hY pre x W1 (by omega) h hp)
  case hassign =>
    intro l x W K _ hK
    have HK := Lib.hid (hK _ W (Upd.refl _ W) rfl)
    clear hK
    gi_wp2
    exact HK.out
  case hbody =>
    rintro l pre x a' W r hl hs ⟨⟨a, c, h1, h2⟩, h3⟩ hpl rfl hlr
    have c4 := cells1_of h1
    have f4 : W.frozen? ⟨w.heap.size, 0, none⟩ = false := frozen_of_heap h1
    have hlt := lt_of_heap h1
    have H1 := Lib.hid h1; have H2 := Lib.hid h2; have H3 := Lib.hid h3
    clear h1 h2 h3 hlr
    gi_wp2_with (gi_at_builtin; obtain ⟨i0, hi0, hz0, hz1, hz2⟩ := info_parts infoI; refine wpListIn_append_own _ rfl (.tmp 8) (.tmp 10) 75 rfl (w.heap.size + 1) 3 i0 (.int .i64 0) 1 8 Tryz.underlying75 hi0 hz0 hz1 hz2 rfl (by omega) (.slice a pre.length c) pre.length (pre.map I) rfl (H2.out.alloc _) ⟨W.heap.size, 0, none⟩ 1 1 [.int .i64 x] rfl rfl (cell_one_new _ _ _) (by simp [Value.oneCell']) (by unfold maxLen; omega) (by omega) (by simp; omega) ?_; clear hi0 hz0 hz1 hz2; intro v' w4 hown4 hgrow _; obtain ⟨g4, cap4, rfl⟩ := ownsRow_succ hown4; have hbx4 := CoI.box H1.out H2.out hgrow; have c4' := cells1_of hbx4; have f4' : w4.frozen? ⟨w.heap.size, 0, none⟩ = false := frozen_of_heap hbx4; have HM := Lib.hid (CoI.more H1.out H2.out H3.out hown4 hgrow); clear hown4 hgrow hbx4)
    exact HM.out
  case hdone =>
    rintro xs W hS ⟨⟨a, c, h1, h2⟩, h3⟩ hD
    have c4 := cells1_of h1
    have HS := Lib.hid hS; have H1 := Lib.hid h1; have H2 := Lib.hid h2; have H3 := Lib.hid h3; have HD := Lib.hid hD
    clear hS h1 h2 h3 hD
    gi_wp2
    refine ⟨by simp, .inl ⟨_, _, rfl, run_takeDeferred HD.out, ?_⟩⟩
    have hz := HZ1.out
    exact ⟨_, results_tmp rfl _ _ _, xs, a, c, rfl, ownsRow_low (ownsRow_put H2.out _ HD.out rfl) (by omega), HSP.out _ _ _ _ _ HS.out (by omega) HD.out rfl, H3.out.put (by omega) _⟩

/-- Somebody's groups. -/
def ownP (idx wd : Int) (k : Nat) : List Int := ((List.range k).filter (ownG idx wd)).map fun g : Nat => (g : Int)
def ownL (idx wd : Int) : List Int := ownP idx wd 8
theorem ownP_snoc (idx wd : Int) (k : Nat) : ownP idx wd (k + 1) = ownP idx wd k ++ if ownG idx wd k then [(k : Int)] else [] := by
  unfold ownP
  rw [List.range_succ, List.filter_append, List.map_append]
  congr 1
  simp only [List.filter_cons, List.filter_nil]
  split <;> simp
theorem ownP_split {idx wd : Int} : ∀ {n k : Nat}, k ≤ n → ∃ rest, ownP idx wd n = ownP idx wd k ++ rest
  | 0, k, h => by obtain rfl : k = 0 := by omega
                  exact ⟨[], by simp⟩
  | n + 1, k, h => by
    rcases Nat.lt_or_ge n k with hk | hk
    · obtain rfl : k = n + 1 := by omega
      exact ⟨[], by simp⟩
    · obtain ⟨r, hr⟩ := ownP_split (idx := idx) (wd := wd) hk
      exact ⟨_, by rw [ownP_snoc, hr, List.append_assoc]⟩
theorem ownP_len (idx wd : Int) (k : Nat) : (ownP idx wd k).length ≤ k := by
  have := List.length_filter_le (ownG idx wd) (List.range k)
  simp only [ownP, List.length_map]
  simp at this
  exact this
theorem ownP_mem {idx wd : Int} {k : Nat} {x : Int} (h : x ∈ ownP idx wd k) : ∃ g : Nat, x = g ∧ g < k ∧ ownG idx wd g = true := by
  unfold ownP at h
  obtain ⟨g, hg, rfl⟩ := List.mem_map.1 h
  rw [List.mem_filter, List.mem_range] at hg
  exact ⟨g, rfl, hg.1, hg.2⟩
set_option maxHeartbeats 8000000 in
theorem owned1_any {idx wd : Int} {wb xb B : Nat} (hw : 1 ≤ wd ∧ wd ≤ 3) (G : World → Prop) (hG : ∀ W, G W → W.heap[wb]? = some (.cells #[.int .i64 wd] 3 (0, 0)) ∧ W.heap[xb]? = some (.cells #[.int .i64 idx] 3 (0, 0)) ∧ B ≤ W.heap.size) (hG0 : ∀ W W', G W → Upd0 W W' → G W') {Φb : Nat → TypeId → Prop} (hGb : ∀ W W', G W → UpdT Φb W W' → G W')
    (l : Nat) (J : List Int → World → Prop) (Jx : World → Prop) (W : World) (hu0 : G W) (h0 : J [] W) (hJ : ∀ pre W W', B ≤ W.heap.size → J pre W → Upd0 W W' → J pre W')
    (hY : ∀ pre x W1, G W1 → J pre W1 → (∃ rest, ownL idx wd = (pre ++ [x]) ++ rest) → YieldAt Fence.wide 3 Tryz.prog l #[.int .i64 x] W1 fun e W' => (e = .returned (.bool true) ∧ J (pre ++ [x]) W' ∧ UpdT Φb W1 W') ∨ (e = .returned (.bool false) ∧ Jx W')) :
    CallsIn Fence.wide 4 Tryz.prog 346 #[.func (.yield l) #[] #[], .pointer (some ⟨wb, 0, none⟩), .pointer (some ⟨xb, 0, none⟩)] W fun e W' => (∃ v, e = .returned v) ∧ ((∃ ks, ks = ownL idx wd ∧ J ks W') ∨ Jx W') := by
  have HY := Lib.hid hY; have HJ := Lib.hid hJ; have HG := Lib.hid hG; have HG0 := Lib.hid hG0; have HGB := Lib.hid hGb
  have HU0 := Lib.hid hu0; have HJ0 := Lib.hid h0
  clear hY hJ hG hG0 hGb hu0 h0
  refine callsIn_of_wp Tryz.func346 rfl trivial ?_ rfl
  simp only [Tryz.ntmps346, List.size_toArray, List.length_cons, List.length_nil, Nat.reduceAdd, Nat.reduceSub, Array.replicate_succ, Array.replicate_zero, List.push_toArray, List.append_toArray, List.nil_append, List.cons_append]
  refine wpIn_mono ?_ noPanic_of
  refine wpIn_wide.2 ?_
  go_wp2_with (fail)
  go_loopw [5] (fun i wr => ∃ k : Nat, k ≤ 8 ∧ i = .int .i64 k ∧ Hid (G wr) ∧ Hid (J (ownP idx wd k) wr)) (fun i _ => 8 - (intOf i).toNat)
  case atStart => exact ⟨0, Nat.zero_le _, rfl, HU0, HJ0⟩
  case round =>
    clear HU0 HJ0
    obtain ⟨k, hk, rfl, HGW, HJW⟩ := hrel
    by_cases hlt : k < 8
    · have hkI : (k : Int) < 8 := by omega
      have HOW := Lib.hid (fun (W : World) => owner_any k wd W (by omega) hw)
      have HW0 := Lib.hid (HG.out _ HGW.out).1
      have HX0 := Lib.hid (HG.out _ HGW.out).2.1
      by_cases he : (k : Int) * wd / 8 = idx
      · have HPS := Lib.hid (show ownP idx wd (k + 1) = ownP idx wd k ++ [(k : Int)] by rw [ownP_snoc, ownG, if_pos (by simpa using he)])
        have hbe : ((k : Int) * wd / 8 == idx) = true := by simpa using he
        have HBE := Lib.hid hbe
        have hJy := HY.out _ (k : Int) wr.drew (HG0.out _ _ HGW.out (Upd.refl _ _).drew) (HJ.out _ _ _ (HG.out _ HGW.out).2.2 HJW.out (Upd.refl _ _).drew) (by
          obtain ⟨rest, h1⟩ := ownP_split (idx := idx) (wd := wd) (show k + 1 ≤ 8 by omega)
          exact ⟨rest, by rw [ownL, h1, HPS.out]⟩)
        obtain ⟨fn, tmps, assign, body, hy, hR⟩ := hJy
        have HRR := Lib.hid hR
        have HYY := Lib.hid hy
        clear hR hy he hbe
        go_upto_region 3 with fail
        have hA : wr.drew = wr.drew := rfl
        refine (wpIn_wide (n := 4)).1 ?_
        refine wpIn_region_GI 8 (fun W' => W' = wr.drew) [false, false, false, false, false, false, false, false, false, false, false] rfl (by kernel_rfl) ?_
        refine wpGI_take (i := 0) (v := .int .i64 k) rfl rfl (fun L hc h => (hc.waits (n := 8) (i := 5) (by kernel_rfl) (hc.waits (n := 5) (i := 4) (by kernel_rfl) (hc.waits (n := 4) (i := 2) (by kernel_rfl) (hc.waits (n := 2) (i := 0) (by kernel_rfl) h))))) (by kernel_rfl) (fun _ _ _ h => h) hA (fun _ => rfl) (.inl ⟨rfl, fun w5 q1 => ?_⟩) ?_
        · go_simp
        simp only [Act.put, List.setIfInBounds_toArray, List.set]
        refine wpGI_take (i := 1) (v := .int .i64 wd) rfl rfl (fun L hc h => (hc.waits (n := 8) (i := 5) (by kernel_rfl) (hc.waits (n := 5) (i := 4) (by kernel_rfl) (hc.waits (n := 4) (i := 2) (by kernel_rfl) (hc.waits (n := 2) (i := 1) (by kernel_rfl) h))))) (by kernel_rfl) (fun _ _ _ h => h) hA (fun _ => rfl) (.inl ⟨rfl, fun w5 q1 => ?_⟩) ?_
        · subst q1
          have c0 := cells1_of (w := wr.drew) HW0.out
          go_simp
        simp only [Act.put, List.setIfInBounds_toArray, List.set]
        refine wpGI_take (i := 3) (v := .int .i64 idx) rfl rfl (fun L hc h => (hc.waits (n := 8) (i := 5) (by kernel_rfl) (hc.waits (n := 5) (i := 4) (by kernel_rfl) (hc.waits (n := 4) (i := 3) (by kernel_rfl) h)))) (by kernel_rfl) (fun _ _ _ h => h) hA (fun _ => rfl) (.inl ⟨rfl, fun w5 q1 => ?_⟩) ?_
        · subst q1
          have c0 := cells1_of (w := wr.drew) HX0.out
          go_simp
        simp only [Act.put, List.setIfInBounds_toArray, List.set]
        refine wpGI_doIf (i := 2) rfl (by kernel_rfl) rfl (fun K hK => ?_)
        have HKK := Lib.hid hK
        clear hK
        gi_step
        refine ⟨trivial, ?_⟩
        refine (callsIn_wide.2 (HOW.out _)).mono ?_
        rintro _ w5 ⟨rfl, rfl⟩
        simp only []
        refine HKK.out _ _ ⟨fun _ => hA, ?_⟩
        clear HKK
        simp only [Act.put, List.setIfInBounds_toArray, List.set]
        refine wpGI_take (i := 4) (v := .bool true) rfl rfl (fun L hc h => (hc.waits (n := 8) (i := 5) (by kernel_rfl) (hc.waits (n := 5) (i := 4) (by kernel_rfl) h))) (by kernel_rfl) (fun _ _ _ h => h) hA (fun _ => rfl) (.inl ⟨rfl, fun w5 q1 => ?_⟩) ?_
        · have hbe := HBE.out
          go_simp
        simp only [Act.put, List.setIfInBounds_toArray, List.set]
        refine wpGI_take (i := 5) (v := .bool true) rfl rfl (fun L hc h => (hc.waits (n := 8) (i := 5) (by kernel_rfl) h)) (by kernel_rfl) (fun _ _ _ h => h) hA (fun _ => rfl) (.inl ⟨rfl, fun w5 q1 => ?_⟩) ?_
        · go_simp
        simp only [Act.put, List.setIfInBounds_toArray, List.set]
        refine wpGI_take (i := 6) (v := .func (.yield l) #[] #[]) rfl rfl (fun L hc h => (hc.waits (n := 8) (i := 6) (by kernel_rfl) h)) (by kernel_rfl) (fun _ _ _ h => h) hA (fun _ => rfl) (.inl ⟨rfl, fun w5 q1 => ?_⟩) ?_
        · go_simp
        simp only [Act.put, List.setIfInBounds_toArray, List.set]
        refine wpGI_take (i := 7) (v := .int .i64 k) rfl rfl (fun L hc h => (hc.waits (n := 8) (i := 7) (by kernel_rfl) h)) (by kernel_rfl) (fun _ _ _ h => h) hA (fun _ => rfl) (.inl ⟨rfl, fun w5 q1 => ?_⟩) ?_
        · go_simp
        simp only [Act.put, List.setIfInBounds_toArray, List.set]
        refine wpGI_doIf (i := 8) rfl (by kernel_rfl) rfl (fun K hK => ?_)
        have HKK := Lib.hid hK
        clear hK
        have hy := HYY.out
        gi_step
        refine HRR.out.mono ?_
        rintro e w8 (⟨rfl, hJ8, hu8⟩ | ⟨rfl, hx8⟩)
        · have HG8 := Lib.hid (HGB.out _ _ (HG0.out _ _ HGW.out (Upd.refl _ _).drew) hu8)
          have HJ8 := Lib.hid hJ8
          clear hJ8 hu8 hy HRR
          simp only []
          refine HKK.out _ _ ⟨fun h => by simp at h, ?_⟩
          simp only [Act.put, List.setIfInBounds_toArray, List.set]
          refine wpGI_doIf (i := 9) rfl (by kernel_rfl) rfl (fun K hK => ?_)
          gi_step
          refine hK _ _ ⟨fun h => by simp at h, ?_⟩
          simp only [Act.put, List.setIfInBounds_toArray, List.set]
          refine wpGI_doIf (i := 10) rfl (by kernel_rfl) rfl (fun K hK => ?_)
          gi_step
          refine hK _ _ ⟨fun h => by simp at h, ?_⟩
          simp only [Act.put, List.setIfInBounds_toArray, List.set]
          refine wpGI_done rfl ?_
          go_wp2
          refine ⟨⟨k + 1, by omega, by go_num, HG8, by rw [HPS.out]; exact HJ8⟩, by simp [intOf]; omega⟩
        · have HX8 := Lib.hid hx8
          clear hx8 hy HRR
          simp only []
          refine HKK.out _ _ ⟨fun h => by simp at h, ?_⟩
          simp only [Act.put, List.setIfInBounds_toArray, List.set]
          refine wpGI_doIf (i := 9) rfl (by kernel_rfl) rfl (fun K hK => ?_)
          gi_step
          refine hK _ _ ⟨fun h => by simp at h, ?_⟩
          simp only [Act.put, List.setIfInBounds_toArray, List.set]
          refine wpGI_doIf (i := 10) rfl (by kernel_rfl) rfl (fun K hK => ?_)
          gi_step
          refine hK _ _ ⟨fun h => by simp at h, ?_⟩
          simp only [Act.put, List.setIfInBounds_toArray, List.set]
          refine wpGI_done rfl ?_
          go_wp2
          exact noPanic_ret' (bodyPost_ret (results_none rfl _ _ _) rfl (And.intro ⟨_, rfl⟩ (.inr HX8.out)))
      · have HPS := Lib.hid (show ownP idx wd (k + 1) = ownP idx wd k by rw [ownP_snoc, ownG, if_neg (by simpa using he), List.append_nil])
        have hbe : ((k : Int) * wd / 8 == idx) = false := by simpa using he
        have HBE := Lib.hid hbe
        clear he hbe
        go_upto_region 3 with fail
        have hA : Upd0 wr wr.drew := (Upd.refl _ _).drew
        refine wp_region_G 10 (fun W => Upd0 wr W) [false, false, false, false, false, false, false, false, false, false, false] rfl (by kernel_rfl) ?_
        generalize wr.drew = we at hA ⊢
        refine wpG_takeT (i := 0) (v := .int .i64 k) rfl (fun L hc h => (hc.waits (n := 10) (i := 5) (by kernel_rfl) (hc.waits (n := 5) (i := 2) (by kernel_rfl) (hc.waits (n := 2) (i := 0) (by kernel_rfl) h)))) (by kernel_rfl) (fun _ _ _ h => h) hA (.inl ⟨rfl, fun w5 q1 => ?_⟩) ?_
        · go_simp
        simp only [Act.put, List.setIfInBounds_toArray, List.set]
        refine wpG_takeT (i := 1) (v := .int .i64 wd) rfl (fun L hc h => (hc.waits (n := 10) (i := 5) (by kernel_rfl) (hc.waits (n := 5) (i := 2) (by kernel_rfl) (hc.waits (n := 2) (i := 1) (by kernel_rfl) h)))) (by kernel_rfl) (fun _ _ _ h => h) hA (.inl ⟨rfl, fun w5 q1 => ?_⟩) ?_
        · have c0 := cells1_of ((q1.block _ (lt_of_heap HW0.out) (fun e => e)).trans HW0.out)
          go_simp
        simp only [Act.put, List.setIfInBounds_toArray, List.set]
        refine wpG_takeT (i := 3) (v := .int .i64 idx) rfl (fun L hc h => (hc.waits (n := 10) (i := 5) (by kernel_rfl) (hc.waits (n := 5) (i := 4) (by kernel_rfl) (hc.waits (n := 4) (i := 3) (by kernel_rfl) h)))) (by kernel_rfl) (fun _ _ _ h => h) hA (.inl ⟨rfl, fun w5 q1 => ?_⟩) ?_
        · have c0 := cells1_of ((q1.block _ (lt_of_heap HX0.out) (fun e => e)).trans HX0.out)
          go_simp
        simp only [Act.put, List.setIfInBounds_toArray, List.set]
        refine wpG_doIf (i := 2) rfl (by kernel_rfl) rfl (fun K hK => ?_)
        have HKK := Lib.hid hK
        clear hK
        go_step
        refine (HOW.out _).mono ?_
        rintro _ w7 ⟨rfl, rfl⟩
        simp only []
        refine HKK.out _ _ hA ?_
        clear HKK
        simp only [Act.put, List.setIfInBounds_toArray, List.set]
        refine wpG_takeT (i := 4) (v := .bool false) rfl (fun L hc h => (hc.waits (n := 10) (i := 5) (by kernel_rfl) (hc.waits (n := 5) (i := 4) (by kernel_rfl) h))) (by kernel_rfl) (fun _ _ _ h => h) hA (.inl ⟨rfl, fun w5 q1 => ?_⟩) ?_
        · have hbe := HBE.out
          go_simp
        simp only [Act.put, List.setIfInBounds_toArray, List.set]
        refine wpG_takeT (i := 5) (v := .bool false) rfl (fun L hc h => (hc.waits (n := 10) (i := 5) (by kernel_rfl) h)) (by kernel_rfl) (fun _ _ _ h => h) hA (.inl ⟨rfl, fun w5 q1 => ?_⟩) ?_
        · go_simp
        simp only [Act.put, List.setIfInBounds_toArray, List.set]
        refine wpG_takeT (i := 6) (v := undef) rfl (fun L hc h => (hc.waits (n := 10) (i := 9) (by kernel_rfl) (hc.waits (n := 9) (i := 8) (by kernel_rfl) (hc.waits (n := 8) (i := 6) (by kernel_rfl) h)))) (by kernel_rfl) (fun _ _ _ h => h) hA (.inr ⟨rfl, rfl⟩) ?_
        simp only [Act.put, List.setIfInBounds_toArray, List.set]
        refine wpG_takeT (i := 7) (v := undef) rfl (fun L hc h => (hc.waits (n := 10) (i := 9) (by kernel_rfl) (hc.waits (n := 9) (i := 8) (by kernel_rfl) (hc.waits (n := 8) (i := 7) (by kernel_rfl) h)))) (by kernel_rfl) (fun _ _ _ h => h) hA (.inr ⟨rfl, rfl⟩) ?_
        simp only [Act.put, List.setIfInBounds_toArray, List.set]
        refine wpG_takeT (i := 8) (v := undef) rfl (fun L hc h => (hc.waits (n := 10) (i := 9) (by kernel_rfl) (hc.waits (n := 9) (i := 8) (by kernel_rfl) h))) (by kernel_rfl) (fun _ _ _ h => h) hA (.inr ⟨rfl, rfl⟩) ?_
        simp only [Act.put, List.setIfInBounds_toArray, List.set]
        refine wpG_takeT (i := 9) (v := undef) rfl (fun L hc h => (hc.waits (n := 10) (i := 9) (by kernel_rfl) h)) (by kernel_rfl) (fun _ _ _ h => h) hA (.inr ⟨rfl, rfl⟩) ?_
        simp only [Act.put, List.setIfInBounds_toArray, List.set]
        refine wpG_tail_lit (k := 10) rfl rfl (by kernel_rfl) ?_
        simp only [List.drop]
        have HG9 := Lib.hid (HG0.out _ _ HGW.out hA)
        have HJ9 := Lib.hid (HJ.out _ _ _ (HG.out _ HGW.out).2.2 HJW.out hA)
        clear hA
        go_wp2
        go_roundw
        case rel => exact ⟨k + 1, by omega, by go_num, HG9, by rw [HPS.out]; exact HJ9⟩
        case measure => simp [intOf]; omega
    · obtain rfl : k = 8 := by omega
      go_wp2
      exact noPanic_end' (bodyPost_end (results_none rfl _ _ _) rfl (And.intro ⟨_, rfl⟩ (.inl ⟨_, rfl, HJW.out⟩)))
theorem owned_any (idx wd : Int) (w : World) : Calls Tryz.prog 301 #[.int .i64 idx, .int .i64 wd] w fun e w' => e = .returned (.func (.func 346) #[] #[.pointer (some ⟨w.heap.size + 1, 0, none⟩), .pointer (some ⟨w.heap.size, 0, none⟩)]) ∧ w' = (w.alloc (.cells #[.int .i64 idx] 3)).alloc (.cells #[.int .i64 wd] 3) := by
  go_enter Tryz.func301, Tryz.ntmps301
  go_wp2
  go_ret
  exact ⟨by simp, rfl⟩
end Go.Proofs.YtbonfdkgkcbkmaaGreat
end

section
namespace Go.Proofs.YtbonfdkgkcbkmaaGreat
set_option maxRecDepth 100000
open Go.RowKit Go.Shelf

attribute [local go_sem] Oper.semAt_some
theorem callOwned1 : ∀ args w, (callFunc 346 args).run Tryz.prog w = .ok (.enter 346 args) w := enters_of Tryz.func346 (by kernel_rfl) rfl
set_option maxHeartbeats 1000000 in
theorem collect_any {idx wd : Int} {wb xb : Nat} (hw : 1 ≤ wd ∧ wd ≤ 3) (w : World) (hwb : w.heap[wb]? = some (.cells #[.int .i64 wd] 3 (0, 0))) (hxb : w.heap[xb]? = some (.cells #[.int .i64 idx] 3 (0, 0))) :
    Calls Tryz.prog 300 #[.func (.func 346) #[] #[.pointer (some ⟨wb, 0, none⟩), .pointer (some ⟨xb, 0, none⟩)]] w fun e w' => ∃ a c, e = .returned (.slice a (ownL idx wd).length c) ∧ OwnI w' w.heap.size 3 (.slice a (ownL idx wd).length c) (ownL idx wd) ∧ Upd0 w w' := by
  have HA := Lib.hid (appendseq_any (gf := 346) (lb := #[.pointer (some ⟨wb, 0, none⟩), .pointer (some ⟨xb, 0, none⟩)]) w (fun _ _ => False) (fun xs _ => xs = ownL idx wd) callOwned1 (fun _ _ p => p.elim) (fun _ _ _ _ _ e _ _ _ => e)
    (fun l J Jx W h0 hu hlt hJ hJx hY => by
      refine (owned1_any (idx := idx) (wd := wd) (wb := wb) (xb := xb) (B := w.heap.size + 1) (Φb := coIB w) hw (fun W => W.heap[wb]? = some (.cells #[.int .i64 wd] 3 (0, 0)) ∧ W.heap[xb]? = some (.cells #[.int .i64 idx] 3 (0, 0)) ∧ w.heap.size + 1 ≤ W.heap.size) (fun W h => h)
        (fun W W' h hu' => ⟨(hu'.block _ (lt_of_heap h.1) (fun e => e)).trans h.1, (hu'.block _ (lt_of_heap h.2.1) (fun e => e)).trans h.2.1, Nat.le_trans h.2.2 hu'.size⟩)
        (fun W W' h hu' => ⟨hu'.keep h.1 (fun cs t fr e p => by have := lt_of_heap hwb; rcases p with ⟨p, _⟩ | ⟨p, _⟩ <;> omega), hu'.keep h.2.1 (fun cs t fr e p => by have := lt_of_heap hxb; rcases p with ⟨p, _⟩ | ⟨p, _⟩ <;> omega), Nat.le_trans h.2.2 hu'.size⟩)
        l J Jx W ⟨(hu.block _ (lt_of_heap hwb) (fun e => e)).trans hwb, (hu.block _ (lt_of_heap hxb) (fun e => e)).trans hxb, hlt⟩ h0 (fun pre W W' hs hj hu' => hJ pre W W' hs hj (UpdT.of0 hu'))
        (fun pre x W1 hg hj hp => hY pre x W1 hg.2.2 hj (by
          obtain ⟨rest, hr⟩ := hp
          have h1 := congrArg List.length hr
          have h2 := ownP_len idx wd 8
          simp only [ownL, List.length_append, List.length_cons, List.length_nil] at h1
          omega)))))
  clear hwb hxb
  go_enter Tryz.func300, Tryz.ntmps300
  go_wp2_with (go_at_call 345; fail)
  (with_reducible refine HA.out.mono ?_)
  rintro _ w2 ⟨xs, a, c, rfl, ho, rfl, hu⟩
  have HO := Lib.hid ho
  have HU := Lib.hid (show Upd0 w w2 from hu.mono (fun k hk ⟨_, _, _, _, p⟩ => p))
  clear ho hu HA
  simp only []
  go_wp2
  go_ret
  exact ⟨a, c, rfl, HO.out, HU.out⟩
/-- What Owned answers. -/
def OwnedR (idx wd : Int) : List Int × Int := if shareB idx wd then (ownL idx wd, 0) else ([], 2)
theorem shareB_wide {idx wd : Int} (h : shareB idx wd = true) : 1 ≤ wd ∧ wd ≤ 3 ∧ 0 ≤ idx ∧ idx < wd := by
  simp only [shareB, widthB, Bool.and_eq_true, decide_eq_true_eq] at h
  omega
set_option maxHeartbeats 1000000 in
theorem bigowned_any (idx wd : Int) (w : World) : Calls Tryz.prog 231 #[.int .i64 idx, .int .i64 wd] w fun e w' => ∃ a c, e = .returned (.tuple #[.slice a (OwnedR idx wd).1.length c, .int .i64 (OwnedR idx wd).2]) ∧ OwnI w' w.heap.size 3 (.slice a (OwnedR idx wd).1.length c) (OwnedR idx wd).1 ∧ Upd0 w w' := by
  have HS := Lib.hid (share_any idx wd w)
  have HR := Lib.hid (show OwnedR idx wd = if shareB idx wd then (ownL idx wd, 0) else ([], 2) from rfl)
  have HW := Lib.hid (fun (h : shareB idx wd = true) => shareB_wide h)
  obtain ⟨rr, hrr⟩ : ∃ rr, rr = OwnedR idx wd := ⟨_, rfl⟩
  rw [← hrr] at HR ⊢
  obtain ⟨sh, hsh⟩ : ∃ sh, sh = shareB idx wd := ⟨_, rfl⟩
  rw [← hsh] at HS HR HW
  clear hrr hsh
  go_enter Tryz.func231, Tryz.ntmps231
  go_wp2_with (go_at_call 127; fail)
  (with_reducible refine HS.out.mono ?_)
  rintro _ w1 ⟨rfl, rfl⟩
  simp only []
  cases sh
  · rw [if_neg (by simp)] at HR
    go_wp2
    go_ret2
    refine ⟨none, 0, by rw [HR.out]; rfl, ?_, Upd.refl _ _⟩
    rw [HR.out]
    exact World.ownsRow_nil _ _ _ _
  · rw [if_pos rfl] at HR
    have hw := HW.out rfl
    have HO := Lib.hid (owned_any idx wd w)
    go_wp2_with (go_at_call 301; fail)
    (with_reducible refine HO.out.mono ?_)
    rintro _ w2 ⟨rfl, hw2⟩
    have hu2 : Upd0 w w2 := by rw [hw2]; exact ((Upd.refl _ w).alloc _).alloc _
    have HC := Lib.hid (collect_any (idx := idx) (wd := wd) (wb := w.heap.size + 1) (xb := w.heap.size) ⟨hw.1, hw.2.1⟩ w2 (by rw [hw2]; exact alloc_at (by simp)) (by rw [hw2]; exact (alloc_lt (by simp)).trans (alloc_at rfl)))
    have HU2 := Lib.hid hu2
    clear hw2 hu2 HO hw
    simp only []
    go_wp2_with (go_at_call 300; fail)
    (with_reducible refine HC.out.mono ?_)
    rintro _ w3 ⟨a, c, rfl, ho, hu⟩
    have HO3 := Lib.hid (ownsRow_low ho HU2.out.size)
    have HU3 := Lib.hid (HU2.out.trans hu)
    clear ho hu HC
    simp only []
    go_wp2
    go_ret2
    refine ⟨a, c, by rw [HR.out]; rfl, ?_, HU3.out⟩
    rw [HR.out]
    exact HO3.out
/-! ### Numbers gone over -/
set_option maxHeartbeats 4000000 in
theorem valuesI_any {sa : Option Addr} {xs : List Int} {sc vb B : Nat} (hl : xs.length ≤ 140737488351232) (G : World → Prop) (hG : ∀ W, G W → IntsIn W sa xs ∧ W.heap[vb]? = some (.cells #[.slice sa xs.length sc] 75 (0, 0)) ∧ B ≤ W.heap.size) (hG0 : ∀ W W', G W → Upd0 W W' → G W') {Φb : Nat → TypeId → Prop} (hGb : ∀ W W', G W → UpdT Φb W W' → G W')
    (l : Nat) (J : List Int → World → Prop) (Jx : World → Prop) (W : World) (hu0 : G W) (h0 : J [] W) (hJ : ∀ pre W W', B ≤ W.heap.size → J pre W → Upd0 W W' → J pre W')
    (hY : ∀ pre x W1, G W1 → J pre W1 → (∃ rest, xs = (pre ++ [x]) ++ rest) → YieldAt Fence.wide 3 Tryz.prog l #[.int .i64 x] W1 fun e W' => (e = .returned (.bool true) ∧ J (pre ++ [x]) W' ∧ UpdT Φb W1 W') ∨ (e = .returned (.bool false) ∧ Jx W')) :
    CallsIn Fence.wide 4 Tryz.prog 348 #[.func (.yield l) #[] #[], .pointer (some ⟨vb, 0, none⟩)] W fun e W' => (∃ v, e = .returned v) ∧ ((∃ ks, ks = xs ∧ J ks W') ∨ Jx W') := by
  have HY := Lib.hid hY; have HJ := Lib.hid hJ; have HG := Lib.hid hG; have HG0 := Lib.hid hG0; have HGB := Lib.hid hGb
  have HU0 := Lib.hid hu0; have HJ0 := Lib.hid h0
  have c0 := cells1_of (hG W hu0).2.1
  clear hY hJ hG hG0 hGb hu0 h0
  refine callsIn_of_wp Tryz.func348 rfl trivial ?_ rfl
  simp only [Tryz.ntmps348, List.size_toArray, List.length_cons, List.length_nil, Nat.reduceAdd, Nat.reduceSub, Array.replicate_succ, Array.replicate_zero, List.push_toArray, List.append_toArray, List.nil_append, List.cons_append]
  refine wpIn_mono ?_ noPanic_of
  refine wpIn_wide.2 ?_
  go_wp2_with (fail)
  clear c0
  go_loopw [7] (fun i wr => ∃ k : Nat, k ≤ xs.length ∧ i = .int .i64 k ∧ Hid (G wr) ∧ Hid (J (xs.take k) wr)) (fun i _ => xs.length - (intOf i).toNat)
  case atStart => exact ⟨0, Nat.zero_le _, rfl, HU0, HJ0⟩
  case round =>
    clear HU0 HJ0
    obtain ⟨k, hk, rfl, HGW, HJW⟩ := hrel
    by_cases hlt : k < xs.length
    · obtain ⟨x, hx⟩ : ∃ x, xs[k]? = some x := ⟨_, List.getElem?_eq_getElem hlt⟩
      obtain ⟨b, o, rfl, c0⟩ := (HG.out _ HGW.out).1.cell hx
      have HTK := Lib.hid (take_cons' hx)
      have hJy := HY.out _ x wr HGW.out HJW.out ⟨xs.drop (k + 1), by rw [← HTK.out, List.take_append_drop]⟩
      obtain ⟨fn, tmps, assign, body, hy, hR⟩ := hJy
      have HRR := Lib.hid hR
      clear hR hx
      go_upto_region 3 with fail
      clear c0
      refine (wpIn_wide (n := 4)).1 ?_
      gi_wp2_with (fail)
      refine HRR.out.mono ?_
      rintro e w8 (⟨rfl, hJ8, hu8⟩ | ⟨rfl, hx8⟩)
      · have HG8 := Lib.hid (HGB.out _ _ HGW.out hu8)
        have HJ8 := Lib.hid hJ8
        clear hJ8 hu8 hy HRR
        simp only []
        gi_wp2
        go_wp2
        go_roundw
        case rel => exact ⟨k + 1, by omega, by go_num, HG8, by rw [HTK.out]; exact HJ8⟩
        case measure => simp [intOf]; omega
      · have HX8 := Lib.hid hx8
        clear hx8 hy HRR
        simp only []
        gi_wp2
        go_wp2
        exact noPanic_ret' (bodyPost_ret (results_none rfl _ _ _) rfl (And.intro ⟨_, rfl⟩ (.inr HX8.out)))
    · obtain rfl : k = xs.length := by omega
      rw [List.take_of_length_le (Nat.le_refl _)] at HJW
      go_wp2
      exact noPanic_end' (bodyPost_end (results_none rfl _ _ _) rfl (And.intro ⟨_, rfl⟩ (.inl ⟨_, rfl, HJW.out⟩)))
theorem values_all (sa : Option Addr) (n sc : Nat) (w : World) : Calls Tryz.prog 303 #[.slice sa n sc] w fun e w' => e = .returned (.func (.func 348) #[] #[.pointer (some ⟨w.heap.size, 0, none⟩)]) ∧ w' = w.alloc (.cells #[.slice sa n sc] 75) := by
  go_enter Tryz.func303, Tryz.ntmps303
  go_wp2
  go_ret
  exact ⟨rfl, rfl⟩
set_option maxHeartbeats 1000000 in
theorem sgroups_any (idx wd : Int) (w : World) : Calls Tryz.prog 234 #[.int .i64 idx, .int .i64 wd] w fun e w' => ∃ vb a c, e = .returned (.func (.func 348) #[] #[.pointer (some ⟨vb, 0, none⟩)]) ∧ w'.heap[vb]? = some (.cells #[.slice a (OwnedR idx wd).1.length c] 75 (0, 0)) ∧ OwnI w' w.heap.size 3 (.slice a (OwnedR idx wd).1.length c) (OwnedR idx wd).1 ∧ w.heap.size ≤ vb ∧ Upd0 w w' := by
  have HO := Lib.hid (bigowned_any idx wd w)
  obtain ⟨rr, hrr⟩ : ∃ rr, rr = OwnedR idx wd := ⟨_, rfl⟩
  rw [← hrr] at HO ⊢
  clear hrr
  go_enter Tryz.func234, Tryz.ntmps234
  go_wp2_with (go_at_call 231; fail)
  (with_reducible refine HO.out.mono ?_)
  rintro _ w1 ⟨a, c, rfl, ho, hu⟩
  have HO1 := Lib.hid ho; have HU1 := Lib.hid hu
  have HV := Lib.hid (values_all a rr.1.length c w1)
  clear ho hu HO
  simp only []
  go_wp2_with (go_at_call 303; fail)
  (with_reducible refine HV.out.mono ?_)
  rintro _ w2 ⟨rfl, hw2⟩
  have HB := Lib.hid (show w2.heap[w1.heap.size]? = some (.cells #[.slice a rr.1.length c] 75 (0, 0)) by rw [hw2]; exact alloc_at rfl)
  have hu2 : Upd0 w1 w2 := by rw [hw2]; exact (Upd.refl _ w1).alloc _
  have HO2 := Lib.hid (ownsRow_any HO1.out hu2 (fun _ _ e => e)); have HU2 := Lib.hid (HU1.out.trans hu2)
  clear hw2 hu2 HV
  simp only []
  go_wp2
  go_ret
  exact ⟨w1.heap.size, a, c, rfl, HB.out, HO2.out, HU1.out.size, HU2.out⟩
end Go.Proofs.YtbonfdkgkcbkmaaGreat
end

