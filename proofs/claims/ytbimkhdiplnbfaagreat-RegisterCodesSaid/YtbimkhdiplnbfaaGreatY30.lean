/- Walks: the law's batch of an op: clipped, in memory of its own. -/
import Derived.Test.YtbimkhdiplnbfaaGreatY3
import Derived.Test.YtbimkhdiplnbfaaGreatY27
set_option linter.unusedVariables false
set_option linter.unusedSimpArgs false

namespace Go.Proofs.YtbimkhdiplnbfaaGreat
set_option maxRecDepth 100000
open Go.RowKit Go.Shelf

theorem flat_put (L : List (SetV × Value × Value)) (i : Nat) (x : SetV) (y : SetV × Value × Value) (v u : Value) (hi : L[i]? = some y) (hw : x.was = y.1.was) (his : x.is = y.1.is) :
    (((L.flatMap elC).set (i * 5) (.string x.name)).set (i * 5 + 3) v).set (i * 5 + 4) u = (L.set i (x, v, u)).flatMap elC := by
  have hil := (List.getElem?_eq_some_iff.1 hi).1
  apply List.ext_getElem?
  intro p
  by_cases hp : p < 5 * L.length
  · obtain ⟨j, t, ht, hj, rfl⟩ : ∃ j t, t < 5 ∧ j < L.length ∧ p = j * 5 + t := ⟨p / 5, p % 5, by omega, by omega, by omega⟩
    by_cases hji : j = i
    · subst hji
      rw [flat_at (L.set j (x, v, u)) j t (x, v, u) (by simp [hil]) ht]
      have h2 := flat_at L j t y hi ht
      have hlen : j * 5 + 4 < (L.flatMap elC).length := by rw [flat_length]; omega
      match t, ht with
      | 0, _ => rw [List.getElem?_set_ne (by omega), List.getElem?_set_ne (by omega), Nat.add_zero, List.getElem?_set_self (by omega)]; rfl
      | 1, _ => rw [List.getElem?_set_ne (by omega), List.getElem?_set_ne (by omega), List.getElem?_set_ne (by omega), h2]; simp [elC, hw]
      | 2, _ => rw [List.getElem?_set_ne (by omega), List.getElem?_set_ne (by omega), List.getElem?_set_ne (by omega), h2]; simp [elC, his]
      | 3, _ => rw [List.getElem?_set_ne (by omega), List.getElem?_set_self (by simp only [List.length_set]; omega)]; rfl
      | 4, _ => rw [List.getElem?_set_self (by simp only [List.length_set]; omega)]; rfl
    · rw [List.getElem?_set_ne (by omega), List.getElem?_set_ne (by omega), List.getElem?_set_ne (by omega)]
      rw [flat_at L j t L[j] (List.getElem?_eq_getElem hj) ht, flat_at (L.set i (x, v, u)) j t L[j] (by rw [List.getElem?_set_ne (Ne.symm hji)]; exact List.getElem?_eq_getElem hj) ht]
  · rw [List.getElem?_eq_none (by simp only [List.length_set, flat_length]; omega), List.getElem?_eq_none (by rw [flat_length, List.length_set]; omega)]

theorem SetRow.put {w : World} {g cap B : Nat} {C : Nat → Prop} {l : List SetV} {i : Nat} {x x' : SetV} {v u : Value} (h : SetRow w B C (.slice (some ⟨g, 0, none⟩) l.length cap) l) (hr : RowC w C) (hi : l[i]? = some x) (hw : x'.was = x.was) (his : x'.is = x.is) (hv : BytesAt w C v x'.old) (hu : BytesAt w C u x'.new) (hf : x'.fine) :
    SetRow (((w.setCell ⟨g, i * 5, none⟩ (.string x'.name)).setCell ⟨g, i * 5 + 3, none⟩ v).setCell ⟨g, i * 5 + 4, none⟩ u) B C (.slice (some ⟨g, 0, none⟩) l.length cap) (l.set i x') ∧ Upd (fun k => k = g) w (((w.setCell ⟨g, i * 5, none⟩ (.string x'.name)).setCell ⟨g, i * 5 + 3, none⟩ v).setCell ⟨g, i * 5 + 4, none⟩ u) := by
  have hap : ∀ k, C k → ¬ k = g := fun k hk e => h.apart hr k hk (by rw [e]; rfl)
  have hupd : Upd (fun k => k = g) w (((w.setCell ⟨g, i * 5, none⟩ (.string x'.name)).setCell ⟨g, i * 5 + 3, none⟩ v).setCell ⟨g, i * 5 + 4, none⟩ u) := ((upd_own w g _ _).trans (upd_own _ g _ _)).trans (upd_own _ g _ _)
  obtain ⟨L, rfl, h1, h2, h3⟩ := h
  simp only [List.getElem?_map, Option.map_eq_some_iff] at hi
  obtain ⟨y, hy, rfl⟩ := hi
  refine ⟨⟨L.set i (x', v, u), by rw [List.map_set], ?_, fun z hz => ?_, fun z hz => ?_⟩, hupd⟩
  · have := (((h1.stored (i * 5) (.string x'.name)).1.stored (i * 5 + 3) v).1.stored (i * 5 + 4) u).1
    rw [flat_put L i x' y v u hy hw his] at this
    rw [List.length_set]
    exact this
  · rcases List.mem_or_eq_of_mem_set hz with hz | rfl
    · exact ⟨(h2 z hz).1.kept hupd hap, (h2 z hz).2.kept hupd hap⟩
    · exact ⟨hv.kept hupd hap, hu.kept hupd hap⟩
  · rcases List.mem_or_eq_of_mem_set hz with hz | rfl
    · exact h3 z hz
    · exact hf

theorem BytesAt.head {w : World} {C : Nat → Prop} {v : Value} {bs : List Int} (h : BytesAt w C v bs) {n : Nat} (hn : n ≤ bs.length) :
    ∃ u, (∀ W, (Instr.slice 39 v none (some (.int .i64 n)) none).run Tryz.prog W = .ok u W) ∧ BytesAt w C u (bs.take n) := by
  have hl : (bs.take n).length = n := by simp; omega
  rcases h with ⟨rfl, rfl⟩ | ⟨g, o, c, hg, rfl, h2, h3, h4⟩
  · obtain rfl : n = 0 := by simpa using hn
    refine ⟨.slice none 0 0, fun W => ?_, .inl ⟨rfl, rfl⟩⟩
    have := run_slice_h W 39 none 0 0 elem39 .i64 0 (by omega) (by omega)
    rw [show ((0 : Nat) : Int) = 0 from rfl, this, size39e]
    rfl
  · refine ⟨.slice (some ⟨g, o, none⟩) n c, fun W => ?_, .inr ⟨g, o, c, hg, by rw [hl], by rw [hl]; omega, h3, fun i u hi => ?_⟩⟩
    · rw [run_slice_h W 39 _ bs.length c elem39 .i64 n (by omega) (by omega), size39e]
      simp [Result.andThen, sliced, Addr.add_zero']
    · have hi2 := (List.getElem?_eq_some_iff.1 hi).1
      simp only [bcells, List.length_map, hl] at hi2
      refine h4 i u ?_
      simp only [bcells, List.getElem?_map, List.getElem?_take_of_lt hi2] at hi ⊢
      exact hi

/-- An op that is a batch alone. -/
def opV (B : BatchV) (a : Option Addr) (c : Nat) : Value := .agg #[.int .i64 0, .int .i64 0, .int .u64 B.epoch, .bool B.large, .slice a B.sets.length c, .slice none 0 0, .slice none 0 0]

/-- A set, clipped. -/
def clipV (x : SetV) : SetV := ⟨x.name.extract 0 (min x.name.size 40), x.was, x.is, x.old.take 3001, x.new.take 3001⟩
/-- A batch, clipped. -/
def clipB (B : BatchV) : BatchV := ⟨B.epoch, B.large, (B.sets.take 49).map clipV⟩

/-- What holds between the rounds of the clipping. -/
structure BtAt (w : World) (base : Nat) (ev : Int) (lg : Bool) (opc : Array Value) (C : Nat → Prop) (la : Option Addr) (lc : Nat) (l : List SetV) (W : World) : Prop where
  out : W.heap[w.heap.size + 3]? = some (.cells #[.int .u64 ev, .bool lg, .slice la l.length lc] 56 (0, 0))
  res : W.heap[w.heap.size + 2]? = some (.cells #[.int .u64 0, .bool false, .slice none 0 0] 56 (0, 0))
  op : W.heap[w.heap.size]? = some (.cells opc 58 (0, 0))
  row : SetRow W base C (.slice la l.length lc) l
  rows : RowC W C
  upd : Upd (fun _ => False) w W

set_option maxHeartbeats 8000000 in
theorem batch_any {c : Nat} {a : Option Addr} {B : BatchV} (w : World) (hs : SetsIn w a B.sets) (hb : ∀ x ∈ B.sets, Bytes x.old ∧ Bytes x.new) (hl : B.sets.length ≤ c) (hc : c ≤ maxLen) :
    Calls Tryz.prog 19 #[opV B a c, .agg #[.int .u64 0, .slice none 0 0]] w (CopyAns w (clipB B)) := by
  have HS := Lib.hid hs; have HBB := Lib.hid hb
  clear hs hb
  obtain ⟨n, hn⟩ : ∃ n, n = B.sets.length := ⟨_, rfl⟩
  unfold opV
  rw [← hn] at hl ⊢
  have HN := Lib.hid hn
  clear hn
  obtain ⟨w1, hw1⟩ : ∃ w1, w1 = ((w.alloc (.cells #[.int .i64 0, .int .i64 0, .int .u64 B.epoch, .bool B.large, .slice a n c, .slice none 0 0, .slice none 0 0] 58)).alloc (.cells #[.int .u64 0, .slice none 0 0] 62)).alloc (.cells #[.int .u64 0, .bool false, .slice none 0 0] 56) := ⟨_, rfl⟩
  have hu1 : Upd (fun _ => False) w w1 := by rw [hw1]; exact (((Upd.refl _ w).alloc _).alloc _).alloc _
  have ho1 : w1.heap[w.heap.size]? = some (.cells #[.int .i64 0, .int .i64 0, .int .u64 B.epoch, .bool B.large, .slice a n c, .slice none 0 0, .slice none 0 0] 58 (0, 0)) := by rw [hw1, alloc_lt (by simp; omega), alloc_lt (by simp)]; exact alloc_at rfl
  have hr1 : w1.heap[w.heap.size + 2]? = some (.cells #[.int .u64 0, .bool false, .slice none 0 0] 56 (0, 0)) := by rw [hw1]; exact alloc_at (by simp)
  have hz1 : w1.heap.size = w.heap.size + 3 := by rw [hw1]; simp
  have HW1 := Lib.hid hw1; have HU1 := Lib.hid hu1; have HO1 := Lib.hid ho1; have HR1 := Lib.hid hr1; have HZ1 := Lib.hid hz1
  clear hw1 hu1 ho1 hr1 hz1
  go_enter Tryz.func19, Tryz.ntmps19
  go_upto_region 1 with fail
  rw [← HW1.out, show w.heap.size + 1 + 1 = w.heap.size + 2 from rfl]
  have cc : ∀ j v, #[Value.int .i64 0, .int .i64 0, .int .u64 B.epoch, .bool B.large, .slice a n c, .slice none 0 0, .slice none 0 0][j]? = some v → w1.cell? ⟨w.heap.size, j, none⟩ = some v := fun j v h => by
    rw [cell_of_heap HO1.out]; exact h
  have c2 := cc 2 _ rfl; have c3 := cc 3 _ rfl; have c4 := cc 4 _ rfl
  have CS := Lib.hid (cc 5 _ rfl)
  clear cc
  go_upto_region 2 with fail
  rw [HZ1.out]
  obtain ⟨w2, hw2⟩ : ∃ w2, w2 = w1.alloc (.cells #[.int .u64 B.epoch, .bool B.large, .slice a n c] 56) := ⟨_, rfl⟩
  rw [← hw2]
  have hu2 : Upd (fun _ => False) w1 w2 := by rw [hw2]; exact (Upd.refl _ w1).alloc _
  have hb2 : w2.heap[w.heap.size + 3]? = some (.cells #[.int .u64 B.epoch, .bool B.large, .slice a n c] 56 (0, 0)) := by rw [hw2]; exact alloc_at HZ1.out.symm
  have fr2 : w2.frozen? ⟨w.heap.size + 3, 2, none⟩ = false := frozen_of_heap hb2
  obtain ⟨y0, y1, y2⟩ := cells3_of hb2
  obtain ⟨m, hm⟩ : ∃ m, m = (B.sets.take 49).length := ⟨_, rfl⟩
  have hmm : m = min n 49 := by rw [hm, HN.out]; simp [Nat.min_comm]
  have hmn : min (n : Int) 49 = (m : Int) := by omega
  have hmle : m ≤ n := by omega
  have hslice : ∃ a', (∀ W, (Instr.slice 54 (.slice a n c) none (some (.int .i64 m)) none).run Tryz.prog W = .ok (.slice a' m c) W) ∧ SetsIn w a' (B.sets.take 49) := by
    have hr : ∀ W, (Instr.slice 54 (.slice a n c) none (some (.int .i64 m)) none).run Tryz.prog W = .ok (sliced a 0 m c 5) W := fun W => by
      rw [run_slice_h W 54 a n c elem54 .i64 m (by omega) (by omega), size54e]
      simp [Result.andThen]
    cases a with
    | none => exact ⟨none, fun W => by rw [hr W]; unfold sliced; simp, fun i x hx => by
        obtain ⟨_, _, _, b, o, e, _⟩ := HS.out i x (by rw [List.getElem?_take] at hx; split at hx; exact hx; cases hx)
        cases e⟩
    | some ad =>
      refine ⟨some (if c = 0 then ad else ad.add 0), fun W => by rw [hr W]; unfold sliced; simp; split <;> rfl, fun i x hx => ?_⟩
      have hx' : B.sets[i]? = some x := by rw [List.getElem?_take] at hx; split at hx; exact hx; cases hx
      obtain ⟨g1, g2, g3, b, o, e, r⟩ := HS.out i x hx'
      injection e with e
      subst e
      exact ⟨g1, g2, g3, b, o, by split <;> rfl, r⟩
  obtain ⟨a', hsl, hsin⟩ := hslice
  have HSIN := Lib.hid hsin; have HMM := Lib.hid hmm; have HM := Lib.hid hm
  have HU2 := Lib.hid (HU1.out.trans hu2); have HB2 := Lib.hid hb2
  have HR2 := Lib.hid ((hu2.block _ (lt_of_heap HR1.out) (fun e => e)).trans HR1.out)
  have HO2 := Lib.hid ((hu2.block _ (lt_of_heap HO1.out) (fun e => e)).trans HO1.out)
  clear hw2 hu2 hb2 hm hmm hsin c2 c3 c4 HW1 HU1 HO1 HR1 HZ1 CS
  go_upto_region 3 with fail
  obtain ⟨w3, hw3⟩ : ∃ w3, w3 = w2.setCell ⟨w.heap.size + 3, 2, none⟩ (.slice a' m c) := ⟨_, rfl⟩
  rw [← hw3]
  have hu3 : Upd (fun k => k = w.heap.size + 3) w2 w3 := by rw [hw3]; exact upd_own w2 _ 2 _
  have hb3 : w3.heap[w.heap.size + 3]? = some (.cells #[.int .u64 B.epoch, .bool B.large, .slice a' m c] 56 (0, 0)) := by
    rw [hw3]
    have := blk_set (i := 2) (v := .slice a' m c) HB2.out
    simpa using this
  obtain ⟨y0, y1, y2⟩ := cells3_of hb3
  obtain ⟨l0, hl0⟩ : ∃ l0, l0 = B.sets.take 49 := ⟨_, rfl⟩
  have HU3 := Lib.hid (HU2.out.step hu3 (fun k hk e => by omega)); have HB3 := Lib.hid hb3
  have HR3 := Lib.hid ((hu3.block _ (lt_of_heap HR2.out) (by omega)).trans HR2.out)
  have HO3 := Lib.hid ((hu3.block _ (lt_of_heap HO2.out) (by omega)).trans HO2.out)
  have HCP : RowKit.Hid (Calls Tryz.prog 20 #[.agg #[.int .u64 B.epoch, .bool B.large, .slice a' m c]] w3 (CopyAns w3 ⟨B.epoch, B.large, l0⟩)) := Lib.hid (by
    rw [HM.out, hl0]
    exact copied_any (B := ⟨B.epoch, B.large, B.sets.take 49⟩) w3 (HSIN.out.kept HU3.out) (fun x hx => HBB.out x (List.mem_of_mem_take hx)) (by simp; omega))
  have HL0 := Lib.hid hl0
  have HM0 : RowKit.Hid (m = l0.length) := Lib.hid (by rw [hl0]; exact HM.out)
  clear hw3 hu3 hb3 hl0 HU2 HB2 HR2 HO2 HSIN hsl HM
  go_wp2_with (go_at_call 20; fail)
  refine HCP.out.mono ?_
  rintro e w4 ⟨la, lc, rfl, ⟨C, hrow, hrc, hc4⟩, hcap, hu4⟩
  obtain ⟨n4, hn4⟩ : ∃ n4, n4 = l0.length := ⟨_, rfl⟩
  unfold batchV
  simp only []
  simp only [] at hrow hcap
  rw [← hn4] at hrow hcap ⊢
  have HN4 := Lib.hid hn4
  have HB4 := Lib.hid ((hu4.block _ (lt_of_heap HB3.out) (fun e => e)).trans HB3.out)
  have HR4 := Lib.hid ((hu4.block _ (lt_of_heap HR3.out) (fun e => e)).trans HR3.out)
  have HO4 := Lib.hid ((hu4.block _ (lt_of_heap HO3.out) (fun e => e)).trans HO3.out)
  have HU4 := Lib.hid (HU3.out.trans hu4)
  have HSZ := Lib.hid (lt_of_heap HB3.out)
  have HROW := Lib.hid hrow; have HRC := Lib.hid hrc; have HC4 := Lib.hid hc4; have HCAP := Lib.hid hcap
  clear hn4 hrow hrc hc4 hcap hu4 HCP HB3 HR3 HO3 HU3 y0 y1 y2
  go_step
  refine wpList_store_mid rfl 56 (.tmp 5) (.tmp 21) rfl (w.heap.size + 3) 0 #[.int .u64 B.epoch, .bool B.large, .slice la n4 lc] rfl rfl (by have q := there_block HB4.out; exact q) size56 (by simp [Value.oneCell']) ?_
  have hb5 := heap_setCells_whole (vs := [.int .u64 B.epoch, .bool B.large, .slice la n4 lc]) HB4.out rfl
  have hu5 := Upd.setCells (F := fun k => k = w.heap.size + 3) (b := w.heap.size + 3) rfl [.int .u64 B.epoch, .bool B.large, .slice la n4 lc] 0 (Upd.refl _ w4)
  obtain ⟨w5, hw5⟩ : ∃ w5, w5 = w4.setCells (w.heap.size + 3) 0 [.int .u64 B.epoch, .bool B.large, .slice la n4 lc] := ⟨_, rfl⟩
  rw [← hw5] at hb5 hu5
  rw [show #[Value.int .u64 B.epoch, .bool B.large, .slice la n4 lc].toList = [.int .u64 B.epoch, .bool B.large, .slice la n4 lc] from rfl, ← hw5]
  obtain ⟨opc, hopc⟩ : ∃ opc, opc = #[Value.int .i64 0, .int .i64 0, .int .u64 B.epoch, .bool B.large, .slice a n c, .slice none 0 0, .slice none 0 0] := ⟨_, rfl⟩
  obtain ⟨base, hbase⟩ : ∃ base, base = w3.heap.size := ⟨_, rfl⟩
  have hd : BtAt w base B.epoch B.large opc C la lc l0 w5 := by
    have e5 : #[Value.int .u64 B.epoch, .bool B.large, .slice la n4 lc] = #[Value.int .u64 B.epoch, .bool B.large, .slice la l0.length lc] := by rw [HN4.out]
    refine ⟨by rw [← HN4.out]; exact hb5, (hu5.block _ (lt_of_heap HR4.out) (by omega)).trans HR4.out, by rw [hopc]; exact (hu5.block _ (lt_of_heap HO4.out) (by omega)).trans HO4.out, ?_, HRC.out.kept hu5 (fun k hk e => by have := HC4.out k hk; have := HSZ.out; omega), HU4.out.step hu5 (fun k hk e => by omega)⟩
    rw [← HN4.out, hbase]
    refine HROW.out.kept hu5 (fun k hk e => ?_) (fun k hk e => by have := HC4.out k hk; have := HSZ.out; omega)
    obtain ⟨L, _, q, _⟩ := HROW.out
    have := (q.lt k hk).1
    have := HSZ.out
    omega
  have HD := Lib.hid hd
  have HBS : RowKit.Hid (w.heap.size + 3 < base) := Lib.hid (by rw [hbase]; exact HSZ.out)
  have HC5 : RowKit.Hid (∀ k, C k → base ≤ k) := Lib.hid (by rw [hbase]; exact HC4.out)
  have HOPC := Lib.hid hopc
  have HBB0 : RowKit.Hid (∀ x ∈ l0, x.name.size ≤ 140737488351232) := Lib.hid (fun x hx => by
    obtain ⟨L, _, _, _, q⟩ := HROW.out
    exact (q x hx).1)
  obtain ⟨y0, y1, y2⟩ := cells3_of hb5
  clear hb5 hu5 hw5 hopc hbase hd HB4 HR4 HO4 HU4 HSZ HROW HRC HC4 HBB
  go_upto_region 5 with fail
  have hnle : n4 ≤ 49 := by rw [HN4.out, HL0.out]; simp; omega
  go_loopg [25] n4 (fun gk i wr => ∃ k : Nat, k ≤ n4 ∧ gk = n4 - k ∧ i = .int .i64 k ∧ BtAt w base B.epoch B.large opc C la lc ((l0.take k).map clipV ++ l0.drop k) wr)
  case atStart => exact ⟨0, Nat.zero_le _, rfl, rfl, by simpa using HD.out⟩
  case round =>
    obtain ⟨k, hk, rfl, rfl, hd⟩ := hrel
    have HD := Lib.hid hd
    clear hd
    have hlen : ((l0.take k).map clipV ++ l0.drop k).length = n4 := by simp only [List.length_append, List.length_map, List.length_take, List.length_drop, HN4.out]; have := HN4.out; omega
    by_cases hkn : k < n4
    · have hkni : (k : Int) < n4 := by omega
      have hkl : k < l0.length := by have := HN4.out; omega
      have hx : ((l0.take k).map clipV ++ l0.drop k)[k]? = some l0[k] := by
        have e1 : ((l0.take k).map clipV).length = k := by simp; omega
        rw [List.getElem?_append_right (by omega), e1, Nat.sub_self]
        simp [hkl]
      obtain ⟨x, hxx⟩ : ∃ x, x = l0[k] := ⟨_, rfl⟩
      rw [← hxx] at hx
      have hset : ((l0.take k).map clipV ++ l0.drop k).set k (clipV x) = (l0.take (k + 1)).map clipV ++ l0.drop (k + 1) := by
        have e1 : ((l0.take k).map clipV).length = k := by simp; omega
        rw [List.set_append_right _ _ (by omega), e1, Nat.sub_self, List.take_succ_eq_append_getElem hkl, List.map_append, List.drop_eq_getElem_cons hkl, hxx]
        simp only [List.set_cons_zero, List.append_assoc, List.map_cons, List.map_nil, List.cons_append, List.nil_append]
      have HSET := Lib.hid hset; have HX := Lib.hid hx
      obtain ⟨lk, hlk⟩ : ∃ lk, lk = (l0.take k).map clipV ++ l0.drop k := ⟨_, rfl⟩
      rw [← hlk] at HD hlen HSET HX
      have hxin := List.mem_of_getElem? HX.out
      obtain ⟨L, hLm, hLo, hLb, hLf⟩ := HD.out.row
      have hfx := hLf x hxin
      have hx' := HX.out
      rw [← hLm] at hx'
      simp only [List.getElem?_map, Option.map_eq_some_iff] at hx'
      obtain ⟨y, hy, hyx⟩ := hx'
      obtain ⟨b1, b2⟩ := hLb y (List.mem_of_getElem? hy)
      obtain ⟨g, hg⟩ : ∃ g, la = some ⟨g, 0, none⟩ := by
        rcases hLo.2 with ⟨_, e⟩ | ⟨g, cap, cur, e, _⟩
        · omega
        · injection e with e; exact ⟨g, e⟩
      subst hg
      have hcell : ∀ j, j < 5 → wr.cell? ⟨g, k * 5 + j, none⟩ = (elC y)[j]? := fun j hj => by
        have := World.ownsRow.cells hLo rfl (k * 5 + j) ((elC y)[j]'(by rw [elC_length]; exact hj)) (by rw [flat_at L k j y hy hj, List.getElem?_eq_getElem])
        rw [Addr.add_mid, Nat.zero_add] at this
        rw [this, List.getElem?_eq_getElem]
      obtain ⟨oa, oc, eo, ho1, ho2⟩ := b1.slice
      obtain ⟨na, nc, en, hn1, hn2⟩ := b2.slice
      obtain ⟨m0, hm0⟩ : ∃ m0, m0 = min x.name.size 40 := ⟨_, rfl⟩
      obtain ⟨m1, hm1⟩ : ∃ m1, m1 = min x.old.length 3001 := ⟨_, rfl⟩
      obtain ⟨m2, hm2⟩ : ∃ m2, m2 = min x.new.length 3001 := ⟨_, rfl⟩
      obtain ⟨u1, hs1, hu1⟩ := b1.head (n := m1) (by rw [hyx]; omega)
      obtain ⟨u2, hs2, hu2⟩ := b2.head (n := m2) (by rw [hyx]; omega)
      obtain ⟨ua, uc, eu, _, _⟩ := hu1.slice
      obtain ⟨va, vc, ev, _, _⟩ := hu2.slice
      have hl1 : (y.1.old.take m1).length = m1 := by simp only [List.length_take, hyx]; omega
      have hl2 : (y.1.new.take m2).length = m2 := by simp only [List.length_take, hyx]; omega
      rw [hl1] at eu; rw [hl2] at ev
      have q0 := hcell 0 (by omega); have q3 := hcell 3 (by omega); have q4 := hcell 4 (by omega)
      rw [hyx] at hu1 hu2 eo en
      subst eu ev
      rw [eo] at hs1; rw [en] at hs2
      simp only [elC, hyx, eo, en] at q0 q3 q4
      have hmn0 : min (x.name.size : Int) 40 = (m0 : Int) := by omega
      have hmn1 : min (x.old.length : Int) 3001 = (m1 : Int) := by omega
      have hmn2 : min (x.new.length : Int) 3001 = (m2 : Int) := by omega
      have hm0le : (m0 : Int) ≤ x.name.size := by omega
      have fr0 : ∀ j, wr.frozen? ⟨g, j, none⟩ = false := fun j => World.ownsRow.frozenAt hLo j
      have f0 := fr0 (k * 5); have f3 := fr0 (k * 5 + 3); have f4 := fr0 (k * 5 + 4)
      have hA : wr.drew.cell? ⟨g, k * 5, none⟩ = some (.string x.name) ∧ wr.drew.cell? ⟨g, k * 5 + 3, none⟩ = some (.slice oa x.old.length oc) ∧ wr.drew.cell? ⟨g, k * 5 + 4, none⟩ = some (.slice na x.new.length nc) := ⟨by simpa using q0, by simpa using q3, by simpa using q4⟩
      have hxx' : x = l0[k] := hxx
      have HU1 := Lib.hid hu1; have HU2 := Lib.hid hu2; have HFX := Lib.hid hfx
      have HM0' := Lib.hid hm0; have HM1' := Lib.hid hm1; have HM2' := Lib.hid hm2; have HCE := Lib.hid hlk
      have y2 := (cells3_of HD.out.out).2.2
      rw [hlen] at y2
      have HFR := Lib.hid fr0
      clear hLm hLo hLb hLf hfx hy hyx b1 b2 hcell eo en ho1 ho2 hn1 hn2 hu1 hu2 hm0 hm1 hm2 hxx hxx' hlk hset hx hxin hl1 hl2 q0 q3 q4 f0 f3 f4 fr0
      go_upto_region 8 with fail
      have hud : Upd (fun _ => False) wr wr.drew := (Upd.refl _ wr).drew
      have HUD := Lib.hid hud
      have HROWL : RowKit.Hid (SetRow wr.drew base C (.slice (some ⟨g, 0, none⟩) lk.length lc) lk) := Lib.hid (HD.out.row.kept hud (fun _ _ e => e) (fun _ _ e => e))
      have HRCD := Lib.hid (HD.out.rows.kept hud (fun _ _ e => e))
      have HU1 := Lib.hid (HU1.out.kept hud (fun _ _ e => e)); have HU2 := Lib.hid (HU2.out.kept hud (fun _ _ e => e))
      have HFR : RowKit.Hid (∀ j, wr.drew.frozen? ⟨g, j, none⟩ = false) := Lib.hid (fun j => by
        obtain ⟨_, _, q, _⟩ := HROWL.out
        exact World.ownsRow.frozenAt q j)
      clear hud
      refine wp_region_G 38 (fun W => W.cell? ⟨g, k * 5, none⟩ = some (.string x.name) ∧ W.cell? ⟨g, k * 5 + 3, none⟩ = some (.slice oa x.old.length oc) ∧ W.cell? ⟨g, k * 5 + 4, none⟩ = some (.slice na x.new.length nc)) [false, false, false, false, false, false, false, false, false, false, false, false, false, false, false, false, false, false, false, false, false, false, false, false, false, false, false, false, false, false, false, false, false, false, false, false, false, false, false, false, false, false, false, false, false] rfl (by kernel_rfl) ?_
      generalize wr.drew = wd at hA HROWL HRCD HU1 HU2 HFR HUD ⊢
      refine wpG_takeT (i := 0) (v := .pointer (some ⟨g, k * 5, none⟩)) rfl (fun L hc h => (hc.waits (n := 38) (i := 0) (by kernel_rfl) h)) (by kernel_rfl) (fun _ _ _ h => h) hA (.inl ⟨rfl, fun w5 q1 => ?_⟩) ?_
      · go_simp
      simp only [Act.put, List.setIfInBounds_toArray, List.set]
      refine wpG_takeP (i := 1) (v := .pointer (some ⟨g, k * 5, none⟩)) rfl (by kernel_rfl) (fun _ _ _ h => h) hA (.inl ⟨rfl, fun w5 q1 => ?_⟩) ?_
      · go_simp
      simp only [Act.put, List.setIfInBounds_toArray, List.set]
      refine wpG_takeP (i := 2) (v := .pointer (some ⟨g, k * 5, none⟩)) rfl (by kernel_rfl) (fun _ _ _ h => h) hA (.inl ⟨rfl, fun w5 q1 => ?_⟩) ?_
      · go_simp
      simp only [Act.put, List.setIfInBounds_toArray, List.set]
      refine wpG_takeT (i := 3) (v := .pointer (some ⟨g, k * 5, none⟩)) rfl (fun L hc h => (hc.waits (n := 38) (i := 3) (by kernel_rfl) h)) (by kernel_rfl) (fun _ _ _ h => h) hA (.inl ⟨rfl, fun w5 q1 => ?_⟩) ?_
      · go_simp
      simp only [Act.put, List.setIfInBounds_toArray, List.set]
      refine wpG_takeT (i := 4) (v := .pointer (some ⟨g, k * 5, none⟩)) rfl (fun L hc h => (hc.waits (n := 38) (i := 4) (by kernel_rfl) h)) (by kernel_rfl) (fun _ _ _ h => h) hA (.inl ⟨rfl, fun w5 q1 => ?_⟩) ?_
      · go_simp
      simp only [Act.put, List.setIfInBounds_toArray, List.set]
      refine wpG_takeT (i := 5) (v := .pointer (some ⟨g, k * 5, none⟩)) rfl (fun L hc h => (hc.waits (n := 38) (i := 5) (by kernel_rfl) h)) (by kernel_rfl) (fun _ _ _ h => h) hA (.inl ⟨rfl, fun w5 q1 => ?_⟩) ?_
      · go_simp
      simp only [Act.put, List.setIfInBounds_toArray, List.set]
      refine wpG_takeT (i := 6) (v := .string x.name) rfl (fun L hc h => (hc.waits (n := 38) (i := 6) (by kernel_rfl) h)) (by kernel_rfl) (fun _ _ _ h => h) hA (.inl ⟨rfl, fun w5 q1 => ?_⟩) ?_
      · obtain ⟨c0, c1, c2⟩ := q1
        go_simp
      simp only [Act.put, List.setIfInBounds_toArray, List.set]
      refine wpG_takeT (i := 7) (v := .pointer (some ⟨g, k * 5, none⟩)) rfl (fun L hc h => (hc.waits (n := 38) (i := 7) (by kernel_rfl) h)) (by kernel_rfl) (fun _ _ _ h => h) hA (.inl ⟨rfl, fun w5 q1 => ?_⟩) ?_
      · go_simp
      simp only [Act.put, List.setIfInBounds_toArray, List.set]
      refine wpG_takeT (i := 8) (v := .pointer (some ⟨g, k * 5, none⟩)) rfl (fun L hc h => (hc.waits (n := 38) (i := 8) (by kernel_rfl) h)) (by kernel_rfl) (fun _ _ _ h => h) hA (.inl ⟨rfl, fun w5 q1 => ?_⟩) ?_
      · go_simp
      simp only [Act.put, List.setIfInBounds_toArray, List.set]
      refine wpG_takeT (i := 9) (v := .pointer (some ⟨g, k * 5, none⟩)) rfl (fun L hc h => (hc.waits (n := 38) (i := 9) (by kernel_rfl) h)) (by kernel_rfl) (fun _ _ _ h => h) hA (.inl ⟨rfl, fun w5 q1 => ?_⟩) ?_
      · go_simp
      simp only [Act.put, List.setIfInBounds_toArray, List.set]
      refine wpG_takeT (i := 10) (v := .string x.name) rfl (fun L hc h => (hc.waits (n := 38) (i := 10) (by kernel_rfl) h)) (by kernel_rfl) (fun _ _ _ h => h) hA (.inl ⟨rfl, fun w5 q1 => ?_⟩) ?_
      · obtain ⟨c0, c1, c2⟩ := q1
        go_simp
      simp only [Act.put, List.setIfInBounds_toArray, List.set]
      refine wpG_takeT (i := 11) (v := .int .i64 x.name.size) rfl (fun L hc h => (hc.waits (n := 38) (i := 11) (by kernel_rfl) h)) (by kernel_rfl) (fun _ _ _ h => h) hA (.inl ⟨rfl, fun w5 q1 => ?_⟩) ?_
      · go_simp
      simp only [Act.put, List.setIfInBounds_toArray, List.set]
      refine wpG_takeT (i := 12) (v := .int .i64 m0) rfl (fun L hc h => (hc.waits (n := 38) (i := 12) (by kernel_rfl) h)) (by kernel_rfl) (fun _ _ _ h => h) hA (.inl ⟨rfl, fun w5 q1 => ?_⟩) ?_
      · go_simp
      simp only [Act.put, List.setIfInBounds_toArray, List.set]
      refine wpG_takeT (i := 13) (v := .string (x.name.extract 0 m0)) rfl (fun L hc h => (hc.waits (n := 38) (i := 13) (by kernel_rfl) h)) (by kernel_rfl) (fun _ _ _ h => h) hA (.inl ⟨rfl, fun w5 q1 => ?_⟩) ?_
      · go_simp
      simp only [Act.put, List.setIfInBounds_toArray, List.set]
      refine wpG_takeT (i := 14) (v := .pointer (some ⟨g, k * 5, none⟩)) rfl (fun L hc h => (hc.waits (n := 38) (i := 17) (by kernel_rfl) (hc.waits (n := 17) (i := 16) (by kernel_rfl) (hc.waits (n := 16) (i := 15) (by kernel_rfl) (hc.waits (n := 15) (i := 14) (by kernel_rfl) h))))) (by kernel_rfl) (fun _ _ _ h => h) hA (.inl ⟨rfl, fun w5 q1 => ?_⟩) ?_
      · go_simp
      simp only [Act.put, List.setIfInBounds_toArray, List.set]
      refine wpG_takeT (i := 15) (v := .pointer (some ⟨g, k * 5, none⟩)) rfl (fun L hc h => (hc.waits (n := 38) (i := 17) (by kernel_rfl) (hc.waits (n := 17) (i := 16) (by kernel_rfl) (hc.waits (n := 16) (i := 15) (by kernel_rfl) h)))) (by kernel_rfl) (fun _ _ _ h => h) hA (.inl ⟨rfl, fun w5 q1 => ?_⟩) ?_
      · go_simp
      simp only [Act.put, List.setIfInBounds_toArray, List.set]
      refine wpG_takeT (i := 16) (v := .pointer (some ⟨g, k * 5 + 3, none⟩)) rfl (fun L hc h => (hc.waits (n := 38) (i := 17) (by kernel_rfl) (hc.waits (n := 17) (i := 16) (by kernel_rfl) h))) (by kernel_rfl) (fun _ _ _ h => h) hA (.inl ⟨rfl, fun w5 q1 => ?_⟩) ?_
      · go_simp
      simp only [Act.put, List.setIfInBounds_toArray, List.set]
      refine wpG_takeT (i := 17) (v := .slice oa x.old.length oc) rfl (fun L hc h => (hc.waits (n := 38) (i := 17) (by kernel_rfl) h)) (by kernel_rfl) (fun _ _ _ h => h) hA (.inl ⟨rfl, fun w5 q1 => ?_⟩) ?_
      · obtain ⟨c0, c1, c2⟩ := q1
        go_simp
      simp only [Act.put, List.setIfInBounds_toArray, List.set]
      refine wpG_takeT (i := 18) (v := .pointer (some ⟨g, k * 5, none⟩)) rfl (fun L hc h => (hc.waits (n := 38) (i := 21) (by kernel_rfl) (hc.waits (n := 21) (i := 20) (by kernel_rfl) (hc.waits (n := 20) (i := 19) (by kernel_rfl) (hc.waits (n := 19) (i := 18) (by kernel_rfl) h))))) (by kernel_rfl) (fun _ _ _ h => h) hA (.inl ⟨rfl, fun w5 q1 => ?_⟩) ?_
      · go_simp
      simp only [Act.put, List.setIfInBounds_toArray, List.set]
      refine wpG_takeT (i := 19) (v := .pointer (some ⟨g, k * 5, none⟩)) rfl (fun L hc h => (hc.waits (n := 38) (i := 21) (by kernel_rfl) (hc.waits (n := 21) (i := 20) (by kernel_rfl) (hc.waits (n := 20) (i := 19) (by kernel_rfl) h)))) (by kernel_rfl) (fun _ _ _ h => h) hA (.inl ⟨rfl, fun w5 q1 => ?_⟩) ?_
      · go_simp
      simp only [Act.put, List.setIfInBounds_toArray, List.set]
      refine wpG_takeT (i := 20) (v := .pointer (some ⟨g, k * 5 + 3, none⟩)) rfl (fun L hc h => (hc.waits (n := 38) (i := 21) (by kernel_rfl) (hc.waits (n := 21) (i := 20) (by kernel_rfl) h))) (by kernel_rfl) (fun _ _ _ h => h) hA (.inl ⟨rfl, fun w5 q1 => ?_⟩) ?_
      · go_simp
      simp only [Act.put, List.setIfInBounds_toArray, List.set]
      refine wpG_takeT (i := 21) (v := .slice oa x.old.length oc) rfl (fun L hc h => (hc.waits (n := 38) (i := 21) (by kernel_rfl) h)) (by kernel_rfl) (fun _ _ _ h => h) hA (.inl ⟨rfl, fun w5 q1 => ?_⟩) ?_
      · obtain ⟨c0, c1, c2⟩ := q1
        go_simp
      simp only [Act.put, List.setIfInBounds_toArray, List.set]
      refine wpG_takeP (i := 22) (v := .int .i64 x.old.length) rfl (by kernel_rfl) (fun _ _ _ h => h) hA (.inl ⟨rfl, fun w5 q1 => ?_⟩) ?_
      · go_simp
      simp only [Act.put, List.setIfInBounds_toArray, List.set]
      refine wpG_takeP (i := 23) (v := .int .i64 m1) rfl (by kernel_rfl) (fun _ _ _ h => h) hA (.inl ⟨rfl, fun w5 q1 => ?_⟩) ?_
      · go_simp
      simp only [Act.put, List.setIfInBounds_toArray, List.set]
      refine wpG_takeP (i := 24) (v := .slice ua m1 uc) rfl (by kernel_rfl) (fun _ _ _ h => h) hA (.inl ⟨rfl, fun w5 q1 => ?_⟩) ?_
      · go_simp
      simp only [Act.put, List.setIfInBounds_toArray, List.set]
      refine wpG_takeT (i := 25) (v := .pointer (some ⟨g, k * 5, none⟩)) rfl (fun L hc h => (hc.waits (n := 38) (i := 28) (by kernel_rfl) (hc.waits (n := 28) (i := 27) (by kernel_rfl) (hc.waits (n := 27) (i := 26) (by kernel_rfl) (hc.waits (n := 26) (i := 25) (by kernel_rfl) h))))) (by kernel_rfl) (fun _ _ _ h => h) hA (.inl ⟨rfl, fun w5 q1 => ?_⟩) ?_
      · go_simp
      simp only [Act.put, List.setIfInBounds_toArray, List.set]
      refine wpG_takeT (i := 26) (v := .pointer (some ⟨g, k * 5, none⟩)) rfl (fun L hc h => (hc.waits (n := 38) (i := 28) (by kernel_rfl) (hc.waits (n := 28) (i := 27) (by kernel_rfl) (hc.waits (n := 27) (i := 26) (by kernel_rfl) h)))) (by kernel_rfl) (fun _ _ _ h => h) hA (.inl ⟨rfl, fun w5 q1 => ?_⟩) ?_
      · go_simp
      simp only [Act.put, List.setIfInBounds_toArray, List.set]
      refine wpG_takeT (i := 27) (v := .pointer (some ⟨g, k * 5 + 4, none⟩)) rfl (fun L hc h => (hc.waits (n := 38) (i := 28) (by kernel_rfl) (hc.waits (n := 28) (i := 27) (by kernel_rfl) h))) (by kernel_rfl) (fun _ _ _ h => h) hA (.inl ⟨rfl, fun w5 q1 => ?_⟩) ?_
      · go_simp
      simp only [Act.put, List.setIfInBounds_toArray, List.set]
      refine wpG_takeT (i := 28) (v := .slice na x.new.length nc) rfl (fun L hc h => (hc.waits (n := 38) (i := 28) (by kernel_rfl) h)) (by kernel_rfl) (fun _ _ _ h => h) hA (.inl ⟨rfl, fun w5 q1 => ?_⟩) ?_
      · obtain ⟨c0, c1, c2⟩ := q1
        go_simp
      simp only [Act.put, List.setIfInBounds_toArray, List.set]
      refine wpG_takeT (i := 29) (v := .pointer (some ⟨g, k * 5, none⟩)) rfl (fun L hc h => (hc.waits (n := 38) (i := 32) (by kernel_rfl) (hc.waits (n := 32) (i := 31) (by kernel_rfl) (hc.waits (n := 31) (i := 30) (by kernel_rfl) (hc.waits (n := 30) (i := 29) (by kernel_rfl) h))))) (by kernel_rfl) (fun _ _ _ h => h) hA (.inl ⟨rfl, fun w5 q1 => ?_⟩) ?_
      · go_simp
      simp only [Act.put, List.setIfInBounds_toArray, List.set]
      refine wpG_takeT (i := 30) (v := .pointer (some ⟨g, k * 5, none⟩)) rfl (fun L hc h => (hc.waits (n := 38) (i := 32) (by kernel_rfl) (hc.waits (n := 32) (i := 31) (by kernel_rfl) (hc.waits (n := 31) (i := 30) (by kernel_rfl) h)))) (by kernel_rfl) (fun _ _ _ h => h) hA (.inl ⟨rfl, fun w5 q1 => ?_⟩) ?_
      · go_simp
      simp only [Act.put, List.setIfInBounds_toArray, List.set]
      refine wpG_takeT (i := 31) (v := .pointer (some ⟨g, k * 5 + 4, none⟩)) rfl (fun L hc h => (hc.waits (n := 38) (i := 32) (by kernel_rfl) (hc.waits (n := 32) (i := 31) (by kernel_rfl) h))) (by kernel_rfl) (fun _ _ _ h => h) hA (.inl ⟨rfl, fun w5 q1 => ?_⟩) ?_
      · go_simp
      simp only [Act.put, List.setIfInBounds_toArray, List.set]
      refine wpG_takeT (i := 32) (v := .slice na x.new.length nc) rfl (fun L hc h => (hc.waits (n := 38) (i := 32) (by kernel_rfl) h)) (by kernel_rfl) (fun _ _ _ h => h) hA (.inl ⟨rfl, fun w5 q1 => ?_⟩) ?_
      · obtain ⟨c0, c1, c2⟩ := q1
        go_simp
      simp only [Act.put, List.setIfInBounds_toArray, List.set]
      refine wpG_takeP (i := 33) (v := .int .i64 x.new.length) rfl (by kernel_rfl) (fun _ _ _ h => h) hA (.inl ⟨rfl, fun w5 q1 => ?_⟩) ?_
      · go_simp
      simp only [Act.put, List.setIfInBounds_toArray, List.set]
      refine wpG_takeP (i := 34) (v := .int .i64 m2) rfl (by kernel_rfl) (fun _ _ _ h => h) hA (.inl ⟨rfl, fun w5 q1 => ?_⟩) ?_
      · go_simp
      simp only [Act.put, List.setIfInBounds_toArray, List.set]
      refine wpG_takeP (i := 35) (v := .slice va m2 vc) rfl (by kernel_rfl) (fun _ _ _ h => h) hA (.inl ⟨rfl, fun w5 q1 => ?_⟩) ?_
      · go_simp
      simp only [Act.put, List.setIfInBounds_toArray, List.set]
      refine wpG_takeT (i := 36) (v := .pointer (some ⟨g, k * 5, none⟩)) rfl (fun L hc h => (hc.waits (n := 38) (i := 37) (by kernel_rfl) (hc.waits (n := 37) (i := 36) (by kernel_rfl) h))) (by kernel_rfl) (fun _ _ _ h => h) hA (.inl ⟨rfl, fun w5 q1 => ?_⟩) ?_
      · go_simp
      simp only [Act.put, List.setIfInBounds_toArray, List.set]
      refine wpG_takeT (i := 37) (v := .pointer (some ⟨g, k * 5, none⟩)) rfl (fun L hc h => (hc.waits (n := 38) (i := 37) (by kernel_rfl) h)) (by kernel_rfl) (fun _ _ _ h => h) hA (.inl ⟨rfl, fun w5 q1 => ?_⟩) ?_
      · go_simp
      simp only [Act.put, List.setIfInBounds_toArray, List.set]
      refine wpG_tail_lit (k := 38) rfl rfl (by kernel_rfl) ?_
      simp only [List.drop]
      have f0 := HFR.out (k * 5); have f3 := HFR.out (k * 5 + 3); have f4 := HFR.out (k * 5 + 4)
      obtain ⟨c0, c3, c4⟩ := hA
      go_upto_region 9 with fail
      obtain ⟨x', hx'⟩ : ∃ x', x' = clipV x := ⟨_, rfl⟩
      have hnm : x'.name = x.name.extract 0 m0 := by rw [hx', HM0'.out]; rfl
      have hold : x'.old = x.old.take m1 := by
        rw [hx', HM1'.out]
        simp only [clipV]
        rw [Nat.min_comm]
        rcases Nat.le_total 3001 x.old.length with h | h
        · rw [Nat.min_eq_left h]
        · rw [Nat.min_eq_right h, List.take_of_length_le h, List.take_of_length_le (Nat.le_refl _)]
      have hnew : x'.new = x.new.take m2 := by
        rw [hx', HM2'.out]
        simp only [clipV]
        rw [Nat.min_comm]
        rcases Nat.le_total 3001 x.new.length with h | h
        · rw [Nat.min_eq_left h]
        · rw [Nat.min_eq_right h, List.take_of_length_le h, List.take_of_length_le (Nat.le_refl _)]
      have hxf : x'.fine := by
        obtain ⟨p1, p2, p3, p4, p5⟩ := HFX.out
        refine ⟨?_, by rw [hold, List.length_take]; omega, by rw [hnew, List.length_take]; omega, by rw [hold]; exact fun z hz => p4 z (List.mem_of_mem_take hz), by rw [hnew]; exact fun z hz => p5 z (List.mem_of_mem_take hz)⟩
        rw [hnm, ByteArray.size_extract]
        omega
      have hp := SetRow.put (x' := x') (v := .slice ua m1 uc) (u := .slice va m2 vc) HROWL.out HRCD.out HX.out (by rw [hx']; rfl) (by rw [hx']; rfl) (by rw [hold]; exact HU1.out) (by rw [hnew]; exact HU2.out) hxf
      rw [hnm, hx', HSET.out] at hp
      obtain ⟨w9, hw9⟩ : ∃ w9, w9 = ((wd.setCell ⟨g, k * 5, none⟩ (.string (x.name.extract 0 m0))).setCell ⟨g, k * 5 + 3, none⟩ (.slice ua m1 uc)).setCell ⟨g, k * 5 + 4, none⟩ (.slice va m2 vc) := ⟨_, rfl⟩
      rw [← hw9] at hp ⊢
      obtain ⟨hp1, hp2⟩ := hp
      have hgb : base ≤ g := by
        obtain ⟨_, _, q, _⟩ := HROWL.out
        exact (q.lt g rfl).1
      have hlen2 : ((l0.take (k + 1)).map clipV ++ l0.drop (k + 1)).length = lk.length := by rw [← HSET.out, List.length_set]
      have hgw : w.heap.size + 3 < g := by have := HBS.out; omega
      have hup := HUD.out
      have hd9 : BtAt w base B.epoch B.large opc C (some ⟨g, 0, none⟩) lc ((l0.take (k + 1)).map clipV ++ l0.drop (k + 1)) w9 := by
        have kk : ∀ (b : Nat) o, b ≠ g → wr.heap[b]? = some o → w9.heap[b]? = some o := fun b o hb h => by
          have h1 := (hup.block _ (lt_of_heap h) (fun e => e)).trans h
          exact (hp2.block _ (lt_of_heap h1) hb).trans h1
        refine ⟨by rw [hlen2]; exact kk _ _ (by omega) HD.out.out, kk _ _ (by omega) HD.out.res, kk _ _ (by omega) HD.out.op, by rw [hlen2]; exact hp1, HRCD.out.kept hp2 (fun j hj e => HROWL.out.apart HRCD.out j hj (by rw [e]; rfl)), (HD.out.upd.trans hup).step hp2 (fun j hj e => by omega)⟩
      have HD9 := Lib.hid hd9
      have c5 : w9.cell? ⟨w.heap.size, 5, none⟩ = some (.slice none 0 0) := by
        have := hd9.op
        rw [HOPC.out] at this
        rw [cell_of_heap this]
        rfl
      have y2 := (cells3_of hd9.out).2.2
      rw [hlen2, hlen] at y2
      have hk0 : ¬ ((k : Int) < 0) := by omega
      have hcv2 : IntKind.i64.wrap ((k : Int) + 1) = (k : Int) + 1 := by rw [IntKind.wrap_i64]; omega
      clear hw9 hp1 hp2 hgb hlen2 hgw hup hd9 hold hnew hxf hnm hx' c0 c3 c4 f0 f3 f4
      go_wp2
      go_roundg (n4 - (k + 1))
      case measure => omega
      case rel => exact ⟨k + 1, by omega, rfl, congrArg _ (by omega), HD9.out⟩
    · obtain rfl : k = n4 := by omega
      have hd := HD.out
      have e1 : (l0.take k).map clipV ++ l0.drop k = l0.map clipV := by rw [HN4.out, List.take_length, List.drop_length, List.append_nil]
      rw [e1] at hd
      have hll : (l0.map clipV).length = k := by rw [List.length_map, ← HN4.out]
      obtain ⟨h1, h2, h3, h4, h5, h6⟩ := hd
      rw [hll] at h1 h4
      obtain ⟨y0, y1, y2⟩ := cells3_of h1
      have HRES := Lib.hid h2; have HU := Lib.hid h6; have HROW := Lib.hid h4; have HRC := Lib.hid h5; have HLL := Lib.hid hll
      clear h1 h2 h3 h4 h5 h6 HD e1 hll hlen
      go_upto_region 13 with fail
      iterate 4 go_step
      refine wpList_store_mid rfl 56 (.tmp 4) (.tmp 107) rfl (w.heap.size + 2) 0 #[.int .u64 B.epoch, .bool B.large, .slice la k lc] rfl rfl (by have q := there_block HRES.out; exact q) size56 (by simp [Value.oneCell']) ?_
      have hb2 := heap_setCells_whole (vs := [.int .u64 B.epoch, .bool B.large, .slice la k lc]) HRES.out rfl
      have hu2 := Upd.setCells (F := fun k => k = w.heap.size + 2) (b := w.heap.size + 2) rfl [.int .u64 B.epoch, .bool B.large, .slice la k lc] 0 (Upd.refl _ wr)
      have hl3 := run_loadVar_mid (P := Tryz.prog) (wr.setCells (w.heap.size + 2) 0 [.int .u64 B.epoch, .bool B.large, .slice la k lc]) (w.heap.size + 2) 0 56 [.int .u64 B.epoch, .bool B.large, .slice la k lc] _ (rangeAt_block hb2) Tryz.underlying56 rfl size56
      have HL3 := Lib.hid hl3; have HU2 := Lib.hid hu2
      clear hb2 hu2 hl3
      go_wp2
      refine bodyPost_ret (results_cell1 Tryz.results19 rfl HL3.out) rfl ?_
      have hrow := HROW.out.kept HU2.out (fun j hj e => by
        obtain ⟨L, _, q, _⟩ := HROW.out
        have := (q.lt j hj).1
        have := HBS.out
        omega) (fun j hj e => by have := HC5.out j hj; have := HBS.out; omega)
      have hcr := HRC.out.kept HU2.out (fun j hj e => by have := HC5.out j hj; have := HBS.out; omega)
      have hcl : (clipB B).sets = l0.map clipV := by rw [HL0.out]; rfl
      refine ⟨la, lc, ?_, ⟨C, ?_, hcr, fun j hj => by have := HC5.out j hj; have := HBS.out; omega⟩, ?_, HU.out.step HU2.out (fun j hj e => by omega)⟩
      · unfold batchV
        rw [hcl, HLL.out]
        rfl
      · rw [hcl, HLL.out]
        exact hrow.low (by have := HBS.out; omega)
      · rw [hcl, HLL.out]
        have := HCAP.out
        omega
end Go.Proofs.YtbimkhdiplnbfaaGreat
