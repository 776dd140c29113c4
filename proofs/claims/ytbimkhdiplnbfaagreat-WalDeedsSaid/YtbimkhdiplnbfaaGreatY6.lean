/- Bytes in memory: zeros appended; bytes.Clone. -/
import Derived.Test.YtbimkhdiplnbfaaGreatY5
import Derived.Lib.AppendZeros
import Derived.Laws.BitsAllLaws
set_option linter.unusedVariables false
set_option linter.unusedSimpArgs false
namespace Go.Proofs.YtbimkhdiplnbfaaGreat
set_option maxRecDepth 1000000
set_option maxHeartbeats 16000000
section
open Go.RowKit
def BytesIn (w : World) (v : Value) (bs : List Int) : Prop := (v = .slice none 0 0 ∧ bs = []) ∨ ∃ a c, v = .slice (some a) bs.length c ∧ bs.length ≤ c ∧ c ≤ maxLen ∧ ∀ (i : Nat) u, (bcells bs)[i]? = some u → w.cell? (a.add i) = some u
theorem cell_keptF {G : Nat → Prop} {w w' : World} (hu : Upd G w w') {x : Addr} (hg : ¬ G x.block) {v : Value} (h : w.cell? x = some v) : w'.cell? x = some v := by
 have hlt : x.block < w.heap.size := by
  rcases Nat.lt_or_ge x.block w.heap.size with h' | h'
  ·exact h'
  ·simp [World.cell?, Array.getElem?_eq_none h'] at h
 rw [← h]
 simp only [World.cell?]
 rw [hu.block x.block hlt hg]
theorem BytesIn.kept {w w' : World} {v : Value} {bs : List Int} (h : BytesIn w v bs) (hu : Upd (fun _ => False) w w') : BytesIn w' v bs := by
 rcases h with h | ⟨a, c, h1, h2, h3, h4⟩
 ·exact .inl h
 ·exact .inr ⟨a, c, h1, h2, h3, fun i u hi => cell_keptF hu (fun e => e) (h4 i u hi)⟩
abbrev OwnB (w : World) (B : Nat) (v : Value) (bs : List Int) : Prop := w.ownsRow B 5 1 v bs.length (bcells bs)
theorem OwnB.bytesIn {w : World} {B : Nat} {v : Value} {bs : List Int} (h : OwnB w B v bs) : BytesIn w v bs := by
 rcases h.2 with ⟨h1, h2⟩ | ⟨g, cap, cur, rfl, hb, hg, h1, h2, h3, h4⟩
 ·exact .inl ⟨h1, List.length_eq_zero_iff.1 h2⟩
 ·exact .inr ⟨⟨g, 0, none⟩, cap, rfl, h1, h2, World.ownsRow.cells h rfl⟩
theorem OwnB.mono {w : World} {B B' : Nat} {v : Value} {bs : List Int} (h : OwnB w B v bs) (hb : B' ≤ B) : OwnB w B' v bs := by
 obtain ⟨h1, h2⟩ := h
 refine ⟨h1, ?_⟩
 rcases h2 with h2 | ⟨g, cap, cur, a, b, r⟩
 ·exact .inl h2
 ·exact .inr ⟨g, cap, cur, a, Nat.le_trans hb b, r⟩
theorem OwnB.keptF {w w' : World} {G : Nat → Prop} {B : Nat} {v : Value} {bs : List Int} (h : OwnB w B v bs) (hu : Upd G w w') (hg : ∀ k, v.ownBlock = some k → ¬ G k) : OwnB w' B v bs := ownsRow_any h hu hg
theorem Tryz.info5p : (Tryz.prog.info? 5).map (fun i => (i.zero, i.size, i.bytes)) = some (some (.int .u8 0), 1, 1) := by kernel_rfl
theorem run_append_zeros_own {w : World} {base : Nat} {ty : TypeId} {v : Value} {bs : List Int} {m : Nat} (hown : OwnB w base v bs) (hm : bs.length + m ≤ 1099511627776) (hm0 : 0 < m) (hbase : base ≤ w.heap.size) :
  ∃ v' w', (Builtin.append_ #[39, 3] ty #[v, .int .i64 m]).run Tryz.prog w = .ok v' w' ∧ OwnB w' base v' (bs ++ List.replicate m 0) ∧ w.grownBy w' v.ownBlock ∧ v' ≠ .slice none 0 0 := by
 obtain ⟨i, hi, hz, hs, hb⟩ := info_parts Tryz.info5p
 have ht : Tryz.prog.underlying 39 = some (.slice 5) := Tryz.underlying39
 have htn : Tryz.prog.underlying 3 = some (.int .i64) := Tryz.underlying3
 have hn : m ≠ 0 := by omega
 have hw : IntKind.i64.wrap (m : Int) = m := by rw [IntKind.wrap_i64]; omega
 have hneg : ¬ ((m : Int) < 0) := by omega
 have h48i : ¬ (281474976710656 < (m : Int) * (i.bytes : Int)) := by rw [hb]; omega
 have hnews : bcells (bs ++ List.replicate m 0) = bcells bs ++ List.replicate m (.int .u8 0) := by simp [bcells]
 have hlen : (bs ++ List.replicate m (0 : Int)).length = bs.length + m := by simp
 have hzc : ∀ k, Builtin.zeroCells (Value.int .u8 0).cells k = (List.replicate k (.int .u8 0)).toArray := fun k => by
  apply Array.ext'
  simp only [Builtin.zeroCells, Value.cells]
  apply List.ext_getElem
  ·simp
  ·intro j h1 h2
   simp [Nat.mod_one]
 have grown : ∀ (old : Nat), ∀ (row : Option Nat),
   (w.drew.alloc (.cells ((bcells bs).toArray ++ (List.replicate m (Value.int .u8 0)).toArray ++ (List.replicate (grownCap w (bs.length + m) old 5 - (bs.length + m)) (Value.int .u8 0)).toArray) 5)).ownsRow base 5 1
    (.slice (some ⟨w.heap.size, 0, none⟩) (bs.length + m) (grownCap w (bs.length + m) old 5)) (bs.length + m) (bcells bs ++ List.replicate m (.int .u8 0)) ∧
   w.grownBy (w.drew.alloc (.cells ((bcells bs).toArray ++ (List.replicate m (Value.int .u8 0)).toArray ++ (List.replicate (grownCap w (bs.length + m) old 5 - (bs.length + m)) (Value.int .u8 0)).toArray) 5)) row := by
  intro old row
  have hge := grownCap_ge w (bs.length + m) old 5
  have hcm : grownCap w (bs.length + m) old 5 ≤ maxLen := grownCap_le_maxLen w (bs.length + m) old 5 (by unfold maxLen; omega)
  refine ⟨⟨by simp [bcells], .inr ⟨w.heap.size, _, _, rfl, hbase, heap_alloc_new w.drew _, hge, hcm, ?_, ?_⟩⟩, ⟨rfl, rfl, rfl, by simp, fun k hk _ => Below.heap_alloc w.drew _ _ hk⟩⟩
  ·simp [bcells]; omega
  ·have e : (bs.length + m) * 1 = (bcells bs ++ List.replicate m (Value.int .u8 0)).length := by simp [bcells]
   simp only [Array.toList_append]
   rw [e]
   exact List.take_left
 rcases hown.2 with ⟨rfl, h0⟩ | ⟨g, cap, cur, rfl, hbg, hg, hnc, hcm, hcs, htake⟩
 ·have hbs : bs = [] := List.length_eq_zero_iff.1 h0
  subst hbs
  have hr := Lib.run_append_nil_zeros (P := Tryz.prog) w 39 3 ty 5 i (.int .u8 0) .i64 .i64 ht htn hi hz m hm0 (by omega) (by simp at hm; omega) (by simp at hm; rw [hb]; omega)
  have hgr := grown 0 (Value.ownBlock (.slice none 0 0))
  simp only [List.length_nil, Nat.zero_add, bcells, List.map_nil, List.nil_append] at hgr
  rw [hzc, hzc] at hr
  refine ⟨_, _, hr, ?_, ?_, by simp⟩
  ·have h1 := hgr.1
   simp only [OwnB, bcells, List.nil_append]
   simpa using h1
  ·simpa using hgr.2
 ·by_cases hroom : bs.length + m ≤ cap
  ·have hst := run_storeCells_at Tryz.prog g bs.length 5 (List.replicate m (Value.int .u8 0)) 0 cur w hg (by simp; simp at hcs; omega) (by simp [Value.oneCell'])
   simp only [Nat.add_zero] at hst
   have hadd : (⟨g, 0, none⟩ : Addr).add bs.length = ⟨g, bs.length, none⟩ := by rw [Addr.add_mid]; simp
   refine ⟨.slice (some ⟨g, 0, none⟩) (bs.length + m) cap, w.setRow g (cur.toList.take bs.length ++ List.replicate m (Value.int .u8 0) ++ cur.toList.drop (bs.length + (List.replicate m (Value.int .u8 0)).length)).toArray, ?_, ⟨by simp [bcells], .inr ⟨g, cap, _, by rw [hlen], hbg, setRow_heap w g cur _ 5 _ hg, by rw [hlen]; exact hroom, hcm, ?_, ?_⟩⟩, ⟨rfl, rfl, rfl, by simp, fun k _ hk => setRow_other w g k _ (fun e => hk (by simp [Value.ownBlock, e]))⟩, by simp⟩
   ·simp only [Builtin.append_, sizeOf, typeInfo, zeroValue, asInt, asIntOf, Builtin.lenOf]
    simp [run_underlying ht, run_underlying htn, hi, hz, hw, hn, hneg, h48i, hroom, hs, hadd, hst, hzc]
   ·simp only [List.size_toArray, List.length_append, List.length_take, List.length_drop, Array.length_toList, List.length_replicate]
    omega
   ·rw [hnews, hlen]
    have : cur.toList.take bs.length = bcells bs := by simpa using htake
    rw [this]
    simp [bcells]
    rw [← List.append_assoc]
    have e : bs.length + m = (List.map (Value.int .u8) bs ++ List.replicate m (Value.int .u8 0)).length := by simp
    rw [e]
    exact List.take_left
  ·have hfo := run_firstCells_some (P := Tryz.prog) w.drew i.size bs.length ⟨g, 0, none⟩ bs.length cap (bcells bs) (by rw [hs]; simp [bcells]) (by
    have := World.ownsRow.cells hown (g := g) rfl
    simpa using this)
   rw [hs] at hfo
   have hfit : ¬ (281474976710656 < Builtin.nextslicecap (bs.length + m) cap * i.bytes) := by
    have := growslice_fits (need := bs.length + m) (old := cap) (bytes := i.bytes) (by omega) (by rw [hb]; omega)
    omega
   have h63' : ¬ (9223372036854775807 < ((bs.length : Int) + (m : Int))) := by omega
   have hgr := grown cap (Value.ownBlock (.slice (some ⟨g, 0, none⟩) bs.length cap))
   refine ⟨.slice (some ⟨w.heap.size, 0, none⟩) (bs.length + m) (grownCap w (bs.length + m) cap 5), _, ?_, ?_, hgr.2, by simp⟩
   ·simp [Builtin.append_, run_underlying ht, run_underlying htn, sizeOf, typeInfo, zeroValue, hi, hz, asInt, asIntOf, hw, hn, hneg, h48i, Builtin.lenOf, hroom, h63', hfit, Question.forced, hfo, newRow, grownCap, hs, hzc]
    try rfl
   ·have h1 := hgr.1
    rw [OwnB, hlen, hnews]
    exact h1
theorem clone_any {v : Value} {bs : List Int} (w : World) (hl : bs.length ≤ 1099511627776) (hv : BytesIn w v bs) :
  Calls Tryz.prog 99 #[v] w fun e w' => ∃ u, e = .returned u ∧ OwnB w' w.heap.size u bs ∧ (u = .slice none 0 0 ↔ v = .slice none 0 0) ∧ Upd (fun _ => False) w w' := by
 rcases hv with ⟨rfl, rfl⟩ | ⟨a, c, rfl, h1, h2, h3⟩
 ·have q22 : (binOp .eql 39 (.slice none 0 0) (.slice none 0 0)).run Tryz.prog w = .ok (.bool true) w := by kernel_rfl
  go_enter Tryz.func99, Tryz.ntmps99
  go_wp2
  go_ret
  exact ⟨.slice none 0 0, rfl, World.ownsRow_nil _ _ _ _, by simp, Upd.refl _ _⟩
 ·have HC := Lib.hid h3
  clear h3
  have q22 : (binOp .eql 39 (.slice (some a) bs.length c) (.slice none 0 0)).run Tryz.prog w = .ok (.bool false) w := Lib.run_eql_slice_nil w _ _ _ _ _ _ _ Tryz.underlying39
  go_enter Tryz.func99, Tryz.ntmps99
  go_upto_region 3 with fail
  clear q22
  iterate 7 go_step
  obtain ⟨i0, hi0, hz0, hz1, hz2⟩ := info_parts Tryz.info5p
  have hown0 : (w.alloc (.cells #[] 5)).ownsRow w.heap.size 5 1 (.slice (some ⟨w.heap.size, 0, none⟩) 0 0) 0 [] :=
   ⟨by simp, .inr ⟨w.heap.size, 0, #[], rfl, Nat.le_refl _, alloc_at rfl, Nat.le_refl _, Nat.zero_le _, rfl, rfl⟩⟩
  refine wpList_append_own _ rfl (.tmp 5) (.tmp 6) 39 rfl w.heap.size 5 i0 (.int .u8 0) 1 1 Tryz.underlying39 hi0 hz0 hz1 hz2 rfl (by omega) _ 0 [] rfl hown0 a bs.length c (bcells bs) rfl (by simp [bcells]) (fun j u hj => cell_keptF (G := fun _ => False) ((Upd.refl _ w).alloc _) (fun e => e) (HC.out j u hj)) (bcells_one bs) (by unfold maxLen; omega) (by omega) (by simp) ?_
  intro v' w1 hown hgrow hnil
  have HO := Lib.hid hown
  have hu : Upd (fun _ => False) w w1 := ((Upd.refl _ w).alloc _).step (Upd.of_grown (F := fun k => k = w.heap.size) hgrow (fun k hk => (Option.some.inj hk).symm)) (fun k hk e => by omega)
  have HU := Lib.hid hu
  have HN : RowKit.Hid (v' ≠ .slice none 0 0) := Lib.hid (fun e => by have := (hnil.1 e).1; cases this)
  clear hown hgrow hnil hi0 hz0 hz1 hz2 hown0 hu
  go_wp2
  go_ret
  refine ⟨_, rfl, ?_, ⟨fun e => absurd e HN.out, fun e => by cases e⟩, HU.out⟩
  have := HO.out
  simpa using this
theorem layF_snoc (x : Int) (nb k : Nat) (h : k < nb) : (layF x (8 * nb)).take (k + 1) = (layF x (8 * nb)).take k ++ [(x / 2 ^ (8 * nb - 8 * (k + 1))) % 256] := by
 rw [List.take_add_one]
 have : (layF x (8 * nb))[k]? = some ((x / 2 ^ (8 * nb - 8 * (k + 1))) % 256) := by
  simp only [layF, List.getElem?_map, List.getElem?_range (show k < 8 * nb / 8 by omega)]; rfl
 rw [this]; rfl
theorem bcells_append (a b : List Int) : bcells (a ++ b) = bcells a ++ bcells b := by simp [bcells]
theorem lay_any {v : Value} {bs : List Int} {x : Int} {nb : Nat} (w : World) (hl : bs.length ≤ 1099511627700) (hv : BytesIn w v bs) (_hx : 0 ≤ x ∧ x ≤ 18446744073709551615) (hn : 1 ≤ nb ∧ nb ≤ 8) :
  Calls Tryz.prog 180 #[v, .int .u64 x, .int .i64 (8 * nb : Nat)] w fun e w' => ∃ u, e = .returned u ∧ OwnB w' w.heap.size u (bs ++ layF x (8 * nb)) ∧ Upd (fun _ => False) w w' := by
 have HC := Lib.hid (clone_any w (by omega) hv)
 clear hv
 have hquo : ((8 * nb : Nat) : Int).tdiv 8 = nb := by rw [Int.tdiv_eq_ediv_of_nonneg (by omega)]; omega
 go_enter Tryz.func180, Tryz.ntmps180
 go_wp2_with (go_at_call 99; fail)
 refine HC.out.mono ?_
 rintro e w1 ⟨u1, rfl, ho, _, hu⟩
 have HO := Lib.hid ho; have HU := Lib.hid hu
 clear ho hu HC
 simp only []
 go_upto_region 3 with fail
 go_loopg [7, 13] nb (fun gk out i wr => ∃ k : Nat, k ≤ nb ∧ gk = nb - k ∧ i = .int .i64 k ∧ OwnB wr w.heap.size out (bs ++ (layF x (8 * nb)).take k) ∧ Upd (fun _ => False) w wr)
 case atStart => exact ⟨0, Nat.zero_le _, rfl, rfl, by simpa using HO.out, HU.out⟩
 case round =>
  obtain ⟨k, hk, rfl, rfl, ho, hu⟩ := hrel
  have HO2 := Lib.hid ho; have HU2 := Lib.hid hu
  clear ho hu HO HU
  by_cases hkn : k < nb
  ·have hkni : (k : Int) < nb := by omega
   go_upto_region 5 with fail
   iterate 31 go_step
   obtain ⟨i0, hi0, hz0, hz1, hz2⟩ := info_parts Tryz.info5p
   have hbl : (bs ++ (layF x (8 * nb)).take k).length = bs.length + k := by
    have := layF_length x (8 * nb)
    simp; omega
   refine wpList_append_own _ rfl (.tmp 16) (.tmp 25) 39 rfl w.heap.size 5 i0 (.int .u8 0) 1 1 Tryz.underlying39 hi0 hz0 hz1 hz2 rfl (by omega) _ _ _ rfl (HO2.out.alloc _) ⟨wr.heap.size, 0, none⟩ 1 1 [.int .u8 ((x / 2 ^ (8 * nb - 8 * (k + 1))) % 256)] rfl rfl (cell_one_new _ _ _) (by simp [Value.oneCell']) (by rw [hbl]; unfold maxLen; omega) (by rw [hbl]; omega) (by have := HU2.out.size; simp; omega) ?_
   intro v' w4 hown hgrow _
   have HN : RowKit.Hid (OwnB w4 w.heap.size v' (bs ++ (layF x (8 * nb)).take (k + 1))) := Lib.hid (by
    rw [layF_snoc x nb k hkn, ← List.append_assoc]
    unfold OwnB
    rw [bcells_append, List.length_append]
    exact hown)
   have HUN : RowKit.Hid (Upd (fun _ => False) w w4) := Lib.hid ((HU2.out.alloc _).step (Upd.of_grown (F := fun k => w.heap.size ≤ k) hgrow (fun k hk => (HO2.out.lt k hk).1)) (fun k hk e => by omega))
   clear hown hgrow hi0 hz0 hz1 hz2 HO2 HU2
   go_wp2
   go_roundg (nb - (k + 1))
   case measure => omega
   case rel => exact ⟨k + 1, by omega, rfl, congrArg _ (by omega), HN.out, HUN.out⟩
  ·obtain rfl : k = nb := by omega
   go_wp2
   go_ret
   have ho := HO2.out
   rw [List.take_of_length_le (by rw [layF_length]; omega)] at ho
   exact ⟨_, rfl, ho, HU2.out⟩
theorem put32_any {v : Value} {bs : List Int} {x : Int} (w : World) (hl : bs.length ≤ 1099511627700) (hv : BytesIn w v bs) (hx : 0 ≤ x ∧ x ≤ 4294967295) :
  Calls Tryz.prog 189 #[v, .int .u32 x] w fun e w' => ∃ u, e = .returned u ∧ OwnB w' w.heap.size u (bs ++ layF x 32) ∧ Upd (fun _ => False) w w' := by
 have HC := Lib.hid (lay_any (nb := 4) w hl hv ⟨hx.1, by omega⟩ (by omega))
 have hcv : IntKind.u64.wrap x = x := by rw [IntKind.wrap_u64]; omega
 clear hv
 go_enter Tryz.func189, Tryz.ntmps189
 go_wp2_with (go_at_call 180; fail)
 refine HC.out.mono ?_
 rintro e w1 ⟨u1, rfl, ho, hu⟩
 have HO := Lib.hid ho; have HU := Lib.hid hu
 clear ho hu HC
 simp only []
 go_wp2
 go_ret
 exact ⟨_, rfl, HO.out, HU.out⟩
theorem put16_any {v : Value} {bs : List Int} {x : Int} (w : World) (hl : bs.length ≤ 1099511627700) (hv : BytesIn w v bs) (hx : 0 ≤ x ∧ x ≤ 65535) :
  Calls Tryz.prog 147 #[v, .int .u16 x] w fun e w' => ∃ u, e = .returned u ∧ OwnB w' w.heap.size u (bs ++ layF x 16) ∧ Upd (fun _ => False) w w' := by
 have HC := Lib.hid (lay_any (nb := 2) w hl hv ⟨hx.1, by omega⟩ (by omega))
 have hcv : IntKind.u64.wrap x = x := by rw [IntKind.wrap_u64]; omega
 clear hv
 go_enter Tryz.func147, Tryz.ntmps147
 go_wp2_with (go_at_call 180; fail)
 refine HC.out.mono ?_
 rintro e w1 ⟨u1, rfl, ho, hu⟩
 have HO := Lib.hid ho; have HU := Lib.hid hu
 clear ho hu HC
 simp only []
 go_wp2
 go_ret
 exact ⟨_, rfl, HO.out, HU.out⟩
theorem takes_run {b1 b2 : Nat} {c lo hi : Int} (w : World) (h1 : w.heap[b1]? = some (.cells #[.int .u32 lo] 136 (0, 0))) (h2 : w.heap[b2]? = some (.cells #[.int .u32 hi] 136 (0, 0))) (hne : b1 ≠ b2) (hc : 0 ≤ c ∧ c ≤ 255) (hp : okP (lo, hi)) :
  Calls Tryz.prog 215 (#[.int .u8 c] ++ #[.pointer (some ⟨b1, 0, none⟩), .pointer (some ⟨b2, 0, none⟩)]) w fun e w' => e = .returned (.tuple #[]) ∧ w'.heap[b1]? = some (.cells #[.int .u32 (sumStep (lo, hi) c).1] 136 (0, 0)) ∧ w'.heap[b2]? = some (.cells #[.int .u32 (sumStep (lo, hi) c).2] 136 (0, 0)) ∧ Upd (fun k => k = b1 ∨ k = b2) w w' := by
 obtain ⟨⟨p1, p2⟩, p3, p4⟩ := hp
 simp only at p1 p2 p3 p4
 have c1 := cells1_of h1; have c2 := cells1_of h2
 have f1 : w.frozen? ⟨b1, 0, none⟩ = false := frozen_of_heap h1
 have f2 : w.frozen? ⟨b2, 0, none⟩ = false := frozen_of_heap h2
 have hne' : b2 ≠ b1 := fun e => hne e.symm
 have HH := Lib.hid (And.intro h1 h2)
 clear h1 h2
 go_enter Tryz.func215, Tryz.ntmps215
 go_wp2
 refine bodyPost_end (results_none rfl _ _ _) rfl ?_
 have e1 : (hi + (lo + c)) % 65521 = (sumStep (lo, hi) c).2 := by simp only [sumStep]; omega
 have e2 : (lo + c) % 65521 = (sumStep (lo, hi) c).1 := rfl
 rw [e1, e2]
 have h1 := HH.out.1; have h2 := HH.out.2
 refine ⟨rfl, ?_, ?_, ?_⟩
 ·rw [set_ne (by exact hne)]
  have := blk_set (i := 0) (v := .int .u32 (sumStep (lo, hi) c).1) h1
  simpa using this
 ·have h3 : (w.setCell ⟨b1, 0, none⟩ (.int .u32 (sumStep (lo, hi) c).1)).heap[b2]? = some (.cells #[.int .u32 hi] 136 (0, 0)) := by rw [set_ne (by exact hne')]; exact h2
  have := blk_set (i := 0) (v := .int .u32 (sumStep (lo, hi) c).2) h3
  simpa using this
 ·exact Upd.setCell (F := fun k => k = b1 ∨ k = b2) (p := ⟨b2, 0, none⟩) (Upd.setCell (F := fun k => k = b1 ∨ k = b2) (p := ⟨b1, 0, none⟩) (Upd.refl _ w) (.inl (.inl rfl)) _) (.inl (.inr rfl)) _
theorem or_high {h l : Int} (h0 : 0 ≤ h) (h1 : h < 65521) (l0 : 0 ≤ l) (l1 : l < 65521) : bits .or .u32 (h * 65536) l = h * 65536 + l := by
 rw [u32_or _ _ (by omega) (by omega) l0 (by omega)]
 obtain ⟨a, rfl⟩ := Int.eq_ofNat_of_zero_le h0
 obtain ⟨b, rfl⟩ := Int.eq_ofNat_of_zero_le l0
 have e : ((a : Int) * 65536).toNat = 2 ^ 16 * a := by omega
 rw [e, Int.toNat_natCast, ← Nat.two_pow_add_eq_or_of_lt (show b < 2 ^ 16 by omega)]
 rw [show (2 ^ 16 : Nat) = 65536 from rfl]; omega
theorem sumP_take (bs : List Int) (k : Nat) (c : Int) (h : bs[k]? = some c) : sumP (bs.take (k + 1)) = sumStep (sumP (bs.take k)) c := by
 rw [List.take_add_one, h]
 simp [sumP]
theorem sum_any {v : Value} {bs : List Int} (w : World) (hl : bs.length ≤ 1099511627776) (hv : BytesIn w v bs) (hb : Bytes bs) :
  Calls Tryz.prog 190 #[v] w fun e w' => e = .returned (.int .u32 (sumF bs)) ∧ Upd (fun _ => False) w w' := by
 obtain ⟨sa, sc, rfl⟩ : ∃ sa sc, v = .slice sa bs.length sc := by
  rcases hv with ⟨rfl, rfl⟩ | ⟨a, c, rfl, _⟩
  ·exact ⟨none, 0, rfl⟩
  ·exact ⟨_, _, rfl⟩
 have hcell : ∀ i c, bs[i]? = some c → ∃ a, sa = some a ∧ w.cell? (a.add i) = some (.int .u8 c) := by
  intro i c hi
  rcases hv with ⟨_, rfl⟩ | ⟨a, c', h1, _, _, h4⟩
  ·simp at hi
  ·simp only [Value.slice.injEq] at h1
   exact ⟨a, h1.1, h4 i _ (by simp [bcells, hi])⟩
 have HC := Lib.hid hcell
 clear hcell hv
 go_enter Tryz.func190, Tryz.ntmps190
 go_upto_region 4 with fail
 go_loopg [10] bs.length (fun gk i wr => ∃ k : Nat, k ≤ bs.length ∧ gk = bs.length - k ∧ i = .int .i64 k ∧ wr.heap[w.heap.size]? = some (.cells #[.int .u32 (sumP (bs.take k)).1] 136 (0, 0)) ∧ wr.heap[w.heap.size + 1]? = some (.cells #[.int .u32 (sumP (bs.take k)).2] 136 (0, 0)) ∧ Upd (fun _ => False) w wr)
 case atStart =>
  refine ⟨0, Nat.zero_le _, rfl, rfl, ?_, ?_, ((Upd.refl _ w).alloc _).alloc _⟩
  ·exact (alloc_lt (by simp)).trans (alloc_at rfl)
  ·exact alloc_at (by simp)
 case round =>
  obtain ⟨k, hk, rfl, rfl, h1, h2, hu⟩ := hrel
  have H1 := Lib.hid h1; have H2 := Lib.hid h2; have HU := Lib.hid hu
  clear h1 h2 hu
  by_cases hkn : k < bs.length
  ·have hkni : (k : Int) < bs.length := by omega
   obtain ⟨c, hc⟩ : ∃ c, bs[k]? = some c := ⟨bs[k], by simp [hkn]⟩
   obtain ⟨a, rfl, hcw⟩ := HC.out k c hc
   have hcr : wr.cell? (a.add k) = some (.int .u8 c) := cell_keptF HU.out (fun e => e) hcw
   have hcb := hb c (List.mem_of_getElem? hc)
   have HTK := Lib.hid (sumP_take bs k c hc)
   clear hc hcw
   go_wp2_with (go_at_call 215; fail)
   refine (takes_run wr H1.out H2.out (by omega) hcb (sumP_bound _)).mono ?_
   rintro e w4 ⟨rfl, g1, g2, g3⟩
   have G1 := Lib.hid g1; have G2 := Lib.hid g2
   have HU4 : RowKit.Hid (Upd (fun _ => False) w w4) := Lib.hid (HU.out.step g3 (fun k hk e => by omega))
   clear g1 g2 g3
   simp only []
   go_wp2
   go_roundg (bs.length - (k + 1))
   case measure => omega
   case rel => exact ⟨k + 1, by omega, rfl, congrArg _ (by omega), by rw [HTK.out]; exact G1.out, by rw [HTK.out]; exact G2.out, HU4.out⟩
  ·obtain rfl : k = bs.length := by omega
   have c1 := cells1_of H1.out; have c2 := cells1_of H2.out
   rw [List.take_length] at c1 c2
   obtain ⟨⟨p1, p2⟩, p3, p4⟩ := sumP_bound bs
   clear H1 H2
   obtain ⟨lo, hlo⟩ : ∃ lo, lo = (sumP bs).1 := ⟨_, rfl⟩
   obtain ⟨hi, hhi⟩ : ∃ hi, hi = (sumP bs).2 := ⟨_, rfl⟩
   rw [← hlo] at c1 p1 p2; rw [← hhi] at c2 p3 p4
   have hor : bits .or .u32 (hi * 65536) lo = hi * 65536 + lo := or_high p3 p4 p1 p2
   go_wp2
   go_ret
   rw [hlo, hhi] at hor
   exact ⟨by rw [hor]; rfl, HU.out⟩
end
end Go.Proofs.YtbimkhdiplnbfaaGreat
