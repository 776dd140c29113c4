/- Walks: rows of numbers joined (Grow, Concat, union). -/
import Derived.Test.YtbonfdkgkcbkmaaGreatW1
import Derived.Test.YtbonfdkgkcbkmaaGreatW2
import Derived.Test.YtbonfdkgkcbkmaaGreatW3
import Derived.Sort.OwnSortedInts
import Derived.Maps.Views
import Derived.Maps.OwnSet
set_option linter.unusedVariables false
set_option linter.unusedSimpArgs false

section
namespace Go.Proofs.YtbonfdkgkcbkmaaGreat
set_option maxRecDepth 100000
set_option maxRecDepth 100000
open Go.RowKit

theorem Tryz.info3p : (Tryz.prog.info? 3).map (fun i => (i.zero, i.size, i.bytes)) = some (some (.int .i64 0), 1, 8) := by kernel_rfl
theorem Tryz.info32p : (Tryz.prog.info? 75).map (fun i => (i.zero, i.size, i.bytes)) = some (some (.slice none 0 0), 1, 24) := by kernel_rfl

/-- A row of numbers as it lies in a row of rows. -/
structure SlM where
  a : Option Addr
  c : Nat
  l : List Int
def SlM.v (r : SlM) : Value := .slice r.a r.l.length r.c
structure SlsIn (w : World) (a : Option Addr) (rs : List SlM) : Prop where
  row : Row 1 w a (rs.map fun r => [r.v])
  ints : ∀ r ∈ rs, IntsIn w r.a r.l ∧ 0 < r.l.length ∧ r.l.length ≤ 1000
  len : rs.length ≤ 1000
theorem SlsIn.kept {w w' : World} {a : Option Addr} {rs : List SlM} (h : SlsIn w a rs) (hu : Upd0 w w') : SlsIn w' a rs := ⟨h.row.kept hu, fun r hr => ⟨(h.ints r hr).1.kept hu, (h.ints r hr).2⟩, h.len⟩
theorem SlsIn.at {w : World} {a : Option Addr} {rs : List SlM} (h : SlsIn w a rs) {i : Nat} {r : SlM} (hi : rs[i]? = some r) : (∃ b o, a = some ⟨b, o, none⟩ ∧ w.cell? ⟨b, o + i, none⟩ = some (.slice r.a r.l.length r.c)) ∧ IntsIn w r.a r.l ∧ 0 < r.l.length ∧ r.l.length ≤ 1000 := by
  obtain ⟨_, b, o, e, hc⟩ := h.row i [r.v] (by rw [List.getElem?_map, hi]; rfl)
  have := hc 0 _ rfl
  rw [Nat.mul_one, Nat.add_zero] at this
  exact ⟨⟨b, o, e, this⟩, h.ints r (List.mem_of_getElem? hi)⟩

def flatL (rs : List SlM) : List Int := rs.flatMap (·.l)
theorem flatL_snoc {rs : List SlM} {k : Nat} {r : SlM} (hr : rs[k]? = some r) : flatL (rs.take (k + 1)) = flatL (rs.take k) ++ r.l := by
  obtain ⟨g1, g2⟩ := List.getElem?_eq_some_iff.1 hr
  rw [List.take_succ_eq_append_getElem g1, g2]
  simp [flatL, List.flatMap_append]
theorem ints_one (l : List Int) : ∀ u ∈ l.map I, u.oneCell' = true := fun u hu => by
  obtain ⟨z, _, rfl⟩ := List.mem_map.1 hu
  rfl
def totalL (rs : List SlM) : Nat := (rs.map fun r => r.l.length).sum
theorem totalL_flat (rs : List SlM) : (flatL rs).length = totalL rs := by simp [flatL, totalL, List.length_flatMap]
theorem totalL_snoc (rs : List SlM) (r : SlM) : totalL (rs ++ [r]) = totalL rs + r.l.length := by simp [totalL]
theorem totalL_le {w : World} {a : Option Addr} {rs : List SlM} (h : SlsIn w a rs) (k : Nat) : totalL (rs.take k) ≤ 1000000 := by
  have h1 : ∀ l : List SlM, (∀ r ∈ l, r.l.length ≤ 1000) → totalL l ≤ 1000 * l.length := by
    intro l
    induction l with
    | nil => simp [totalL]
    | cons x l ih =>
      intro hx
      have h2 := ih (fun r hr => hx r (List.mem_cons_of_mem _ hr))
      have h3 := hx x (List.mem_cons_self ..)
      simp only [totalL, List.map_cons, List.sum_cons, List.length_cons] at *
      omega
  have h2 := h1 (rs.take k) (fun r hr => (h.ints r (List.mem_of_mem_take hr)).2.2)
  have h3 := h.len
  have h4 : (rs.take k).length ≤ rs.length := by simp; omega
  omega

theorem grow_any (n : Nat) (w : World) (h0 : 0 < n) (hn : n ≤ 1000000) : Calls Tryz.prog 358 #[.slice none 0 0, .int .i64 n] w fun e w' => ∃ a c, e = .returned (.slice a 0 c) ∧ OwnI w' w.heap.size 3 (.slice a 0 c) [] ∧ Upd0 w w' := by
  obtain ⟨i, hi, hz, hs, hb⟩ := info_parts Tryz.info3p
  have hr := Lib.run_append_nil_zeros (P := Tryz.prog) w 75 3 75 3 i (.int .i64 0) .i64 .i64 Tryz.underlying75 Tryz.underlying3 hi hz n h0 (by rw [hs]; omega) (by omega) (by rw [hb]; omega)
  have HR := Lib.hid hr
  have h1 : ¬ (n : Int) < 0 := by omega
  have h2 : (0 : Int) < n := by omega
  have hg := grownCap_ge w n 0 3
  clear hr
  go_enter Tryz.func358, Tryz.ntmps358
  go_wp2_with (at_builtin; refine Lib.wpList_append_run _ rfl _ _ _ _ rfl _ _ rfl rfl _ _ HR.out ?_)
  go_ret
  have hgm := grownCap_le_maxLen w n 0 3 (by unfold maxLen; omega)
  refine ⟨_, _, rfl, ?_, ((Upd.refl _ w).alloc _).drew⟩
  have := World.ownsRow_made (base := w.heap.size) (e := 3) (size := 1) w (Builtin.zeroCells #[Value.int IntKind.i64 0] n ++ Builtin.zeroCells #[Value.int IntKind.i64 0] (grownCap w n 0 3 - n)) (grownCap w n 0 3) (Nat.le_refl _) hgm (by simp [size_zeroCells]; omega)
  exact ownsRow_any this ((Upd.refl (fun _ => False) _).drew) (fun _ _ e => e)

theorem IntsIn.news {w : World} {b o : Nat} {l : List Int} (h : IntsIn w (some ⟨b, o, none⟩) l) : ∀ j u, (l.map I)[j]? = some u → w.cell? ((⟨b, o, none⟩ : Addr).add j) = some u := by
  intro j u hu
  rw [List.getElem?_map, Option.map_eq_some_iff] at hu
  obtain ⟨z, hz, rfl⟩ := hu
  obtain ⟨b', o', e, hc⟩ := h.cell hz
  injection e with e
  injection e with e1 e2 _
  subst e1 e2
  have hadd : (⟨b, o, none⟩ : Addr).add j = ⟨b, o + j, none⟩ := by unfold Addr.add; split <;> simp_all
  rw [hadd]
  exact hc

set_option maxHeartbeats 1000000 in
theorem concat_any {a : Option Addr} {rs : List SlM} {c : Nat} (w : World) (h : SlsIn w a rs) (hne : rs ≠ []) :
    Calls Tryz.prog 341 #[.slice a rs.length c] w fun e w' => ∃ a' c', e = .returned (.slice a' (flatL rs).length c') ∧ OwnI w' w.heap.size 3 (.slice a' (flatL rs).length c') (flatL rs) ∧ Upd0 w w' := by
  have H := Lib.hid h
  have hlen := h.len
  have HT := Lib.hid (totalL_le h)
  have HN := Lib.hid (show 0 < rs.length by cases rs with | nil => exact absurd rfl hne | cons x l => simp)
  clear h hne
  go_enter Tryz.func341, Tryz.ntmps341
  go_wp2
  go_loop [3, 11] (fun t i => ∃ k : Nat, k ≤ rs.length ∧ i = .int .i64 k ∧ t = .int .i64 (totalL (rs.take k))) (fun _ i => rs.length - (intOf i).toNat)
  case atStart => exact ⟨0, Nat.zero_le _, rfl, rfl⟩
  case round =>
    obtain ⟨k, hk, rfl, rfl⟩ := hrel
    have htk := HT.out k
    by_cases hlt : k < rs.length
    · obtain ⟨r, hr⟩ : ∃ r, rs[k]? = some r := ⟨_, List.getElem?_eq_getElem hlt⟩
      obtain ⟨⟨b, o, rfl, hc⟩, h1, h2, h3⟩ := H.out.at hr
      have HS : Hid (totalL (rs.take (k + 1)) = totalL (rs.take k) + r.l.length) := Lib.hid (by obtain ⟨g1, g2⟩ := List.getElem?_eq_some_iff.1 hr; rw [List.take_succ_eq_append_getElem g1, g2, totalL_snoc])
      have hn : ¬ ((totalL (rs.take k) : Int) + r.l.length < 0) := by omega
      clear hr h1
      go_wp2
      go_round
      case rel => exact ⟨k + 1, by omega, by go_num, by rw [HS.out]; go_num⟩
      case measure => simp [intOf]; omega
    · obtain rfl : k = rs.length := by omega
      rw [List.take_length] at htk ⊢
      have hpos : 0 < totalL rs := by
        have h0 := HN.out
        cases rs with
        | nil => simp at h0
        | cons x l =>
          have := (H.out.ints x (List.mem_cons_self ..)).2.1
          simp only [totalL, List.map_cons, List.sum_cons]
          omega
      go_wp2_with (go_at_call 358; refine (grow_any _ _ hpos htk).mono ?_; rintro e w1 ⟨a1, c1, rfl, ho, hu⟩)
      have HO1 := Lib.hid ho; have HU1 := Lib.hid hu
      have HWS := Lib.hid hu.size
      clear ho hu hlt htk hpos
      go_loopw [6, 27] (fun t i wr => ∃ k : Nat, k ≤ rs.length ∧ i = .int .i64 k ∧ ∃ a2 c2, t = .slice a2 (flatL (rs.take k)).length c2 ∧ Hid (OwnI wr w.heap.size 3 t (flatL (rs.take k))) ∧ Hid (Upd0 w wr)) (fun _ i _ => rs.length - (intOf i).toNat)
      case atStart => exact ⟨0, Nat.zero_le _, rfl, _, _, rfl, HO1, HU1⟩
      case round =>
        obtain ⟨k, hk, rfl, a2, c2, rfl, ho, hu⟩ := hrel
        have htk := HT.out k
        by_cases hlt : k < rs.length
        · obtain ⟨r, hr⟩ : ∃ r, rs[k]? = some r := ⟨_, List.getElem?_eq_getElem hlt⟩
          obtain ⟨⟨b, o, rfl, hc⟩, h1, h2, h3⟩ := (H.out.kept hu.out).at hr
          have HS : Hid (totalL (rs.take (k + 1)) = totalL (rs.take k) + r.l.length) := Lib.hid (by obtain ⟨g1, g2⟩ := List.getElem?_eq_some_iff.1 hr; rw [List.take_succ_eq_append_getElem g1, g2, totalL_snoc])
          have HS2 : Hid (flatL (rs.take (k + 1)) = flatL (rs.take k) ++ r.l) := Lib.hid (flatL_snoc hr)
          have HTL := Lib.hid (totalL_flat (rs.take k))
          obtain ⟨z, hz⟩ : ∃ z, r.l[0]? = some z := ⟨_, List.getElem?_eq_getElem h2⟩
          obtain ⟨b1, o1, hra, _⟩ := h1.cell hz
          obtain ⟨ra, rc, rl⟩ := r
          simp only at hra h1 h2 h3 hz HS HS2 hc
          subst hra
          have H1 := Lib.hid h1.news
          have HZ := Lib.hid (show w.heap.size ≤ wr.heap.size from hu.out.size)
          obtain ⟨L, hL⟩ : ∃ L, L = flatL (rs.take k) := ⟨_, rfl⟩
          rw [← hL] at ho HS2 HTL ⊢
          clear hr h1 hz hL
          go_wp2_with (at_builtin; obtain ⟨i0, hi, hz0, hs, hb⟩ := info_parts Tryz.info3p; refine wpList_append_lies wr rfl (.tmp 31) (.tmp 32) 75 rfl w.heap.size 3 i0 (.int .i64 0) 1 8 Tryz.underlying75 hi hz0 hs hb rfl (by decide) _ _ _ rfl ho.out ⟨b1, o1, none⟩ rl.length rc (rl.map I) rfl (by simp) H1.out (ints_one rl) h2 (by have := HTL.out; unfold maxLen; omega) (by have := HTL.out; omega) HZ.out wr.heap.size rfl ?_; clear hi hz0 hs hb; intro g cap w2 hown hgrow _ _)
          have HU2 := Lib.hid (show Upd0 w w2 from hu.out.step (Upd.of_grown (F := fun k => (Value.slice a2 L.length c2).ownBlock = some k) hgrow (fun k hk => hk)) (fun k hk e => by have := (ho.out.lt k e).1; omega))
          have HO2 := Lib.hid hown
          clear hown hgrow
          go_wp2
          go_roundw
          case rel => exact ⟨k + 1, by omega, by go_num, _, cap, by rw [HS2.out, List.length_append], Lib.hid (by rw [HS2.out]; simpa [OwnI] using HO2.out), HU2⟩
          case measure => simp [intOf]; omega
        · obtain rfl : k = rs.length := by omega
          rw [List.take_length] at ho ⊢
          go_wp2
          go_ret
          exact ⟨_, _, rfl, ho.out, hu.out⟩
end Go.Proofs.YtbonfdkgkcbkmaaGreat
end

section
namespace Go.Proofs.YtbonfdkgkcbkmaaGreat
set_option maxRecDepth 100000
set_option maxRecDepth 100000
open Go.RowKit Go.Sort

theorem IntsIn.getD {w : World} {b o : Nat} {l : List Int} (h : IntsIn w (some ⟨b, o, none⟩) l) : ∀ j, j < l.length → w.cell? ⟨b, o + j, none⟩ = some (.int .i64 (l.getD j 0)) := fun j hj => by
  obtain ⟨b', o', e, hc⟩ := h.cell (List.getElem?_eq_getElem hj)
  injection e with e
  injection e with e1 e2 _
  subst e1 e2
  rw [hc]
  simp [List.getD, List.getElem?_eq_getElem hj]
theorem IntsIn.some {w : World} {a : Option Addr} {l : List Int} (h : IntsIn w a l) (hl : 0 < l.length) : ∃ b o, a = some ⟨b, o, none⟩ := by
  obtain ⟨b, o, e, _⟩ := h.cell (List.getElem?_eq_getElem hl)
  exact ⟨b, o, e⟩
theorem contains_in {a : Option Addr} {l : List Int} {c : Nat} (x : Int) (w : World) (h : IntsIn w a l) (hl : l.length ≤ 140737488351232) :
    Calls Tryz.prog 89 #[.slice a l.length c, .int .i64 x] w fun e w' => e = .returned (.bool (l.contains x)) ∧ w = w' := by
  by_cases h0 : l.length = 0
  · have : l = [] := List.length_eq_zero_iff.1 h0
    subst this
    exact (Tryz.slices_Contains_int_empty a c x w).mono fun _ _ ⟨h1, h2⟩ => ⟨by rw [h1]; simp, h2.symm⟩
  · obtain ⟨b, o, rfl⟩ := h.some (by omega)
    refine (Tryz.slices_Contains_int b o l.length c l x w (Nat.le_refl _) (by omega) h.getD).mono fun _ _ ⟨h1, h2⟩ => ⟨by rw [h1, List.take_length], h2.symm⟩
theorem index_in {a : Option Addr} {l : List Int} {c : Nat} (x : Int) (w : World) (h : IntsIn w a l) (hl : l.length ≤ 140737488351232) :
    Calls Tryz.prog 168 #[.slice a l.length c, .int .i64 x] w fun e w' => e = .returned (.int .i64 (Lib.idxOf l x)) ∧ w = w' := by
  by_cases h0 : l.length = 0
  · have : l = [] := List.length_eq_zero_iff.1 h0
    subst this
    exact (Tryz.slices_Index_int_empty a c x w).mono fun _ _ ⟨h1, h2⟩ => ⟨h1, h2.symm⟩
  · obtain ⟨b, o, rfl⟩ := h.some (by omega)
    refine (Tryz.slices_Index_int b o l.length c l x w (Nat.le_refl _) (by omega) h.getD).mono fun _ _ ⟨h1, h2⟩ => ⟨by rw [h1, List.take_length], h2.symm⟩
def sortI (zs : List Int) : List Int := zs.mergeSort fun x y => decide (x ≤ y)
theorem sort_own {B : Nat} {a : Option Addr} {c : Nat} {L : List Int} (w : World) (h : OwnI w B 3 (.slice a L.length c) L) (hL : L.length ≤ 140737488351232) :
    Calls Tryz.prog 124 #[.slice a L.length c] w fun e w' => e = .returned (.tuple #[]) ∧ OwnI w' B 3 (.slice a (sortI L).length c) (sortI L) ∧ Upd (fun k => (Value.slice a L.length c).ownBlock = some k) w w' := by
  have hsl : (sortI L).length = L.length := by simp [sortI]
  rcases h.2 with ⟨hv, h0⟩ | ⟨g, cap, cur, hv, hbase, hb, h1, h2, h3, h4⟩
  · have : L = [] := List.length_eq_zero_iff.1 h0
    subst this
    exact (Tryz.slices_Sort_int_none a c w).mono fun _ _ ⟨e1, e2⟩ => ⟨e1, by subst e2; simpa [sortI] using h, by subst e2; exact Upd.refl _ _⟩
  · injection hv with hv1 hv2 hv3
    subst hv1 hv3
    have hH : Holds (Value.int .i64) w g 0 L.toArray := holds_of_blockI hb (by simpa using h4)
    refine (Tryz.slices_Sort_int g 0 c L w hH (lt_of_heap hb) (by omega)).mono fun _ _ ⟨e1, n, os, e2⟩ => ⟨e1, ?_, ?_⟩
    · subst e2
      have := ownsRow_sortedI (n := n) (os := os) (ts := L.mergeSort fun x y => decide (x ≤ y)) (ss := L) (e := 3) (by simp) hbase hb h1 h2 (by simpa using h3)
      show World.ownsRow _ _ _ _ _ _ _
      rw [hsl]
      exact this
    · subst e2
      exact Upd.of_grown (grownBy_sortedI _) (fun k hk => by simpa [Value.ownBlock] using hk)
theorem compactUpTo_le (d : Array Int) (m : Nat) : (Lib.compactUpTo d m).length ≤ m := by
  unfold Lib.compactUpTo
  rw [List.length_map]
  exact Nat.le_trans (List.length_filter_le _ _) (by simp)
theorem compact_le (zs : List Int) : (Lib.compact zs).length ≤ zs.length := compactUpTo_le _ _
theorem compact_own {B : Nat} {a : Option Addr} {c : Nat} {L : List Int} (w : World) (h : OwnI w B 3 (.slice a L.length c) L) :
    Calls Tryz.prog 342 #[.slice a L.length c] w fun e w' => e = .returned (.slice a (Lib.compact L).length c) ∧ OwnI w' B 3 (.slice a (Lib.compact L).length c) (Lib.compact L) ∧ Upd (fun k => (Value.slice a L.length c).ownBlock = some k) w w' := by
  have hcl := compact_le L
  rcases h.2 with ⟨hv, h0⟩ | ⟨g, cap, cur, hv, hbase, hb, h1, h2, h3, h4⟩
  · have : L = [] := List.length_eq_zero_iff.1 h0
    subst this
    exact (Tryz.slices_Compact_int_empty a c w).mono fun _ _ ⟨e1, e2⟩ => ⟨e1, by subst e2; exact h, by subst e2; exact Upd.refl _ _⟩
  · injection hv with hv1 hv2 hv3
    subst hv1 hv3
    have hH : Holds (Value.int .i64) w g 0 L.toArray := holds_of_blockI hb (by simpa using h4)
    refine (Tryz.slices_Compact_int g 0 c L w hH (by have := h1; unfold maxLen at h2; omega) h1).mono fun _ _ ⟨e1, n, e2⟩ => ⟨e1, ?_, ?_⟩
    · subst e2
      have := ownsRow_sortedI (n := n) (os := #[]) (ts := Lib.compact L ++ List.replicate (L.length - (Lib.compact L).length) 0) (ss := L) (e := 3) (by simp; omega) hbase hb h1 h2 (by simpa using h3)
      rw [grow_empty] at this
      rcases this.2 with ⟨hv, h0⟩ | ⟨g', cap', cur', hv, hbase', hb', k1, k2, k3, k4⟩
      · cases hv
      · injection hv with hv1 hv2 hv3
        injection hv1 with hv1
        injection hv1 with hv1
        subst hv1 hv3
        refine ⟨by simp, .inr ⟨g, c, cur', rfl, hbase', hb', by omega, k2, k3, ?_⟩⟩
        have k5 : (cur'.toList.take (L.length * 1)).take (Lib.compact L).length = ((Lib.compact L ++ List.replicate (L.length - (Lib.compact L).length) 0).map I).take (Lib.compact L).length := by rw [k4]
        rw [List.take_take, List.map_append, List.take_left' (by simp), Nat.min_eq_left (by omega)] at k5
        rw [Nat.mul_one]
        exact k5
    · subst e2
      have := grownBy_sortedI (w := w) (g := g) (n := n) (os := #[]) (Lib.compact L ++ List.replicate (L.length - (Lib.compact L).length) 0).toArray
      rw [grow_empty] at this
      exact Upd.of_grown this (fun k hk => by simpa [Value.ownBlock] using hk)

/-- Numbers, rising, none twice. -/
def unionI (zs : List Int) : List Int := Lib.compact (sortI zs)
theorem unionI_le (zs : List Int) : (unionI zs).length ≤ zs.length := by
  have := compact_le (sortI zs)
  simpa [unionI, sortI] using this

theorem union_any {a : Option Addr} {rs : List SlM} {c : Nat} (w : World) (h : SlsIn w a rs) (hne : rs ≠ []) :
    Calls Tryz.prog 290 #[.slice a rs.length c] w fun e w' => ∃ a' c', e = .returned (.slice a' (unionI (flatL rs)).length c') ∧ OwnI w' w.heap.size 3 (.slice a' (unionI (flatL rs)).length c') (unionI (flatL rs)) ∧ Upd0 w w' := by
  have HC := Lib.hid (concat_any (c := c) w h hne)
  have hle : (flatL rs).length ≤ 1000000 := by
    have := totalL_le h rs.length
    rw [List.take_length] at this
    rw [totalL_flat]; exact this
  obtain ⟨L, hL⟩ : ∃ L, L = flatL rs := ⟨_, rfl⟩
  rw [← hL] at HC hle ⊢
  clear hL h hne
  have hsl : (sortI L).length = L.length := by simp [sortI]
  have HSL := Lib.hid hsl
  clear hsl
  go_enter Tryz.func290, Tryz.ntmps290
  go_wp2_with (go_at_call 341; fail)
  refine HC.out.mono ?_
  rintro e w1 ⟨a1, c1, rfl, ho, hu⟩
  simp only []
  go_wp2_with (go_at_call 124; fail)
  refine (sort_own w1 ho (by omega)).mono ?_
  rintro e w2 ⟨rfl, ho2, hu2⟩
  simp only []
  go_wp2_with (go_at_call 342; fail)
  have hc2 := compact_own w2 ho2
  rw [HSL.out] at hc2
  refine hc2.mono ?_
  rintro e w3 ⟨rfl, ho3, hu3⟩
  simp only []
  go_wp2
  go_ret
  exact ⟨a1, c1, rfl, ho3, (hu.step hu2 (fun k hk e => by have := (ho.lt k e).1; omega)).step hu3 (fun k hk e => by have := (ho.lt k (by simpa [Value.ownBlock] using e)).1; omega)⟩
end Go.Proofs.YtbonfdkgkcbkmaaGreat
end

section
namespace Go.Proofs.YtbonfdkgkcbkmaaGreat
set_option maxRecDepth 100000
set_option maxRecDepth 100000
open Go.RowKit

/-- The sources of an operator, those ahead of it being known. -/
def srcOf (T : List (List Int)) (o : OpM) : List Int := if o.tag = 1 then [o.a] else unionI (o.ins.flatMap fun k => T.getD k.toNat [])
def srcT (os : List OpM) : List (List Int) := os.foldl (fun T o => T ++ [srcOf T o]) []
def srcs (os : List OpM) (i : Nat) : List Int := (srcT os).getD i []
theorem srcT_snoc (os : List OpM) (o : OpM) : srcT (os ++ [o]) = srcT os ++ [srcOf (srcT os) o] := by simp [srcT, List.foldl_append]
theorem rev_ind {α : Type} {P : List α → Prop} (h0 : P []) (h1 : ∀ l x, P l → P (l ++ [x])) : ∀ l, P l := by
  have h : ∀ l : List α, P l.reverse := by
    intro l
    induction l with
    | nil => exact h0
    | cons x l ih => rw [List.reverse_cons]; exact h1 _ _ ih
  intro l
  have := h l.reverse
  rwa [List.reverse_reverse] at this
theorem srcT_length (os : List OpM) : (srcT os).length = os.length := by
  refine rev_ind (P := fun os => (srcT os).length = os.length) rfl (fun l o ih => ?_) os
  rw [srcT_snoc, List.length_append, ih]; simp
theorem srcT_append (l r : List OpM) : ∃ t, srcT (l ++ r) = srcT l ++ t := by
  refine rev_ind (P := fun r => ∃ t, srcT (l ++ r) = srcT l ++ t) ⟨[], by simp⟩ (fun r o ih => ?_) r
  obtain ⟨t, ht⟩ := ih
  rw [← List.append_assoc, srcT_snoc, ht]
  exact ⟨t ++ [srcOf (srcT l ++ t) o], by simp⟩
theorem srcT_take (os : List OpM) (i k : Nat) (hk : k < i) (hi : i ≤ os.length) : (srcT (os.take i)).getD k [] = srcs os k := by
  obtain ⟨t, ht⟩ := srcT_append (os.take i) (os.drop i)
  rw [List.take_append_drop] at ht
  unfold srcs
  rw [ht, List.getD_eq_getElem?_getD, List.getD_eq_getElem?_getD, List.getElem?_append_left (by rw [srcT_length, List.length_take]; omega)]
theorem srcs_at {os : List OpM} {i : Nat} {o : OpM} (h : os[i]? = some o) : srcs os i = srcOf (srcT (os.take i)) o := by
  obtain ⟨h1, h2⟩ := List.getElem?_eq_some_iff.1 h
  have e := srcT_snoc (os.take i) o
  have e2 : os.take i ++ [o] = os.take (i + 1) := by rw [List.take_succ_eq_append_getElem h1, h2]
  rw [e2] at e
  rw [← srcT_take os (i + 1) i (by omega) (by omega), e, List.getD_eq_getElem?_getD, List.getElem?_append_right (by rw [srcT_length, List.length_take]; omega), srcT_length, List.length_take, Nat.min_eq_left (by omega)]
  simp
theorem srcs_eq' {os : List OpM} {i : Nat} {o : OpM} (h : os[i]? = some o) (hk : ∀ k ∈ o.ins, 0 ≤ k ∧ k < i) : srcs os i = if o.tag = 1 then [o.a] else unionI (o.ins.flatMap fun k => srcs os k.toNat) := by
  rw [srcs_at h, srcOf]
  split
  · rfl
  · congr 1
    have hl := (List.getElem?_eq_some_iff.1 h).1
    revert hk
    generalize o.ins = l
    intro hk
    induction l with
    | nil => rfl
    | cons x l ih =>
      rw [List.flatMap_cons, List.flatMap_cons, ih (fun k hk' => hk k (List.mem_cons_of_mem _ hk'))]
      have := hk x (List.mem_cons_self ..)
      rw [srcT_take os i x.toNat (by omega) (by omega)]
/-- Operators that read those ahead of them alone. -/
structure WfOps (os : List OpM) (n : Nat) : Prop where
  len : n ≤ os.length
  small : n ≤ 8
  ins : ∀ j o, j < n → os[j]? = some o → (o.tag = 1 ∨ o.ins ≠ []) ∧ (∀ k ∈ o.ins, 0 ≤ k ∧ k < j) ∧ o.ins.length ≤ 8
  pow : ∀ j, j < n → 0 < (srcs os j).length ∧ (srcs os j).length ≤ 2 ^ j
theorem WfOps.src {os : List OpM} {n : Nat} (h : WfOps os n) : ∀ j, j < n → 0 < (srcs os j).length ∧ (srcs os j).length ≤ 1000 := fun j hj => by
  have h1 := h.pow j hj
  have h2 : 2 ^ j ≤ 2 ^ 8 := Nat.pow_le_pow_right (by omega) (by have := h.small; omega)
  omega
theorem WfOps.low {os : List OpM} {n m : Nat} (h : WfOps os n) (hm : m ≤ n) : WfOps os m := ⟨Nat.le_trans hm h.len, Nat.le_trans hm h.small, fun j o hj => h.ins j o (by omega), fun j hj => h.pow j (by omega)⟩
theorem srcs_eq {os : List OpM} {n i : Nat} {o : OpM} (hw : WfOps os n) (hi : i < n) (h : os[i]? = some o) : srcs os i = if o.tag = 1 then [o.a] else unionI (o.ins.flatMap fun k => srcs os k.toNat) := srcs_eq' h (hw.ins i o hi h).2.1

theorem take_cons' {α : Type} {l : List α} {k : Nat} {z : α} (hz : l[k]? = some z) : l.take (k + 1) = l.take k ++ [z] := by
  obtain ⟨h1, h2⟩ := List.getElem?_eq_some_iff.1 hz
  rw [List.take_succ_eq_append_getElem h1, h2]
theorem Row.of_own {w : World} {B : Nat} {e : TypeId} {a : Option Addr} {n c : Nat} {vs : List Value} (h : w.ownsRow B e 1 (.slice a n c) n vs) (hl : vs.length = n) : Row 1 w a (vs.map fun v => [v]) := by
  intro i x hx
  rw [List.getElem?_map, Option.map_eq_some_iff] at hx
  obtain ⟨v, hv, rfl⟩ := hx
  obtain ⟨g, e1, hc⟩ := row_cell h (by omega) hv
  refine ⟨rfl, g, 0, e1, fun t u hu => ?_⟩
  match t, hu with
  | 0, hu =>
    simp at hu
    subst hu
    simpa using hc
theorem OpsIn.at {w : World} {a : Option Addr} {os : List OpM} (h : OpsIn w a os) {i : Nat} {o : OpM} (hi : os[i]? = some o) : (∃ b f, a = some ⟨b, f, none⟩ ∧ w.cell? ⟨b, f + i * 5, none⟩ = some (.int .i64 o.tag) ∧ w.cell? ⟨b, f + i * 5 + 1, none⟩ = some (.int .i64 o.width) ∧ w.cell? ⟨b, f + i * 5 + 2, none⟩ = some (.slice o.ia o.ins.length o.ic) ∧ w.cell? ⟨b, f + i * 5 + 3, none⟩ = some (.int .i64 o.a) ∧ w.cell? ⟨b, f + i * 5 + 4, none⟩ = some (.int .i64 o.b)) ∧ IntsIn w o.ia o.ins ∧ o.ins.length ≤ 140737488351232 := by
  obtain ⟨_, b, f, e, hc⟩ := h.row i o.cells (by rw [List.getElem?_map, hi]; rfl)
  have h0 := hc 0 _ rfl
  have h1 := hc 1 _ rfl
  have h2 := hc 2 _ rfl
  have h3 := hc 3 _ rfl
  have h4 := hc 4 _ rfl
  simp only [Nat.add_zero, ← Nat.add_assoc] at h0 h1 h2 h3 h4
  exact ⟨⟨b, f, e, h0, h1, h2, h3, h4⟩, h.ins o (List.mem_of_getElem? hi)⟩

/-- What holds between the rounds of sources. -/
structure SrcAt (os : List OpM) (w : World) (ins : List Int) (k : Nat) (rs : List SlM) (a2 : Option Addr) (c2 : Nat) (wr : World) : Prop where
  row : wr.ownsRow w.heap.size 75 1 (.slice a2 k c2) k (rs.map SlM.v)
  len : rs.length = k
  val : rs.map (·.l) = (ins.take k).map fun k => srcs os k.toNat
  each : ∀ r ∈ rs, OwnI wr w.heap.size 3 r.v r.l ∧ 0 < r.l.length ∧ r.l.length ≤ 1000
  upd : Upd0 w wr
theorem SrcAt.start (os : List OpM) (w : World) (ins : List Int) : SrcAt os w ins 0 [] none 0 w := ⟨World.ownsRow_nil _ _ _ _, rfl, by simp, fun r hr => by simp at hr, Upd.refl _ w⟩

theorem types_apart {w : World} {B B' : Nat} {e e' : TypeId} {s s' n n' : Nat} {v v' : Value} {xs xs' : List Value} (h : w.ownsRow B e s v n xs) (h' : w.ownsRow B' e' s' v' n' xs') (he : e ≠ e') : ∀ k, v.ownBlock = some k → ¬ v'.ownBlock = some k := fun k hk hk' => by
  obtain ⟨c, hc⟩ := ownsRow_block h hk
  obtain ⟨c', hc'⟩ := ownsRow_block h' hk'
  rw [hc] at hc'
  injection hc' with hc'
  injection hc' with _ hc'
  exact he hc'
theorem SrcAt.snoc {os : List OpM} {w wr w4 w5 : World} {ins : List Int} {k zn : Nat} {rs : List SlM} {a2 a3 : Option Addr} {c2 c3 g cap : Nat} (h : SrcAt os w ins k rs a2 c2 wr) (hz : ins[k]? = some (zn : Int)) (hb : 0 < (srcs os zn).length ∧ (srcs os zn).length ≤ 1000)
    (ho3 : OwnI w4 wr.heap.size 3 (.slice a3 (srcs os zn).length c3) (srcs os zn)) (hu3 : Upd0 wr w4) (hown : w5.ownsRow w.heap.size 75 1 (.slice (some ⟨g, 0, none⟩) (k + 1) cap) (k + 1) (rs.map SlM.v ++ [.slice a3 (srcs os zn).length c3]))
    (hu5 : Upd (fun j => (Value.slice a2 k c2).ownBlock = some j) w4 w5) : SrcAt os w ins (k + 1) (rs ++ [⟨a3, c3, srcs os zn⟩]) (some ⟨g, 0, none⟩) cap w5 := by
  have hrow4 := ownsRow_any h.row hu3 (fun _ _ e => e)
  have hk : ∀ {v l}, OwnI w4 w.heap.size 3 v l → OwnI w5 w.heap.size 3 v l := fun {v l} ho => ownsRow_any ho hu5 (types_apart ho hrow4 (by decide))
  refine ⟨by rw [List.map_append]; exact hown, by rw [List.length_append, h.len]; rfl, ?_, fun r hr => ?_, (h.upd.trans hu3).step hu5 (fun j hj e => by have := (h.row.lt j e).1; omega)⟩
  · rw [take_cons' hz, List.map_append, List.map_append, h.val]
    simp
  · rcases List.mem_append.1 hr with hr | hr
    · exact ⟨hk (ownsRow_any (h.each r hr).1 hu3 (fun _ _ e => e)), (h.each r hr).2⟩
    · simp only [List.mem_singleton] at hr
      subst hr
      exact ⟨hk (ownsRow_low ho3 h.upd.size), hb⟩
theorem SrcAt.sls {os : List OpM} {w wr : World} {ins : List Int} {k : Nat} {rs : List SlM} {a2 : Option Addr} {c2 : Nat} (h : SrcAt os w ins k rs a2 c2 wr) (hk : k ≤ 1000) : SlsIn wr a2 rs :=
  ⟨by have := Row.of_own h.row (by rw [List.length_map, h.len]); rwa [List.map_map] at this, fun r hr => ⟨(h.each r hr).1.in', (h.each r hr).2⟩, by rw [h.len]; exact hk⟩

set_option maxHeartbeats 2000000 in
theorem sources1_any {os : List OpM} {oa : Option Addr} {oc : Nat} {gb fb : Nat} : ∀ (n : Nat) (i : Nat) (w : World), i < n → WfOps os n → OpsIn w oa os → w.heap[gb]? = some (.cells #[.slice oa os.length oc] 24 (0, 0)) →
    w.heap[fb]? = some (.cells #[.func (.func 289) #[] #[.pointer (some ⟨gb, 0, none⟩), .pointer (some ⟨fb, 0, none⟩)]] 372 (0, 0)) → os.length ≤ 140737488351232 →
    Calls Tryz.prog 289 #[.int .i64 i, .pointer (some ⟨gb, 0, none⟩), .pointer (some ⟨fb, 0, none⟩)] w fun e w' => ∃ a c, e = .returned (.slice a (srcs os i).length c) ∧ OwnI w' w.heap.size 3 (.slice a (srcs os i).length c) (srcs os i) ∧ Upd0 w w' := by
  intro n
  induction n with
  | zero => intro i w h; omega
  | succ n ih =>
    intro i w hi hwf hops hg hf hol
    have hil : i < os.length := Nat.lt_of_lt_of_le hi hwf.len
    obtain ⟨o, ho⟩ : ∃ o, os[i]? = some o := ⟨_, List.getElem?_eq_getElem hil⟩
    have HSE := Lib.hid (srcs_eq hwf hi ho)
    obtain ⟨hn1, hn2, hn3⟩ := hwf.ins i o hi ho
    have HWF := Lib.hid hwf; have HOPS := Lib.hid hops; have HG := Lib.hid hg; have HF := Lib.hid hf; have HN2 := Lib.hid hn2
    obtain ⟨⟨b, f, rfl, c0, c1, c2, c3, c4⟩, h1, h2⟩ := hops.at ho
    have HI := Lib.hid h1
    have d0 := cells1_of hg
    by_cases ht : o.tag = 1
    · rw [ht] at c0
      rw [if_pos ht] at HSE
      clear hwf hops hg hf hn1 hn2 ho h1
      go_enter Tryz.func289, Tryz.ntmps289
      go_wp2
      go_ret
      refine ⟨some ⟨w.heap.size, 0, none⟩, 1, by rw [HSE.out]; rfl, ?_, (Upd.refl _ w).alloc _⟩
      rw [HSE.out]
      exact ⟨rfl, .inr ⟨w.heap.size, 1, _, rfl, Nat.le_refl _, alloc_at rfl, Nat.le_refl _, by unfold maxLen; omega, rfl, rfl⟩⟩
    · have ht' : (o.tag == 1) = false := by simpa using ht
      rw [if_neg ht] at HSE
      have hne : o.ins ≠ [] := hn1.resolve_left ht
      clear hwf hops hg hf hn1 hn2 ho h1
      go_enter Tryz.func289, Tryz.ntmps289
      go_wp2
      clear c0 c1 c2 c3 c4 d0
      go_loopw [5, 29] (fun t j wr => ∃ (k : Nat) (rs : List SlM) (a2 : Option Addr) (c2 : Nat), k ≤ o.ins.length ∧ j = .int .i64 k ∧ t = .slice a2 k c2 ∧ Hid (SrcAt os w o.ins k rs a2 c2 wr)) (fun _ j _ => o.ins.length - (intOf j).toNat)
      case atStart => exact ⟨0, [], none, 0, Nat.zero_le _, rfl, rfl, Lib.hid (SrcAt.start os w o.ins)⟩
      case round =>
        obtain ⟨k, rs, a2, c2, hk, rfl, rfl, HD⟩ := hrel
        by_cases hlt : k < o.ins.length
        · obtain ⟨z, hz⟩ : ∃ z, o.ins[k]? = some z := ⟨_, List.getElem?_eq_getElem hlt⟩
          have HU := Lib.hid HD.out.upd
          obtain ⟨b1, o1, hia, hc⟩ := (HI.out.kept HU.out).cell hz
          have hzb := HN2.out z (List.mem_of_getElem? hz)
          obtain ⟨zn, rfl⟩ : ∃ zn : Nat, z = zn := ⟨z.toNat, by omega⟩
          have HIH := Lib.hid (ih zn wr (by omega) (HWF.out.low (by omega)) (HOPS.out.kept HU.out) ((HU.out.block _ (lt_of_heap HG.out) (fun e => e)).trans HG.out) ((HU.out.block _ (lt_of_heap HF.out) (fun e => e)).trans HF.out) hol)
          have HSB := Lib.hid (HWF.out.src zn (by omega))
          have d1 := cells1_of ((HU.out.block _ (lt_of_heap HF.out) (fun e => e)).trans HF.out)
          have HZ := Lib.hid hz
          clear hz hzb
          rw [hia] at HI ⊢
          clear hia
          go_wp2_with (go_at_call 289; fail)
          refine HIH.out.mono ?_
          rintro e w4 ⟨a3, c3, rfl, ho3, hu3⟩
          have HO3 := Lib.hid ho3; have HU3 := Lib.hid hu3
          have HR4 := Lib.hid (ownsRow_any HD.out.row hu3 (fun _ _ e => e))
          have HZ4 := Lib.hid (show w.heap.size ≤ w4.heap.size from Nat.le_trans HU.out.size hu3.size)
          clear ho3 hu3 HIH hc d1
          simp only []
          go_wp2_with (at_builtin; obtain ⟨i0, hi, hz0, hs, hb⟩ := info_parts Tryz.info32p; refine wpList_app1 w4 rfl (.tmp 33) (.tmp 37) 373 rfl w.heap.size 75 i0 (.slice none 0 0) 1 24 Tryz.underlying373 hi hz0 hs hb rfl (by decide) (.slice a2 k c2) k (rs.map SlM.v) rfl HR4.out [.slice a3 (srcs os zn).length c3] 75 rfl rfl (by simp [Value.oneCell']) (by unfold maxLen; omega) (by omega) HZ4.out ?_; clear hi hz0 hs hb; intro g cap w5 hown hu5 _ _)
          have HD5 := Lib.hid (HD.out.snoc HZ.out HSB.out HO3.out HU3.out hown hu5)
          clear hown hu5
          go_wp2
          go_roundw
          case rel => exact ⟨k + 1, _, _, _, by omega, by go_num, rfl, HD5⟩
          case measure => simp [intOf]; omega
        · obtain rfl : k = o.ins.length := by omega
          have hls := HD.out.len
          have HUN := Lib.hid (union_any (c := c2) wr (HD.out.sls (by omega)) (fun e => hne (by rw [e] at hls; exact List.length_eq_zero_iff.1 hls.symm)))
          have HFL := Lib.hid (show flatL rs = o.ins.flatMap fun k => srcs os k.toNat by
            have := HD.out.val
            rw [List.take_length] at this
            rw [flatL, List.flatMap_def, this, ← List.flatMap_def])
          rw [HD.out.len, HFL.out, ← HSE.out] at HUN
          go_wp2_with (go_at_call 290; fail)
          refine HUN.out.mono ?_
          rintro e w4 ⟨a3, c3, rfl, ho3, hu3⟩
          simp only []
          go_wp2
          go_ret
          exact ⟨a3, c3, rfl, ownsRow_low ho3 HD.out.upd.size, HD.out.upd.trans hu3⟩

attribute [local go_sem] run_store_func
/-- The sources of an operator. -/
theorem sources_any {os : List OpM} {oa : Option Addr} {oc n i : Nat} (w : World) (hi : i < n) (hwf : WfOps os n) (hops : OpsIn w oa os) (hol : os.length ≤ 140737488351232) :
    Calls Tryz.prog 216 #[.agg #[.slice oa os.length oc], .int .i64 i] w fun e w' => ∃ a c, e = .returned (.slice a (srcs os i).length c) ∧ OwnI w' w.heap.size 3 (.slice a (srcs os i).length c) (srcs os i) ∧ Upd0 w w' := by
  obtain ⟨wb, hwb⟩ : ∃ wb, wb = (w.alloc (.cells #[.slice oa os.length oc] 24)).alloc (.cells #[.func (.func 289) #[] #[.pointer (some ⟨w.heap.size, 0, none⟩), .pointer (some ⟨w.heap.size + 1, 0, none⟩)]] 372) := ⟨_, rfl⟩
  have hu : Upd0 w wb := by rw [hwb]; exact ((Upd.refl _ w).alloc _).alloc _
  have hx1 : wb.heap[w.heap.size]? = some (.cells #[.slice oa os.length oc] 24 (0, 0)) := by rw [hwb]; exact (alloc_lt (by simp)).trans (alloc_at rfl)
  have hx2 : wb.heap[w.heap.size + 1]? = some (.cells #[.func (.func 289) #[] #[.pointer (some ⟨w.heap.size, 0, none⟩), .pointer (some ⟨w.heap.size + 1, 0, none⟩)]] 372 (0, 0)) := by rw [hwb]; exact alloc_at (by simp)
  have HC := Lib.hid (sources1_any n i wb hi hwf (hops.kept hu) hx1 hx2 hol)
  have HU := Lib.hid hu
  clear hu hx1 hx2 hwf hops
  go_enter Tryz.func216, Tryz.ntmps216
  go_wp2_with (go_at_call 289; fail)
  rw [← hwb]
  clear hwb
  refine HC.out.mono ?_
  rintro e w4 ⟨a3, c3, rfl, ho3, hu3⟩
  simp only []
  go_wp2
  go_ret
  exact ⟨a3, c3, rfl, ownsRow_low ho3 HU.out.size, HU.out.trans hu3⟩
end Go.Proofs.YtbonfdkgkcbkmaaGreat
end

section
namespace Go.Proofs.YtbonfdkgkcbkmaaGreat
set_option maxRecDepth 100000
set_option maxRecDepth 100000
open Go.RowKit

def idxFrom {α : Type} (p : α → Bool) : List α → Nat → Int
  | [], _ => -1
  | z :: r, k => if p z then k else idxFrom p r (k + 1)
def idxP {α : Type} (p : α → Bool) (l : List α) : Int := idxFrom p l 0
theorem idxFrom_any {α : Type} (p : α → Bool) : ∀ (l : List α) (k : Nat), decide (0 ≤ idxFrom p l k) = l.any p
  | [], k => rfl
  | z :: r, k => by
    simp only [idxFrom, List.any_cons]
    by_cases h : p z = true
    · simp [h]
    · simp only [h, if_false, Bool.false_or]
      simpa [h] using idxFrom_any p r (k + 1)
theorem drop_cons' {α : Type} {l : List α} {k : Nat} {z : α} (hz : l[k]? = some z) : l.drop k = z :: l.drop (k + 1) := by
  obtain ⟨h1, h2⟩ := List.getElem?_eq_some_iff.1 hz
  rw [List.drop_eq_getElem_cons h1, h2]
theorem RecsIn.at {w : World} {a : Option Addr} {l : List RecV} (h : RecsIn w a l) {i : Nat} {r : RecV} (hi : l[i]? = some r) : ∃ b f, a = some ⟨b, f, none⟩ ∧ w.cell? ⟨b, f + i * 3, none⟩ = some (.int .i64 r.src) ∧ w.cell? ⟨b, f + i * 3 + 1, none⟩ = some (.int .i64 r.key) ∧ w.cell? ⟨b, f + i * 3 + 2, none⟩ = some (.int .i64 r.val) := by
  obtain ⟨_, b, f, e, hc⟩ := h i r.cells (by rw [List.getElem?_map, hi]; rfl)
  have h0 := hc 0 _ rfl
  have h1 := hc 1 _ rfl
  have h2 := hc 2 _ rfl
  simp only [Nat.add_zero, ← Nat.add_assoc] at h0 h1 h2
  exact ⟨b, f, e, h0, h1, h2⟩

set_option maxHeartbeats 1000000 in
theorem idxfI_any {a : Option Addr} {l : List Int} {c g : Nat} {lb : Array Value} {p : Int → Bool} (w : World) (h : IntsIn w a l) (hl : l.length ≤ 140737488351232) (eg : ∀ args w, (callFunc g args).run Tryz.prog w = .ok (.enter g args) w)
    (hc : ∀ z W, z ∈ l → Upd0 w W → Calls Tryz.prog g (#[.int .i64 z] ++ lb) W fun e w' => e = .returned (.bool (p z)) ∧ Upd0 W w') :
    Calls Tryz.prog 137 #[.slice a l.length c, .func (.func g) #[] lb] w fun e w' => e = .returned (.int .i64 (idxP p l)) ∧ Upd0 w w' := by
  have H := Lib.hid h; have HC := Lib.hid hc
  clear h hc
  go_enter Tryz.func137, Tryz.ntmps137
  go_wp2_with fail
  go_loopw [8] (fun i wr => ∃ k : Nat, k ≤ l.length ∧ i = .int .i64 k ∧ Hid (idxFrom p (l.drop k) k = idxP p l) ∧ Hid (Upd0 w wr)) (fun i _ => l.length - (intOf i).toNat)
  case atStart => exact ⟨0, Nat.zero_le _, rfl, Lib.hid rfl, Lib.hid (Upd.refl _ w)⟩
  case round =>
    obtain ⟨k, hk, rfl, hr, hu⟩ := hrel
    by_cases hlt : k < l.length
    · obtain ⟨z, hz⟩ : ∃ z, l[k]? = some z := ⟨_, List.getElem?_eq_getElem hlt⟩
      obtain ⟨b, o, rfl, c0⟩ := (H.out.kept hu.out).cell hz
      have HR : Hid (idxFrom p (z :: l.drop (k + 1)) k = idxP p l) := by rw [← drop_cons' hz]; exact hr
      have HZ := Lib.hid (HC.out z wr (List.mem_of_getElem? hz) hu.out)
      clear hr hz
      go_wp2_with fail
      refine HZ.out.mono ?_
      rintro e w2 ⟨rfl, hu2⟩
      have HU2 := Lib.hid (hu.out.trans hu2)
      clear hu2
      cases hp : p z
      · simp only []
        go_wp2
        go_roundw
        case rel => exact ⟨k + 1, by omega, by go_num, Lib.hid (by rw [← HR.out]; simp [idxFrom, hp]), HU2⟩
        case measure => simp [intOf]; omega
      · simp only []
        go_wp2
        go_ret
        exact ⟨ret_int (by rw [← HR.out]; simp [idxFrom, hp]), HU2.out⟩
    · go_wp2_with fail
      go_ret
      refine ⟨ret_int ?_, hu.out⟩
      rw [← hr.out, List.drop_of_length_le (by omega)]
      rfl
theorem containsfI_any {a : Option Addr} {l : List Int} {c g : Nat} {lb : Array Value} {p : Int → Bool} (w : World) (h : IntsIn w a l) (hl : l.length ≤ 140737488351232) (eg : ∀ args w, (callFunc g args).run Tryz.prog w = .ok (.enter g args) w)
    (hc : ∀ z W, z ∈ l → Upd0 w W → Calls Tryz.prog g (#[.int .i64 z] ++ lb) W fun e w' => e = .returned (.bool (p z)) ∧ Upd0 W w') :
    Calls Tryz.prog 144 #[.slice a l.length c, .func (.func g) #[] lb] w fun e w' => e = .returned (.bool (l.any p)) ∧ Upd0 w w' := by
  have HC := Lib.hid (idxfI_any (c := c) w h hl eg hc)
  have HA := Lib.hid (idxFrom_any p l 0)
  clear h hc eg
  go_enter Tryz.func144, Tryz.ntmps144
  go_wp2_with (go_at_call 137; refine HC.out.mono ?_; rintro e w' ⟨rfl, hu⟩)
  go_ret
  exact ⟨ret_bool HA.out, hu⟩

set_option maxHeartbeats 1000000 in
theorem idxfR_any {a : Option Addr} {l : List RecV} {c g : Nat} {lb : Array Value} {p : RecV → Bool} (w : World) (h : RecsIn w a l) (hl : l.length ≤ 140737488351232) (eg : ∀ args w, (callFunc g args).run Tryz.prog w = .ok (.enter g args) w)
    (hc : ∀ z W, z ∈ l → Upd0 w W → Calls Tryz.prog g (#[.agg #[.int .i64 z.src, .int .i64 z.key, .int .i64 z.val]] ++ lb) W fun e w' => e = .returned (.bool (p z)) ∧ Upd0 W w') :
    Calls Tryz.prog 268 #[.slice a l.length c, .func (.func g) #[] lb] w fun e w' => e = .returned (.int .i64 (idxP p l)) ∧ Upd0 w w' := by
  have H := Lib.hid h; have HC := Lib.hid hc
  clear h hc
  go_enter Tryz.func268, Tryz.ntmps268
  go_wp2_with fail
  go_loopw [8] (fun i wr => ∃ k : Nat, k ≤ l.length ∧ i = .int .i64 k ∧ Hid (idxFrom p (l.drop k) k = idxP p l) ∧ Hid (Upd0 w wr)) (fun i _ => l.length - (intOf i).toNat)
  case atStart => exact ⟨0, Nat.zero_le _, rfl, Lib.hid rfl, Lib.hid (Upd.refl _ w)⟩
  case round =>
    obtain ⟨k, hk, rfl, hr, hu⟩ := hrel
    by_cases hlt : k < l.length
    · obtain ⟨z, hz⟩ : ∃ z, l[k]? = some z := ⟨_, List.getElem?_eq_getElem hlt⟩
      obtain ⟨b, o, rfl, c0, c1, c2⟩ := (H.out.kept hu.out).at hz
      have HR : Hid (idxFrom p (z :: l.drop (k + 1)) k = idxP p l) := by rw [← drop_cons' hz]; exact hr
      have HZ := Lib.hid (HC.out z wr (List.mem_of_getElem? hz) hu.out)
      clear hr hz
      go_wp2_with fail
      refine HZ.out.mono ?_
      rintro e w2 ⟨rfl, hu2⟩
      have HU2 := Lib.hid (hu.out.trans hu2)
      clear hu2
      cases hp : p z
      · simp only []
        go_wp2
        go_roundw
        case rel => exact ⟨k + 1, by omega, by go_num, Lib.hid (by rw [← HR.out]; simp [idxFrom, hp]), HU2⟩
        case measure => simp [intOf]; omega
      · simp only []
        go_wp2
        go_ret
        exact ⟨ret_int (by rw [← HR.out]; simp [idxFrom, hp]), HU2.out⟩
    · go_wp2_with fail
      go_ret
      refine ⟨ret_int ?_, hu.out⟩
      rw [← hr.out, List.drop_of_length_le (by omega)]
      rfl
theorem containsfR_any {a : Option Addr} {l : List RecV} {c g : Nat} {lb : Array Value} {p : RecV → Bool} (w : World) (h : RecsIn w a l) (hl : l.length ≤ 140737488351232) (eg : ∀ args w, (callFunc g args).run Tryz.prog w = .ok (.enter g args) w)
    (hc : ∀ z W, z ∈ l → Upd0 w W → Calls Tryz.prog g (#[.agg #[.int .i64 z.src, .int .i64 z.key, .int .i64 z.val]] ++ lb) W fun e w' => e = .returned (.bool (p z)) ∧ Upd0 W w') :
    Calls Tryz.prog 203 #[.slice a l.length c, .func (.func g) #[] lb] w fun e w' => e = .returned (.bool (l.any p)) ∧ Upd0 w w' := by
  have HC := Lib.hid (idxfR_any (c := c) w h hl eg hc)
  have HA := Lib.hid (idxFrom_any p l 0)
  clear h hc eg
  go_enter Tryz.func203, Tryz.ntmps203
  go_wp2_with (go_at_call 268; refine HC.out.mono ?_; rintro e w' ⟨rfl, hu⟩)
  go_ret
  exact ⟨ret_bool HA.out, hu⟩

set_option maxHeartbeats 1000000 in
theorem idxfO_any {a : Option Addr} {l : List OpM} {c g : Nat} {lb : Array Value} {p : OpM → Bool} (w : World) (h : OpsIn w a l) (hl : l.length ≤ 140737488351232) (eg : ∀ args w, (callFunc g args).run Tryz.prog w = .ok (.enter g args) w)
    (hc : ∀ z W, z ∈ l → Upd0 w W → Calls Tryz.prog g (#[.agg #[.int .i64 z.tag, .int .i64 z.width, .slice z.ia z.ins.length z.ic, .int .i64 z.a, .int .i64 z.b]] ++ lb) W fun e w' => e = .returned (.bool (p z)) ∧ Upd0 W w') :
    Calls Tryz.prog 298 #[.slice a l.length c, .func (.func g) #[] lb] w fun e w' => e = .returned (.int .i64 (idxP p l)) ∧ Upd0 w w' := by
  have H := Lib.hid h; have HC := Lib.hid hc
  clear h hc
  go_enter Tryz.func298, Tryz.ntmps298
  go_wp2_with fail
  go_loopw [8] (fun i wr => ∃ k : Nat, k ≤ l.length ∧ i = .int .i64 k ∧ Hid (idxFrom p (l.drop k) k = idxP p l) ∧ Hid (Upd0 w wr)) (fun i _ => l.length - (intOf i).toNat)
  case atStart => exact ⟨0, Nat.zero_le _, rfl, Lib.hid rfl, Lib.hid (Upd.refl _ w)⟩
  case round =>
    obtain ⟨k, hk, rfl, hr, hu⟩ := hrel
    by_cases hlt : k < l.length
    · obtain ⟨z, hz⟩ : ∃ z, l[k]? = some z := ⟨_, List.getElem?_eq_getElem hlt⟩
      obtain ⟨⟨b, o, rfl, c0, c1, c2, c3, c4⟩, _, _⟩ := (H.out.kept hu.out).at hz
      have HR : Hid (idxFrom p (z :: l.drop (k + 1)) k = idxP p l) := by rw [← drop_cons' hz]; exact hr
      have HZ := Lib.hid (HC.out z wr (List.mem_of_getElem? hz) hu.out)
      clear hr hz
      go_wp2_with fail
      refine HZ.out.mono ?_
      rintro e w2 ⟨rfl, hu2⟩
      have HU2 := Lib.hid (hu.out.trans hu2)
      clear hu2
      cases hp : p z
      · simp only []
        go_wp2
        go_roundw
        case rel => exact ⟨k + 1, by omega, by go_num, Lib.hid (by rw [← HR.out]; simp [idxFrom, hp]), HU2⟩
        case measure => simp [intOf]; omega
      · simp only []
        go_wp2
        go_ret
        exact ⟨ret_int (by rw [← HR.out]; simp [idxFrom, hp]), HU2.out⟩
    · go_wp2_with fail
      go_ret
      refine ⟨ret_int ?_, hu.out⟩
      rw [← hr.out, List.drop_of_length_le (by omega)]
      rfl
theorem containsfO_any {a : Option Addr} {l : List OpM} {c g : Nat} {lb : Array Value} {p : OpM → Bool} (w : World) (h : OpsIn w a l) (hl : l.length ≤ 140737488351232) (eg : ∀ args w, (callFunc g args).run Tryz.prog w = .ok (.enter g args) w)
    (hc : ∀ z W, z ∈ l → Upd0 w W → Calls Tryz.prog g (#[.agg #[.int .i64 z.tag, .int .i64 z.width, .slice z.ia z.ins.length z.ic, .int .i64 z.a, .int .i64 z.b]] ++ lb) W fun e w' => e = .returned (.bool (p z)) ∧ Upd0 W w') :
    Calls Tryz.prog 227 #[.slice a l.length c, .func (.func g) #[] lb] w fun e w' => e = .returned (.bool (l.any p)) ∧ Upd0 w w' := by
  have HC := Lib.hid (idxfO_any (c := c) w h hl eg hc)
  have HA := Lib.hid (idxFrom_any p l 0)
  clear h hc eg
  go_enter Tryz.func227, Tryz.ntmps227
  go_wp2_with (go_at_call 298; refine HC.out.mono ?_; rintro e w' ⟨rfl, hu⟩)
  go_ret
  exact ⟨ret_bool HA.out, hu⟩
end Go.Proofs.YtbonfdkgkcbkmaaGreat
end

section
namespace Go.Proofs.YtbonfdkgkcbkmaaGreat
set_option maxRecDepth 100000
set_option maxRecDepth 100000
open Go.RowKit

def badRec (src : Int) (r : RecV) : Bool := (chkRec r != 0) || (r.src != src)
theorem checkinput1_any {xb n c : Nat} {ra : Option Addr} {src : Int} {r : RecV} (w : World) (h : w.heap[xb]? = some (.cells #[.int .i64 src, .slice ra n c] 41 (0, 0))) :
    Calls Tryz.prog 204 #[.agg #[.int .i64 r.src, .int .i64 r.key, .int .i64 r.val], .pointer (some ⟨xb, 0, none⟩)] w fun e w' => e = .returned (.bool (badRec src r)) ∧ Upd0 w w' := by
  obtain ⟨c0, c1⟩ := cells2_of h
  have hl := lt_of_heap h
  have hl2 : xb < w.heap.size + 1 := by omega
  have hn : xb ≠ w.heap.size := by omega
  have HB := Lib.hid (badRec.eq_1 src r)
  clear h
  cases hz : (chkRec r != 0)
  all_goals
    rw [hz] at HB
    go_enter Tryz.func204, Tryz.ntmps204
    go_wp2_with (go_at_call 142; (with_reducible refine (reccheck_any r _).mono ?_); rintro e w' ⟨rfl, hu⟩; obtain ⟨hc, hf⟩ := hu.get)
    go_ret
    exact ⟨ret_bool (by rw [HB.out]; simp), ((Upd.refl _ w).alloc _).trans hu⟩

structure InV where
  src : Int
  recs : List RecV
def InM.v (x : InM) : InV := ⟨x.src, x.recs⟩
/-- Why an input may not be. -/
def chkIn (x : InM) : Int := if 40 < x.recs.length ∨ x.src < 0 ∨ 8 ≤ x.src ∨ x.recs.any (badRec x.src) = true then 170 else 0
theorem checkinput_any (x : InM) (w : World) (h : RecsIn w x.ra x.recs) (hl : x.recs.length ≤ 140737488351232) :
    Calls Tryz.prog 123 #[.agg #[.int .i64 x.src, .slice x.ra x.recs.length x.rc]] w fun e w' => e = .returned (.int .i64 (chkIn x)) ∧ Upd0 w w' := by
  have HE := Lib.hid (chkIn.eq_1 x)
  obtain ⟨wb, hwb⟩ : ∃ wb, wb = w.alloc (.cells #[.int .i64 x.src, .slice x.ra x.recs.length x.rc] 41) := ⟨_, rfl⟩
  have hu : Upd0 w wb := by rw [hwb]; exact (Upd.refl _ w).alloc _
  have hx1 : wb.heap[w.heap.size]? = some (.cells #[.int .i64 x.src, .slice x.ra x.recs.length x.rc] 41 (0, 0)) := by rw [hwb]; exact alloc_at rfl
  have HC := Lib.hid (containsfR_any (c := x.rc) (g := 204) (lb := #[.pointer (some ⟨w.heap.size, 0, none⟩)]) (p := badRec x.src) wb (h.kept hu) hl (enters_of Tryz.func204 (by kernel_rfl) rfl) (fun z W hz hW => checkinput1_any W ((hW.block _ (lt_of_heap hx1) (fun e => e)).trans hx1)))
  have HU := Lib.hid hu
  rw [hwb] at HC HU
  clear h hu hx1 hwb
  by_cases h1 : 40 < x.recs.length
  · rw [if_pos (.inl h1)] at HE
    have h1' : (40 : Int) < x.recs.length := by omega
    go_enter Tryz.func123, Tryz.ntmps123
    go_wp2_with (fail)
    go_ret
    exact ⟨ret_int HE.out.symm, HU.out⟩
  by_cases h2 : x.src < 0
  · rw [if_pos (.inr (.inl h2))] at HE
    have h1' : ¬ (40 : Int) < x.recs.length := by omega
    go_enter Tryz.func123, Tryz.ntmps123
    go_wp2_with (fail)
    go_ret
    exact ⟨ret_int HE.out.symm, HU.out⟩
  by_cases h3 : 8 ≤ x.src
  · rw [if_pos (.inr (.inr (.inl h3)))] at HE
    have h1' : ¬ (40 : Int) < x.recs.length := by omega
    go_enter Tryz.func123, Tryz.ntmps123
    go_wp2_with (fail)
    go_ret
    exact ⟨ret_int HE.out.symm, HU.out⟩
  have h1' : ¬ (40 : Int) < x.recs.length := by omega
  cases ha : x.recs.any (badRec x.src)
  · rw [ha, if_neg (by simp; omega)] at HE
    rw [ha] at HC
    clear ha
    go_enter Tryz.func123, Tryz.ntmps123
    go_wp2_with (go_at_call 203; (with_reducible refine HC.out.mono ?_); rintro e w' ⟨rfl, hu2⟩)
    go_ret
    exact ⟨ret_int HE.out.symm, HU.out.trans hu2⟩
  · rw [ha, if_pos (by simp)] at HE
    rw [ha] at HC
    clear ha
    go_enter Tryz.func123, Tryz.ntmps123
    go_wp2_with (go_at_call 203; (with_reducible refine HC.out.mono ?_); rintro e w' ⟨rfl, hu2⟩)
    go_ret
    exact ⟨ret_int HE.out.symm, HU.out.trans hu2⟩

/-- How many records of a group. -/
def cnt (l : List RecV) (g : Nat) : Int := (l.filter fun r => r.key.toNat % 8 == g).length
theorem cnt_snoc (l : List RecV) (r : RecV) (g : Nat) : cnt (l ++ [r]) g = cnt l g + if r.key.toNat % 8 = g then 1 else 0 := by
  simp only [cnt, List.filter_append, List.length_append, List.filter_cons, List.filter_nil, beq_iff_eq]
  split <;> simp
theorem cnt_le (l : List RecV) (g : Nat) : 0 ≤ cnt l g ∧ cnt l g ≤ l.length := by
  have := List.length_filter_le (fun r : RecV => r.key.toNat % 8 == g) l
  simp only [cnt]
  omega
def totT (l : List RecV) : List Int := [cnt l 0, cnt l 1, cnt l 2, cnt l 3, cnt l 4, cnt l 5, cnt l 6, cnt l 7]
theorem totT_at (l : List RecV) {g : Nat} (h : g < 8) : (totT l)[g]? = some (cnt l g) := by
  match g, h with
  | 0, _ => rfl
  | 1, _ => rfl
  | 2, _ => rfl
  | 3, _ => rfl
  | 4, _ => rfl
  | 5, _ => rfl
  | 6, _ => rfl
  | 7, _ => rfl
theorem totT_snoc (l : List RecV) (r : RecV) : totT (l ++ [r]) = (totT l).set (r.key.toNat % 8) (cnt l (r.key.toNat % 8) + 1) := by
  have h : r.key.toNat % 8 < 8 := Nat.mod_lt _ (by omega)
  simp only [totT, cnt_snoc]
  generalize r.key.toNat % 8 = g at h
  match g, h with
  | 0, _ => simp
  | 1, _ => simp
  | 2, _ => simp
  | 3, _ => simp
  | 4, _ => simp
  | 5, _ => simp
  | 6, _ => simp
  | 7, _ => simp

/-- What holds between the rounds of total. -/
structure TotAt (wb : World) (tb : Nat) (l : List RecV) (W : World) : Prop where
  cells : W.heap[tb]? = some (.cells ((totT l).map I).toArray 43 (0, 0))
  upd : Upd (fun k => k = tb) wb W
theorem Tryz.size43 : (Tryz.prog.info? 43).map (·.size) = some 8 := by kernel_rfl
set_option maxHeartbeats 1000000 in
theorem total_any (x : InM) (w : World) (h : RecsIn w x.ra x.recs) (hl : x.recs.length ≤ 40) (hk : ∀ r ∈ x.recs, 0 ≤ r.key ∧ r.key < 32) :
    Calls Tryz.prog 126 #[.agg #[.int .i64 x.src, .slice x.ra x.recs.length x.rc]] w fun e w' => e = .returned (.agg ((totT x.recs).map I).toArray) ∧ Upd0 w w' := by
  obtain ⟨src, ra, rc, l⟩ := x
  simp only at h hl hk ⊢
  have H := Lib.hid h; have HK := Lib.hid hk
  clear h hk
  obtain ⟨wb, hwb⟩ : ∃ wb, wb = ((w.alloc (.cells #[.int .i64 src, .slice ra l.length rc] 41)).alloc (.cells #[.int .i64 0, .int .i64 0, .int .i64 0, .int .i64 0, .int .i64 0, .int .i64 0, .int .i64 0, .int .i64 0] 43)).alloc (.cells #[.int .i64 0, .int .i64 0, .int .i64 0, .int .i64 0, .int .i64 0, .int .i64 0, .int .i64 0, .int .i64 0] 43) := ⟨_, rfl⟩
  have HU := Lib.hid (show Upd0 w wb by rw [hwb]; exact (((Upd.refl _ w).alloc _).alloc _).alloc _)
  have HX1 := Lib.hid (show wb.heap[w.heap.size]? = some (.cells #[.int .i64 src, .slice ra l.length rc] 41 (0, 0)) by rw [hwb]; exact (alloc_lt (by simp <;> omega)).trans ((alloc_lt (by simp)).trans (alloc_at rfl)))
  have HX2 := Lib.hid (show wb.heap[w.heap.size + 1]? = some (.cells #[.int .i64 0, .int .i64 0, .int .i64 0, .int .i64 0, .int .i64 0, .int .i64 0, .int .i64 0, .int .i64 0] 43 (0, 0)) by rw [hwb]; exact (alloc_lt (by simp <;> omega)).trans (alloc_at (by simp)))
  have HX3 := Lib.hid (show wb.heap[w.heap.size + 1 + 1]? = some (.cells ((totT []).map I).toArray 43 (0, 0)) by rw [hwb]; exact alloc_at (by simp))
  go_enter Tryz.func126, Tryz.ntmps126
  go_wp2_with (fail)
  rw [← hwb]
  clear hwb
  go_loopw [9] (fun i wr => ∃ k : Nat, k ≤ l.length ∧ i = .int .i64 k ∧ Hid (TotAt wb (w.heap.size + 1 + 1) (l.take k) wr)) (fun i _ => l.length - (intOf i).toNat)
  case atStart => exact ⟨0, Nat.zero_le _, rfl, Lib.hid ⟨HX3.out, Upd.refl _ _⟩⟩
  case round =>
    obtain ⟨k, hk, rfl, HT⟩ := hrel
    have HU2 := Lib.hid (show Upd0 w wr from HU.out.cut HT.out.upd (fun b hb => by omega))
    by_cases hlt : k < l.length
    · obtain ⟨r, hr⟩ : ∃ r, l[k]? = some r := ⟨_, List.getElem?_eq_getElem hlt⟩
      obtain ⟨b, o, rfl, c0, c1, c2⟩ := (H.out.kept HU2.out).at hr
      obtain ⟨hk0, hk1⟩ := HK.out r (List.mem_of_getElem? hr)
      have HTK : Hid (l.take (k + 1) = l.take k ++ [r]) := Lib.hid (take_cons' hr)
      obtain ⟨rs, rk, rv⟩ := r
      simp only at c0 c1 c2 hk0 hk1
      obtain ⟨kn, rfl⟩ : ∃ kn : Nat, rk = kn := ⟨rk.toNat, by omega⟩
      have hbl : b < wr.heap.size := lt_of_cell c0
      have HTL := Lib.hid (lt_of_heap HT.out.cells)
      obtain ⟨g, hg⟩ : ∃ g, g = kn % 8 := ⟨_, rfl⟩
      have hg8 : g < 8 := by omega
      have hrem : (kn : Int).tmod 8 = (g : Int) := by rw [Int.tmod_eq_emod_of_nonneg (by omega)]; omega
      have hcc : wr.cell? ⟨w.heap.size + 1 + 1, g, none⟩ = some (.int .i64 (cnt (l.take k) g)) := by
        rw [cell_of_heap HT.out.cells]
        simp [totT_at _ hg8]
      have hcb := cnt_le (l.take k) g
      have hcl : (l.take k).length ≤ 40 := by simp; omega
      have hfz : wr.frozen? ⟨w.heap.size + 1 + 1, g, none⟩ = false := frozen_of_heap HT.out.cells
      have htl := HTL.out
      clear hr
      have HG := Lib.hid hg
      clear hg
      go_wp2
      go_roundw
      case rel =>
        refine ⟨k + 1, by omega, by go_num, Lib.hid ⟨?_, ?_⟩⟩
        · rw [HTK.out, totT_snoc]
          have e : (({ src := rs, key := (kn : Int), val := rv } : RecV).key.toNat % 8) = g := by rw [HG.out]; simp
          rw [e]
          have := blk_set (w := wr) (i := g) (v := .int .i64 (cnt (l.take k) g + 1)) HT.out.cells
          refine (alloc_lt (by simpa using HTL.out)).trans ?_
          simpa using this
        · exact (HT.out.upd.trans (upd_own _ _ _ _)).alloc _
      case measure => simp [intOf]; omega
    · obtain rfl : k = l.length := by omega
      rw [List.take_length] at HT
      have hx3 := HT.out.cells
      have hx2 := (HT.out.upd.block _ (lt_of_heap HX2.out) (fun e => by omega)).trans HX2.out
      obtain ⟨d0, d1, d2, d3, d4, d5, d6, d7⟩ := cells8_of hx3
      obtain ⟨e0, e1, e2, e3, e4, e5, e6, e7⟩ := cells8_of hx2
      have f0 : ∀ j, wr.frozen? ⟨w.heap.size + 1, j, none⟩ = false := fun j => frozen_of_heap hx2
      have hlt2 := lt_of_heap hx2
      have HX22 := Lib.hid hx2
      clear hx3 hx2
      go_wp2
      obtain ⟨p1, p2⟩ := put8 (v0 := .int .i64 (cnt l 0)) (v1 := .int .i64 (cnt l 1)) (v2 := .int .i64 (cnt l 2)) (v3 := .int .i64 (cnt l 3)) (v4 := .int .i64 (cnt l 4)) (v5 := .int .i64 (cnt l 5)) (v6 := .int .i64 (cnt l 6)) (v7 := .int .i64 (cnt l 7)) HX22.out
      refine bodyPost_ret (results_c (fn := Tryz.f126) rfl rfl (run_loadVar_mid (P := Tryz.prog) _ (w.heap.size + 1) 0 43 [_, _, _, _, _, _, _, _] _ (rangeAt_block p1) Tryz.underlying43 rfl Tryz.size43)) rfl ?_
      exact ⟨rfl, HU2.out.cut p2 (fun b hb => by omega)⟩
end Go.Proofs.YtbonfdkgkcbkmaaGreat
end

section
namespace Go.Proofs.YtbonfdkgkcbkmaaGreat
set_option maxRecDepth 100000
set_option maxRecDepth 100000
open Go.RowKit

theorem chkRec_zero {r : RecV} (h : chkRec r = 0) : 0 ≤ r.src ∧ r.src < 8 ∧ 0 ≤ r.key ∧ r.key < 32 := by
  unfold chkRec RecV.ok at h
  split at h
  · rename_i h1
    simpa using h1
  · omega
theorem chkIn_zero {x : InM} (h : chkIn x = 0) : x.recs.length ≤ 40 ∧ 0 ≤ x.src ∧ x.src < 8 ∧ ∀ r ∈ x.recs, (0 ≤ r.key ∧ r.key < 32) ∧ r.src = x.src := by
  unfold chkIn at h
  split at h
  · omega
  · rename_i h1
    have h2 : ¬ x.recs.any (badRec x.src) = true := fun e => h1 (.inr (.inr (.inr e)))
    refine ⟨by omega, by omega, by omega, fun r hr => ?_⟩
    have h3 : badRec x.src r = false := by
      cases hb : badRec x.src r with
      | false => rfl
      | true => exact absurd (List.any_eq_true.2 ⟨r, hr, hb⟩) h2
    simp only [badRec, Bool.or_eq_false_iff, bne_eq_false_iff_eq] at h3
    have := chkRec_zero h3.1
    exact ⟨⟨this.2.2.1, this.2.2.2⟩, h3.2⟩
theorem chkIn_cases (x : InM) : chkIn x = 0 ∨ chkIn x = 170 := by
  unfold chkIn
  split <;> simp
def zer8 : List Int := [0, 0, 0, 0, 0, 0, 0, 0]

/-- May offsets be? -/
def offB (o t : List Int) : Bool := (List.range 8).all fun g => decide (0 ≤ o.getD g 0) && decide (o.getD g 0 ≤ t.getD g 0)
def chkOff (x : InM) (o : List Int) : Int := if chkIn x ≠ 0 then chkIn x else if offB o (totT x.recs) then 0 else 171
theorem offB_yes {o t : List Int} (h : ∀ g, g < 8 → 0 ≤ o.getD g 0 ∧ o.getD g 0 ≤ t.getD g 0) : offB o t = true := by
  unfold offB
  rw [List.all_eq_true]
  intro g hg
  have := h g (by simpa using hg)
  simp only [Bool.and_eq_true, decide_eq_true_eq]
  exact this
theorem offB_all {o t : List Int} (h : offB o t = true) : ∀ g, g < 8 → 0 ≤ o.getD g 0 ∧ o.getD g 0 ≤ t.getD g 0 := by
  unfold offB at h
  rw [List.all_eq_true] at h
  intro g hg
  have := h g (by simpa using hg)
  simpa only [Bool.and_eq_true, decide_eq_true_eq] using this
theorem offB_no {o t : List Int} {k : Nat} (hk : k < 8) (h : o.getD k 0 < 0 ∨ t.getD k 0 < o.getD k 0) : offB o t = false := by
  cases hb : offB o t with
  | false => rfl
  | true => have := offB_all hb k hk; omega
theorem index8 {t : List Int} {k : Nat} (ht : t.length = 8) (hk : k < 8) (w : World) : (Instr.index 43 (.agg (t.map I).toArray) (.int .i64 k)).run Tryz.prog w = .ok (.int .i64 (t.getD k 0)) w := by
  match t, ht with
  | [t0, t1, t2, t3, t4, t5, t6, t7], _ =>
    match k, hk with
    | 0, _ => rfl
    | 1, _ => rfl
    | 2, _ => rfl
    | 3, _ => rfl
    | 4, _ => rfl
    | 5, _ => rfl
    | 6, _ => rfl
    | 7, _ => rfl
set_option maxHeartbeats 1000000 in
theorem checkoffsets_any (x : InM) (o : List Int) (w : World) (h : RecsIn w x.ra x.recs) (hl : x.recs.length ≤ 140737488351232) (ho : o.length = 8) :
    Calls Tryz.prog 53 #[.agg #[.int .i64 x.src, .slice x.ra x.recs.length x.rc], .agg (o.map I).toArray] w fun e w' => e = .returned (.int .i64 (chkOff x o)) ∧ Upd0 w w' := by
  obtain ⟨wb, hwb⟩ : ∃ wb, wb = (w.alloc (.cells #[.int .i64 x.src, .slice x.ra x.recs.length x.rc] 41)).alloc (.cells (o.map I).toArray 43) := ⟨_, rfl⟩
  have HU := Lib.hid (show Upd0 w wb by rw [hwb]; exact ((Upd.refl _ w).alloc _).alloc _)
  have HX1 := Lib.hid (show wb.heap[w.heap.size]? = some (.cells #[.int .i64 x.src, .slice x.ra x.recs.length x.rc] 41 (0, 0)) by rw [hwb]; exact (alloc_lt (by simp)).trans (alloc_at rfl))
  have HX2 := Lib.hid (show wb.heap[w.heap.size + 1]? = some (.cells (o.map I).toArray 43 (0, 0)) by rw [hwb]; exact alloc_at (by simp))
  have HC := Lib.hid (checkinput_any x wb (h.kept HU.out) hl)
  have H := Lib.hid h
  have HE := Lib.hid (chkOff.eq_1 x o)
  clear h
  obtain ⟨c0, c1⟩ := cells2_of HX1.out
  rcases chkIn_cases x with he | he
  · have HZ := Lib.hid (chkIn_zero he)
    rw [he, if_neg (by simp)] at HE
    rw [he] at HC
    clear he
    go_enter Tryz.func53, Tryz.ntmps53
    go_wp2_with (go_at_call 123; fail)
    rw [← hwb]
    clear hwb
    refine HC.out.mono ?_
    rintro e w2 ⟨rfl, hu2⟩
    obtain ⟨c0', c1'⟩ := cells2_of ((hu2.block _ (lt_of_heap HX1.out) (fun e => e)).trans HX1.out)
    have HU2 := Lib.hid hu2
    clear hu2 c0 c1
    simp only []
    go_wp2_with (go_at_call 126; fail)
    refine (total_any x w2 (H.out.kept (HU.out.trans HU2.out)) HZ.out.1 (fun r hr => (HZ.out.2.2.2 r hr).1)).mono ?_
    rintro e w3 ⟨rfl, hu3⟩
    have HX3 := Lib.hid ((hu3.block _ (Nat.lt_of_lt_of_le (lt_of_heap HX2.out) HU2.out.size) (fun e => e)).trans ((HU2.out.block _ (lt_of_heap HX2.out) (fun e => e)).trans HX2.out))
    have HU3 := Lib.hid ((HU.out.trans HU2.out).trans hu3)
    clear hu3 c0' c1'
    obtain ⟨t, ht⟩ : ∃ t, t = totT x.recs := ⟨_, rfl⟩
    have htl : t.length = 8 := by rw [ht]; rfl
    rw [← ht] at HE ⊢
    have HTL := Lib.hid htl; have HOL := Lib.hid ho
    clear ht htl ho
    simp only []
    go_wp2_with (fail)
    go_loop [15] (fun i => ∃ k : Nat, k ≤ 8 ∧ i = .int .i64 k ∧ Hid (∀ g, g < k → 0 ≤ o.getD g 0 ∧ o.getD g 0 ≤ t.getD g 0)) (fun i => 8 - (intOf i).toNat)
    case atStart => exact ⟨0, by omega, rfl, Lib.hid (fun g hg => by omega)⟩
    case round =>
      obtain ⟨k, hk, rfl, hr⟩ := hrel
      by_cases hlt : k < 8
      · have hidx : ∀ w, (Instr.index 43 (.agg (t.map I).toArray) (.int .i64 k)).run Tryz.prog w = .ok (.int .i64 (t.getD k 0)) w := fun w => index8 HTL.out hlt w
        have hcc : w3.cell? ⟨w.heap.size + 1, k, none⟩ = some (.int .i64 (o.getD k 0)) := by
          rw [cell_of_heap HX3.out]
          have := HOL.out
          simp [List.getD, show k < o.length by omega]
        obtain ⟨ok, hok⟩ : ∃ ok, ok = o.getD k 0 := ⟨_, rfl⟩
        obtain ⟨tk, htk⟩ : ∃ tk, tk = t.getD k 0 := ⟨_, rfl⟩
        rw [← hok] at hcc
        rw [← htk] at hidx
        have HOK := Lib.hid hok; have HTK := Lib.hid htk
        clear hok htk
        have hk8 : (k : Int) < 8 := by omega
        go_wp2_with (fail)
        · go_ret
          exact ⟨ret_int (by rw [HE.out, offB_no hlt (by rw [← HOK.out, ← HTK.out]; omega)]; rfl), HU3.out⟩
        · go_round
          case rel =>
            refine ⟨k + 1, by omega, by go_num, Lib.hid (fun g hg => ?_)⟩
            rcases Nat.lt_or_ge g k with h | h
            · exact hr.out g h
            · obtain rfl : g = k := by omega
              rw [← HOK.out, ← HTK.out]
              omega
          case measure => simp [intOf]; omega
        · go_ret
          exact ⟨ret_int (by rw [HE.out, offB_no hlt (by rw [← HOK.out, ← HTK.out]; omega)]; rfl), HU3.out⟩
      · obtain rfl : k = 8 := by omega
        go_wp2_with (fail)
        go_ret
        exact ⟨ret_int (by rw [HE.out, offB_yes hr.out]; rfl), HU3.out⟩
  · rw [he, if_pos (by omega)] at HE
    rw [he] at HC
    clear he
    go_enter Tryz.func53, Tryz.ntmps53
    go_wp2_with (go_at_call 123; fail)
    rw [← hwb]
    clear hwb
    refine HC.out.mono ?_
    rintro e w2 ⟨rfl, hu2⟩
    have HU2 := Lib.hid (HU.out.trans hu2)
    clear hu2 c0 c1
    simp only []
    go_wp2
    go_ret
    exact ⟨ret_int HE.out.symm, HU2.out⟩
end Go.Proofs.YtbonfdkgkcbkmaaGreat
end

section
namespace Go.Proofs.YtbonfdkgkcbkmaaGreat
set_option maxRecDepth 100000
set_option maxRecDepth 100000
open Go.RowKit

theorem rises_mem : ∀ {l : List Int} {last below : Int}, risesB l last below = true → ∀ k ∈ l, last < k ∧ k < below
  | [], _, _, _, k, hk => by simp at hk
  | z :: r, last, below, h, k, hk => by
    simp only [risesB, Bool.and_eq_true, Bool.not_eq_true', decide_eq_false_iff_not] at h
    obtain ⟨⟨h1, h2⟩, h3⟩ := h
    rcases List.mem_cons.1 hk with rfl | hk
    · omega
    · have := rises_mem h3 k hk
      omega
theorem rises_len : ∀ {l : List Int} {last below : Int}, risesB l last below = true → last < below → (l.length : Int) ≤ below - last - 1
  | [], _, _, _, _ => by simp; omega
  | z :: r, last, below, h, hl => by
    simp only [risesB, Bool.and_eq_true, Bool.not_eq_true', decide_eq_false_iff_not] at h
    obtain ⟨⟨h1, h2⟩, h3⟩ := h
    have := rises_len h3 (by omega)
    simp only [List.length_cons]
    omega
theorem rises_pow : ∀ {l : List Int} {last below : Int}, risesB l last below = true → last < below → -1 ≤ last → (l.map fun k => 2 ^ k.toNat).sum + 2 ^ (last + 1).toNat ≤ 2 ^ below.toNat
  | [], last, below, _, hl, h0 => by
    simp only [List.map_nil, List.sum_nil, Nat.zero_add]
    exact Nat.pow_le_pow_right (by omega) (by omega)
  | z :: r, last, below, h, hl, h0 => by
    simp only [risesB, Bool.and_eq_true, Bool.not_eq_true', decide_eq_false_iff_not] at h
    obtain ⟨⟨h1, h2⟩, h3⟩ := h
    have h4 := rises_pow h3 (by omega) (by omega)
    have h5 : 2 ^ (last + 1).toNat ≤ 2 ^ z.toNat := Nat.pow_le_pow_right (by omega) (by omega)
    have h6 : (z + 1).toNat = z.toNat + 1 := by omega
    rw [h6, Nat.pow_succ] at h4
    simp only [List.map_cons, List.sum_cons]
    omega
theorem alone_ins {o : OpM} {i : Nat} (h : o.alone i = true) : (o.tag = 1 ∨ o.ins ≠ []) ∧ (∀ k ∈ o.ins, 0 ≤ k ∧ k < i) ∧ o.ins.length ≤ i := by
  simp only [OpM.alone, Bool.and_eq_true] at h
  obtain ⟨⟨_, h1⟩, h2⟩ := h
  refine ⟨?_, fun k hk => by have := rises_mem h1 k hk; omega, by have := rises_len h1 (by omega); omega⟩
  by_cases ht : o.tag = 1
  · exact .inl ht
  · right
    intro e
    rw [e] at h2
    unfold kindB at h2
    simp [ht] at h2
theorem compact_pos {zs : List Int} (h : 0 < zs.length) : 0 < (Lib.compact zs).length := by
  unfold Lib.compact Lib.compactUpTo
  rw [List.length_map]
  exact List.length_pos_of_mem (a := 0) (List.mem_filter.2 ⟨by simpa using h, Lib.keeps_lt_one _ 0 (by omega)⟩)
theorem unionI_pos {zs : List Int} (h : 0 < zs.length) : 0 < (unionI zs).length := compact_pos (by simpa [sortI] using h)
theorem wf_succ {os : List OpM} {i : Nat} {o : OpM} (hw : WfOps os i) (h : os[i]? = some o) (ha : o.alone i = true) (hi : i < 8) : WfOps os (i + 1) := by
  obtain ⟨h1, h2, h3⟩ := alone_ins ha
  have hr : risesB o.ins (-1) i = true := by
    simp only [OpM.alone, Bool.and_eq_true] at ha
    exact ha.1.2
  have hl := (List.getElem?_eq_some_iff.1 h).1
  refine ⟨hl, by omega, fun j o' hj ho => ?_, fun j hj => ?_⟩
  · rcases Nat.lt_or_ge j i with hj' | hj'
    · exact hw.ins j o' hj' ho
    · obtain rfl : j = i := by omega
      rw [h] at ho
      injection ho with ho
      subst ho
      exact ⟨h1, h2, by omega⟩
  · rcases Nat.lt_or_ge j i with hj' | hj'
    · exact hw.pow j hj'
    · obtain rfl : j = i := by omega
      rw [srcs_eq' h h2]
      split
      · exact ⟨by simp, Nat.one_le_two_pow⟩
      · rename_i ht
        have hp := rises_pow hr (by omega) (by omega)
        have hsum : ∀ l : List Int, (∀ k ∈ l, 0 ≤ k ∧ k < j) → (l.flatMap fun k => srcs os k.toNat).length ≤ (l.map fun k => 2 ^ k.toNat).sum ∧ (l ≠ [] → 0 < (l.flatMap fun k => srcs os k.toNat).length) := by
          intro l
          induction l with
          | nil => simp
          | cons x l ih =>
            intro hx
            have h4 := (ih (fun k hk => hx k (List.mem_cons_of_mem _ hk))).1
            have h5 := hx x (List.mem_cons_self ..)
            have h6 := hw.pow x.toNat (by omega)
            rw [List.flatMap_cons, List.length_append, List.map_cons, List.sum_cons]
            exact ⟨by omega, fun _ => by omega⟩
        have h7 := hsum o.ins h2
        have h8 := h7.2 (h1.resolve_left ht)
        refine ⟨unionI_pos h8, Nat.le_trans (unionI_le _) ?_⟩
        have : ((j : Int)).toNat = j := by omega
        rw [this] at hp
        exact Nat.le_trans h7.1 (Nat.le_trans (Nat.le_add_right _ _) hp)
end Go.Proofs.YtbonfdkgkcbkmaaGreat
end

section
namespace Go.Proofs.YtbonfdkgkcbkmaaGreat
set_option maxRecDepth 100000
set_option maxRecDepth 100000
open Go.RowKit

def OpM.val (o : OpM) : Value := .agg #[.int .i64 o.tag, .int .i64 o.width, .slice o.ia o.ins.length o.ic, .int .i64 o.a, .int .i64 o.b]
theorem wrong1_any {ob : Nat} {o x : OpM} (w : World) (h : w.heap[ob]? = some (.cells #[.int .i64 o.tag, .int .i64 o.width, .slice o.ia o.ins.length o.ic, .int .i64 o.a, .int .i64 o.b] 89 (0, 0))) :
    Calls Tryz.prog 224 #[.agg #[.int .i64 x.tag, .int .i64 x.width, .slice x.ia x.ins.length x.ic, .int .i64 x.a, .int .i64 x.b], .pointer (some ⟨ob, 0, none⟩)] w fun e w' => e = .returned (.bool (x.tag == 1 && x.a == o.a)) ∧ Upd0 w w' := by
  obtain ⟨c0, c1, c2, c3, c4⟩ := cells5_of h
  have hl := lt_of_heap h
  have hn : ob ≠ w.heap.size := by omega
  clear h
  cases ht : (x.tag == 1)
  all_goals
    go_enter Tryz.func224, Tryz.ntmps224
    go_wp2
    go_ret
    exact ⟨rfl, (Upd.refl _ w).alloc _⟩
def tagAt (os : List OpM) (k : Int) : Int := ((os[k.toNat]?).map (·.tag)).getD 0
theorem wrong2_any {gb : Nat} {os : List OpM} {oa : Option Addr} {oc : Nat} {k : Int} (w : World) (h : w.heap[gb]? = some (.cells #[.slice oa os.length oc] 24 (0, 0))) (hops : OpsIn w oa os) (h0 : 0 ≤ k) (h1 : k < os.length) (hol : os.length ≤ 140737488351232) :
    Calls Tryz.prog 225 #[.int .i64 k, .pointer (some ⟨gb, 0, none⟩)] w fun e w' => e = .returned (.bool (tagAt os k == 7)) ∧ Upd0 w w' := by
  obtain ⟨kn, rfl⟩ : ∃ kn : Nat, k = kn := ⟨k.toNat, by omega⟩
  obtain ⟨x, hx⟩ : ∃ x, os[kn]? = some x := ⟨_, List.getElem?_eq_getElem (by omega)⟩
  have HT : Hid (tagAt os (kn : Int) = x.tag) := Lib.hid (by simp [tagAt, hx])
  obtain ⟨⟨b, f, rfl, c0, _⟩, _, _⟩ := hops.at hx
  have d0 := cells1_of h
  clear h hops hx
  rw [HT.out]
  have hkn : kn < os.length := by omega
  go_enter Tryz.func225, Tryz.ntmps225
  go_wp2
  go_ret
  exact ⟨rfl, Upd.refl _ w⟩

def dupB (os : List OpM) (i : Nat) (o : OpM) : Bool := (os.take i).any fun x => x.tag == 1 && x.a == o.a
def sinkB (os : List OpM) (o : OpM) : Bool := o.ins.any fun k => tagAt os k == 7
def meetN (os : List OpM) (l : List Int) : Int := (l.map fun k => ((srcs os k.toNat).length : Int)).sum
/-- Why an operator may not stand where it stands. -/
def wrongI (os : List OpM) (i : Nat) (o : OpM) (wide : Int) : Int :=
  if !o.alone i || (sinkB os o || (o.tag == 1 && dupB os i o)) then 160
  else if o.tag == 6 && decide (meetN os o.ins ≠ (srcs os i).length) then 161
  else if 16 < wide then 163 else 0
theorem OpsIn.take {w : World} {a : Option Addr} {os : List OpM} (h : OpsIn w a os) (k : Nat) : OpsIn w a (os.take k) := by
  refine ⟨fun i x hx => h.row i x ?_, fun o ho => h.ins o (List.mem_of_mem_take ho)⟩
  rw [List.getElem?_map] at hx ⊢
  rw [Option.map_eq_some_iff] at hx ⊢
  obtain ⟨y, hy, e⟩ := hx
  have hi : i < k := by
    have := (List.getElem?_eq_some_iff.1 hy).1
    simp at this
    omega
  exact ⟨y, by rw [List.getElem?_take_of_lt hi] at hy; exact hy, e⟩

theorem meetN_snoc (os : List OpM) {l : List Int} {k : Nat} {z : Int} (h : l[k]? = some z) : meetN os (l.take (k + 1)) = meetN os (l.take k) + (srcs os z.toNat).length := by
  rw [take_cons' h, meetN, meetN, List.map_append, List.sum_append]
  simp
theorem meetN_bd {os : List OpM} {n : Nat} (hw : WfOps os n) : ∀ l : List Int, (∀ k ∈ l, 0 ≤ k ∧ k < n) → 0 ≤ meetN os l ∧ meetN os l ≤ 1000 * l.length
  | [], _ => by simp [meetN]
  | x :: l, h => by
    have h1 := meetN_bd hw l (fun k hk => h k (List.mem_cons_of_mem _ hk))
    have h2 := h x (List.mem_cons_self ..)
    have h3 := (hw.src x.toNat (by omega)).2
    simp only [meetN, List.map_cons, List.sum_cons, List.length_cons] at *
    omega

set_option maxHeartbeats 4000000 in
theorem wrong_any {os : List OpM} {oa : Option Addr} {oc i : Nat} {o : OpM} {wide : Int} (w : World) (hi : i < 8) (ho : os[i]? = some o) (hwf : WfOps os i) (hops : OpsIn w oa os) (hol : os.length ≤ 8) (hoc : os.length ≤ oc) (hcm : oc ≤ maxLen) :
    Calls Tryz.prog 154 #[.agg #[.slice oa os.length oc], .int .i64 i, .int .i64 wide] w fun e w' => e = .returned (.int .i64 (wrongI os i o wide)) ∧ Upd0 w w' := by
  have hil := (List.getElem?_eq_some_iff.1 ho).1
  have HOPS := Lib.hid hops; have HWF := Lib.hid hwf; have HO := Lib.hid ho
  obtain ⟨⟨b, f, rfl, c0, c1, c2, c3, c4⟩, hin, hinl⟩ := hops.at ho
  have hbl : b < w.heap.size := lt_of_cell c0
  obtain ⟨wb, hwb⟩ : ∃ wb, wb = (w.alloc (.cells #[.slice (some ⟨b, f, none⟩) os.length oc] 24)).alloc (.cells #[.int .i64 o.tag, .int .i64 o.width, .slice o.ia o.ins.length o.ic, .int .i64 o.a, .int .i64 o.b] 89) := ⟨_, rfl⟩
  have hu : Upd0 w wb := by rw [hwb]; exact ((Upd.refl _ w).alloc _).alloc _
  have hx1 : wb.heap[w.heap.size]? = some (.cells #[.slice (some ⟨b, f, none⟩) os.length oc] 24 (0, 0)) := by rw [hwb]; exact (alloc_lt (by simp)).trans (alloc_at rfl)
  have hx2 : wb.heap[w.heap.size + 1]? = some (.cells #[.int .i64 o.tag, .int .i64 o.width, .slice o.ia o.ins.length o.ic, .int .i64 o.a, .int .i64 o.b] 89 (0, 0)) := by rw [hwb]; exact alloc_at (by simp)
  have hob := HOPS.out.kept hu
  have hinb := hin.kept hu
  have HAL := Lib.hid (fun W (hW : Upd0 wb W) => alone_any o i W (hinb.kept hW) hinl)
  have HSK := Lib.hid (fun (hk : ∀ k ∈ o.ins, 0 ≤ k ∧ k < i) W (hW : Upd0 wb W) => containsfI_any (c := o.ic) (g := 225) (lb := #[.pointer (some ⟨w.heap.size, 0, none⟩)]) (p := fun k => tagAt os k == 7) W (hinb.kept hW) hinl (enters_of Tryz.func225 (by kernel_rfl) rfl)
    (fun z W' hz hu' => wrong2_any W' (((hW.trans hu').block _ (lt_of_heap hx1) (fun e => e)).trans hx1) (hob.kept (hW.trans hu')) (hk z hz).1 (by have := (hk z hz).2; omega) (by omega)))
  have HDU := Lib.hid (fun W (hW : Upd0 wb W) => containsfO_any (c := oc) (g := 224) (lb := #[.pointer (some ⟨w.heap.size + 1, 0, none⟩)]) (p := fun x => x.tag == 1 && x.a == o.a) W ((hob.take i).kept hW) (by simp; omega) (enters_of Tryz.func224 (by kernel_rfl) rfl)
    (fun z W' hz hu' => wrong1_any W' (((hW.trans hu').block _ (lt_of_heap hx2) (fun e => e)).trans hx2)))
  have htl : (os.take i).length = i := by simp; omega
  rw [htl] at HDU
  have d0 := cells1_of hx1
  obtain ⟨e0, e1, e2, e3, e4⟩ := cells5_of hx2
  have HU := Lib.hid hu; have HX1 := Lib.hid hx1; have HX2 := Lib.hid hx2; have HIN := Lib.hid hin
  clear hops hwf ho hin hu hx1 hx2 hob hinb htl
  have HTG := Lib.hid (wrongI.eq_1 os i o wide)
  go_enter Tryz.func154, Tryz.ntmps154
  go_upto_region 4 with fail
  rw [← hwb]
  clear hwb
  clear c0 c1 c2 c3 c4
  have hz1 := lt_of_heap HX2.out
  have hz0 := lt_of_heap HX1.out
  cases hal : o.alone i
  · rw [hal] at HTG HAL
    go_wp2_with (go_at_call 226; (with_reducible refine (HAL.out _ (Upd.refl _ _)).mono ?_); rintro e w' ⟨rfl, hu⟩; obtain ⟨hc, hf⟩ := hu.get; have hz2 := Nat.lt_of_lt_of_le hz0 hu.size; have hz3 := Nat.lt_of_lt_of_le hz1 hu.size)
    go_ret
    refine ⟨ret_int ?_, HU.out.trans hu⟩
    rw [HTG.out]
    simp
  · have hai := alone_ins hal
    have HWS := Lib.hid (wf_succ HWF.out HO.out hal hi)
    rw [hal] at HTG HAL
    have HSK := Lib.hid (HSK.out hai.2.1)
    cases hsk : sinkB os o
    · have hsk' : (o.ins.any fun k => tagAt os k == 7) = false := hsk
      rw [hsk'] at HSK
      rw [hsk] at HTG
      by_cases ht1 : o.tag = 1
      · have ht1' : (o.tag == 1) = true := by simpa using ht1
        cases hdu : dupB os i o
        · have hdu' : ((os.take i).any fun x => x.tag == 1 && x.a == o.a) = false := hdu
          rw [hdu'] at HDU
          rw [hdu] at HTG
          have ht6 : (o.tag == 6) = false := by rw [ht1]; rfl
          have HTG2 := Lib.hid (show wrongI os i o wide = if 16 < wide then 163 else 0 by rw [HTG.out]; simp [ht1])
          clear HTG ht1
          by_cases hwd : 16 < wide
          · rw [if_pos hwd] at HTG2
            go_wp2_with (first | (go_at_call 226; (with_reducible refine (HAL.out _ (Upd.refl _ _)).mono ?_); rintro e w' ⟨rfl, hu⟩; obtain ⟨hc, hf⟩ := hu.get; have hz2 := Nat.lt_of_lt_of_le hz0 hu.size; have hz3 := Nat.lt_of_lt_of_le hz1 hu.size) | (go_at_call 144; (with_reducible refine (HSK.out _ hu).mono ?_); rintro e w2 ⟨rfl, hu2⟩; obtain ⟨hc2, hf2⟩ := hu2.get; have hz4 := Nat.lt_of_lt_of_le hz2 hu2.size; have hz5 := Nat.lt_of_lt_of_le hz3 hu2.size) | (go_at_call 227; (with_reducible refine (HDU.out _ (hu.trans hu2)).mono ?_); rintro e w3 ⟨rfl, hu3⟩; obtain ⟨hc3, hf3⟩ := hu3.get))
            go_ret
            exact ⟨ret_int HTG2.out.symm, ((HU.out.trans hu).trans hu2).trans hu3⟩
          · rw [if_neg hwd] at HTG2
            go_wp2_with (first | (go_at_call 226; (with_reducible refine (HAL.out _ (Upd.refl _ _)).mono ?_); rintro e w' ⟨rfl, hu⟩; obtain ⟨hc, hf⟩ := hu.get; have hz2 := Nat.lt_of_lt_of_le hz0 hu.size; have hz3 := Nat.lt_of_lt_of_le hz1 hu.size) | (go_at_call 144; (with_reducible refine (HSK.out _ hu).mono ?_); rintro e w2 ⟨rfl, hu2⟩; obtain ⟨hc2, hf2⟩ := hu2.get; have hz4 := Nat.lt_of_lt_of_le hz2 hu2.size; have hz5 := Nat.lt_of_lt_of_le hz3 hu2.size) | (go_at_call 227; (with_reducible refine (HDU.out _ (hu.trans hu2)).mono ?_); rintro e w3 ⟨rfl, hu3⟩; obtain ⟨hc3, hf3⟩ := hu3.get))
            go_ret
            exact ⟨ret_int HTG2.out.symm, ((HU.out.trans hu).trans hu2).trans hu3⟩
        · have hdu' : ((os.take i).any fun x => x.tag == 1 && x.a == o.a) = true := hdu
          rw [hdu'] at HDU
          rw [hdu] at HTG
          have HTG2 := Lib.hid (show wrongI os i o wide = 160 by rw [HTG.out]; simp [ht1])
          clear HTG ht1
          go_wp2_with (first | (go_at_call 226; (with_reducible refine (HAL.out _ (Upd.refl _ _)).mono ?_); rintro e w' ⟨rfl, hu⟩; obtain ⟨hc, hf⟩ := hu.get; have hz2 := Nat.lt_of_lt_of_le hz0 hu.size; have hz3 := Nat.lt_of_lt_of_le hz1 hu.size) | (go_at_call 144; (with_reducible refine (HSK.out _ hu).mono ?_); rintro e w2 ⟨rfl, hu2⟩; obtain ⟨hc2, hf2⟩ := hu2.get; have hz4 := Nat.lt_of_lt_of_le hz2 hu2.size; have hz5 := Nat.lt_of_lt_of_le hz3 hu2.size) | (go_at_call 227; (with_reducible refine (HDU.out _ (hu.trans hu2)).mono ?_); rintro e w3 ⟨rfl, hu3⟩; obtain ⟨hc3, hf3⟩ := hu3.get))
          go_ret
          exact ⟨ret_int HTG2.out.symm, ((HU.out.trans hu).trans hu2).trans hu3⟩
      · have ht1' : (o.tag == 1) = false := by simpa using ht1
        clear HDU
        by_cases ht6 : o.tag = 6
        · have ht6' : (o.tag == 6) = true := by simpa using ht6
          have HTG2 := Lib.hid (show wrongI os i o wide = if meetN os o.ins ≠ (srcs os i).length then 161 else if 16 < wide then 163 else 0 by rw [HTG.out]; simp [ht6])
          clear HTG ht1 ht6
          go_wp2_with (first | (go_at_call 226; (with_reducible refine (HAL.out _ (Upd.refl _ _)).mono ?_); rintro e w' ⟨rfl, hu⟩; obtain ⟨hc, hf⟩ := hu.get; have hz2 := Nat.lt_of_lt_of_le hz0 hu.size; have hz3 := Nat.lt_of_lt_of_le hz1 hu.size) | (go_at_call 144; (with_reducible refine (HSK.out _ hu).mono ?_); rintro e w2 ⟨rfl, hu2⟩; obtain ⟨hc2, hf2⟩ := hu2.get; have hz4 := Nat.lt_of_lt_of_le hz2 hu2.size; have hz5 := Nat.lt_of_lt_of_le hz3 hu2.size))
          have HX21 := Lib.hid ((((hu.trans hu2).block _ hz0 (fun e => e))).trans HX1.out)
          have HX22 := Lib.hid ((((hu.trans hu2).block _ hz1 (fun e => e))).trans HX2.out)
          have HU2 := Lib.hid ((HU.out.trans hu).trans hu2)
          clear hc hf hc2 hf2 hz2 hz3 hz4 hz5 hu hu2 d0 e0 e1 e2 e3 e4 HAL HSK HX1 HX2 HU hz0 hz1
          have HMB := Lib.hid (fun k => meetN_bd HWF.out (o.ins.take k) (fun x hx => hai.2.1 x (List.mem_of_mem_take hx)))
          go_loopw [10, 49] (fun t j wr => ∃ k : Nat, k ≤ o.ins.length ∧ j = .int .i64 k ∧ t = .int .i64 (meetN os (o.ins.take k)) ∧ Hid (Upd0 w2 wr)) (fun _ j _ => o.ins.length - (intOf j).toNat)
          case atStart => exact ⟨0, Nat.zero_le _, rfl, rfl, Lib.hid (Upd.refl _ _)⟩
          case round =>
            obtain ⟨k, hk, rfl, rfl, hu3⟩ := hrel
            have HU3 := Lib.hid (HU2.out.trans hu3.out)
            have d0 := cells1_of ((hu3.out.block _ (lt_of_heap HX21.out) (fun e => e)).trans HX21.out)
            have hmb := HMB.out k
            have hml : (o.ins.take k).length ≤ 8 := by simp; omega
            by_cases hlt : k < o.ins.length
            · obtain ⟨z, hz⟩ : ∃ z, o.ins[k]? = some z := ⟨_, List.getElem?_eq_getElem hlt⟩
              obtain ⟨b1, o1, hia, hc⟩ := (HIN.out.kept HU3.out).cell hz
              have hzb := hai.2.1 z (List.mem_of_getElem? hz)
              obtain ⟨zn, rfl⟩ : ∃ zn : Nat, z = zn := ⟨z.toNat, by omega⟩
              have HMS : Hid (meetN os (o.ins.take (k + 1)) = meetN os (o.ins.take k) + (srcs os zn).length) := Lib.hid (meetN_snoc os hz)
              have hsb := (HWF.out.src zn (by omega)).2
              have HSO := Lib.hid (sources_any (oc := oc) wr (by omega) HWF.out (HOPS.out.kept HU3.out) (by omega) (i := zn))
              obtain ⟨m, hm⟩ : ∃ m, m = meetN os (o.ins.take k) := ⟨_, rfl⟩
              rw [← hm] at HMS hmb ⊢
              rw [hia] at HIN ⊢
              clear hz hzb hia hm hai
              go_wp2_with (go_at_call 216; (with_reducible refine HSO.out.mono ?_); rintro e w4 ⟨a3, c3, rfl, _, hu4⟩; have HU4 := Lib.hid (hu3.out.trans hu4); clear hu4)
              go_roundw
              case rel => exact ⟨k + 1, by omega, by go_num, by rw [HMS.out], HU4⟩
              case measure => simp [intOf]; omega
            · obtain rfl : k = o.ins.length := by omega
              rw [List.take_length] at hmb ⊢
              have HSO := Lib.hid (sources_any (oc := oc) wr (by omega) HWS.out (HOPS.out.kept HU3.out) (by omega) (i := i))
              by_cases hme : meetN os o.ins = (srcs os i).length
              · rw [if_neg (by simpa using hme)] at HTG2
                have hme' : (meetN os o.ins != ((srcs os i).length : Int)) = false := by simpa using hme
                obtain ⟨m, hm⟩ : ∃ m, m = meetN os o.ins := ⟨_, rfl⟩
                rw [← hm] at hme' hmb ⊢
                clear hme hm
                by_cases hwd : 16 < wide
                · rw [if_pos hwd] at HTG2
                  go_wp2_with (go_at_call 216; (with_reducible refine HSO.out.mono ?_); rintro e w4 ⟨a3, c3, rfl, _, hu4⟩; have HU4 := Lib.hid (HU3.out.trans hu4); clear hu4)
                  go_ret
                  exact ⟨ret_int HTG2.out.symm, HU4.out⟩
                · rw [if_neg hwd] at HTG2
                  go_wp2_with (go_at_call 216; (with_reducible refine HSO.out.mono ?_); rintro e w4 ⟨a3, c3, rfl, _, hu4⟩; have HU4 := Lib.hid (HU3.out.trans hu4); clear hu4)
                  go_ret
                  exact ⟨ret_int HTG2.out.symm, HU4.out⟩
              · rw [if_pos (by simpa using hme)] at HTG2
                have hme' : (meetN os o.ins != ((srcs os i).length : Int)) = true := by simpa using hme
                obtain ⟨m, hm⟩ : ∃ m, m = meetN os o.ins := ⟨_, rfl⟩
                rw [← hm] at hme' hmb ⊢
                clear hme hm
                go_wp2_with (go_at_call 216; (with_reducible refine HSO.out.mono ?_); rintro e w4 ⟨a3, c3, rfl, _, hu4⟩; have HU4 := Lib.hid (HU3.out.trans hu4); clear hu4)
                go_ret
                exact ⟨ret_int HTG2.out.symm, HU4.out⟩
        · have ht6' : (o.tag == 6) = false := by simpa using ht6
          have HTG2 := Lib.hid (show wrongI os i o wide = if 16 < wide then 163 else 0 by rw [HTG.out]; simp [ht1, ht6])
          clear HTG ht1 ht6
          by_cases hwd : 16 < wide
          · rw [if_pos hwd] at HTG2
            go_wp2_with (first | (go_at_call 226; (with_reducible refine (HAL.out _ (Upd.refl _ _)).mono ?_); rintro e w' ⟨rfl, hu⟩; obtain ⟨hc, hf⟩ := hu.get; have hz2 := Nat.lt_of_lt_of_le hz0 hu.size; have hz3 := Nat.lt_of_lt_of_le hz1 hu.size) | (go_at_call 144; (with_reducible refine (HSK.out _ hu).mono ?_); rintro e w2 ⟨rfl, hu2⟩; obtain ⟨hc2, hf2⟩ := hu2.get; have hz4 := Nat.lt_of_lt_of_le hz2 hu2.size; have hz5 := Nat.lt_of_lt_of_le hz3 hu2.size))
            go_ret
            exact ⟨ret_int HTG2.out.symm, (HU.out.trans hu).trans hu2⟩
          · rw [if_neg hwd] at HTG2
            go_wp2_with (first | (go_at_call 226; (with_reducible refine (HAL.out _ (Upd.refl _ _)).mono ?_); rintro e w' ⟨rfl, hu⟩; obtain ⟨hc, hf⟩ := hu.get; have hz2 := Nat.lt_of_lt_of_le hz0 hu.size; have hz3 := Nat.lt_of_lt_of_le hz1 hu.size) | (go_at_call 144; (with_reducible refine (HSK.out _ hu).mono ?_); rintro e w2 ⟨rfl, hu2⟩; obtain ⟨hc2, hf2⟩ := hu2.get; have hz4 := Nat.lt_of_lt_of_le hz2 hu2.size; have hz5 := Nat.lt_of_lt_of_le hz3 hu2.size))
            go_ret
            exact ⟨ret_int HTG2.out.symm, (HU.out.trans hu).trans hu2⟩
    · have hsk' : (o.ins.any fun k => tagAt os k == 7) = true := hsk
      rw [hsk'] at HSK
      rw [hsk] at HTG
      go_wp2_with (first | (go_at_call 226; (with_reducible refine (HAL.out _ (Upd.refl _ _)).mono ?_); rintro e w' ⟨rfl, hu⟩; obtain ⟨hc, hf⟩ := hu.get; have hz2 := Nat.lt_of_lt_of_le hz0 hu.size; have hz3 := Nat.lt_of_lt_of_le hz1 hu.size) | (go_at_call 144; (with_reducible refine (HSK.out _ hu).mono ?_); rintro e w2 ⟨rfl, hu2⟩; obtain ⟨hc2, hf2⟩ := hu2.get; have hz4 := Nat.lt_of_lt_of_le hz2 hu2.size; have hz5 := Nat.lt_of_lt_of_le hz3 hu2.size))
      go_ret
      exact ⟨ret_int (by rw [HTG.out]; simp), (HU.out.trans hu).trans hu2⟩
end Go.Proofs.YtbonfdkgkcbkmaaGreat
end

section
namespace Go.Proofs.YtbonfdkgkcbkmaaGreat
set_option maxRecDepth 100000
set_option maxRecDepth 100000
open Go.RowKit

/-- Numbers met so far, as a map reads. -/
def rdD (ns : List Int) : DataW Empty := ns.foldl (fun D s => D.put (.int .i64 s) (.lit (.bool true))) (.map [])
theorem rdD_snoc (ns : List Int) (s : Int) : rdD (ns ++ [s]) = (rdD ns).put (.int .i64 s) (.lit (.bool true)) := by simp [rdD]
theorem rdD_isMap (ns : List Int) : Maps.IsMap (rdD ns) := by
  have h : ∀ (l : List Int) (D : DataW Empty), Maps.IsMap D → Maps.IsMap (l.foldl (fun D s => D.put (.int .i64 s) (.lit (.bool true))) D) := by
    intro l
    induction l with
    | nil => exact fun _ h => h
    | cons s l ih => exact fun D h => ih _ (h.put _ _)
  exact h ns _ Maps.isMap_empty
theorem rdD_at (s : Int) (ns : List Int) : (rdD ns).atKey (.int .i64 s) (.lit (.bool false)) = .lit (.bool (ns.contains s)) := by
  refine rev_ind (P := fun ns => (rdD ns).atKey (.int .i64 s) (.lit (.bool false)) = .lit (.bool (ns.contains s))) rfl (fun l t ih => ?_) ns
  rw [rdD_snoc]
  by_cases e : s = t
  · subst e
    rw [Maps.atKey_put_same (rdD_isMap l) (by trivial)]
    simp
  · have hne : (Lit.int .i64 s) ≠ .int .i64 t := fun h => by injection h with _ h; exact e h
    rw [Maps.atKey_put_other hne, ih]
    have e' : ¬ t = s := fun h => e h.symm
    simp [e, e']
theorem plainElem_bool_inv {P : Program} {e : TypeId} (he : P.underlying e = some .bool) {v : Value} {z : DataW Empty × List MemPlace} (h : plainElem P e v = some z) : ∃ x, v = .bool x ∧ z = (.lit (.bool x), []) := by
  unfold plainElem at h
  rw [he] at h
  cases v <;> simp at h
  case bool x => exact ⟨x, rfl, h.symm⟩

theorem Tryz.underlying97m : Tryz.prog.underlying 257 = some (.map 3 4) := by kernel_rfl
theorem Tryz.underlying4b : Tryz.prog.underlying 4 = some .bool := by kernel_rfl
theorem Tryz.underlying3i : Tryz.prog.underlying 3 = some (.int .i64) := by kernel_rfl
theorem look_rd {w : World} {mb m : Nat} {ns : List Int} {s : Int} (hown : w.ownsMap Tryz.prog 3 (plainElem Tryz.prog 4) mb m (rdD ns)) (hs : (Lit.int .i64 s).wf = true) :
    (Instr.lookup 257 (.map (some mb)) (.int .i64 s) false).run Tryz.prog w = .ok (.bool (ns.contains s)) w := by
  have hz : (zeroValue 4).run Tryz.prog w = .ok (.bool false) w := by kernel_rfl
  obtain ⟨v, ps, hrun, hv⟩ := hown.lookup (Maps.int_keyed Tryz.underlying3i) Tryz.underlying97m (z := .bool false) hz (plainElem_bool Tryz.underlying4b false) (key := .int .i64 s) (Maps.keyOf_int_mk Tryz.underlying3i hs)
  obtain ⟨x, rfl, hx⟩ := plainElem_bool_inv Tryz.underlying4b hv
  rw [hrun]
  have := (Prod.mk.inj hx).1
  rw [rdD_at] at this
  injection this with this
  injection this with this
  rw [this]

/-- The first operator that may not stand, and why. -/
def chkWrong (os : List OpM) : Nat → List OpM → Int → Option (Int × Int)
  | _, [], _ => none
  | k, o :: r, wide => if wrongI os k o (wide + o.width) ≠ 0 then some (k, wrongI os k o (wide + o.width)) else chkWrong os (k + 1) r (wide + o.width)
def readL (os : List OpM) : List Int := os.flatMap (·.ins)
def chkUnread (rl : List Int) : Nat → List OpM → Option (Int × Int)
  | _, [] => none
  | k, o :: r => if o.tag ≠ 7 ∧ rl.contains (k : Int) = false then some (k, 162) else chkUnread rl (k + 1) r
/-- Where a graph may not be, and why. -/
def chkG (os : List OpM) : Int × Int :=
  if os.length < 1 ∨ 8 < os.length then (0, 160)
  else match chkWrong os 0 os 0 with
    | some r => r
    | none => match chkUnread (readL os) 0 os with
      | some r => r
      | none => (0, 0)
theorem wrongI_alone {os : List OpM} {i : Nat} {o : OpM} (h : o.alone i = false) (wide : Int) : wrongI os i o wide = 160 := by simp [wrongI, h]
theorem alone_width {o : OpM} {i : Int} (h : o.alone i = true) : 1 ≤ o.width ∧ o.width ≤ 3 := by
  simp only [OpM.alone, Bool.and_eq_true, decide_eq_true_eq] at h
  exact h.1.1
theorem wrongI_zero {os : List OpM} {i : Nat} {o : OpM} {wide : Int} (h : wrongI os i o wide = 0) : o.alone i = true := by
  cases ha : o.alone i with
  | true => rfl
  | false => rw [wrongI_alone ha] at h; omega

/-- The map of what is read, between the rounds. -/
structure RdAt (wb : World) (m n : Nat) (L : List Int) (W : World) : Prop where
  own : W.ownsMap Tryz.prog 3 (plainElem Tryz.prog 4) m n (rdD L)
  upd : Upd0 wb W
  low : wb.heap.size ≤ m
theorem RdAt.grow {wb W W' : World} {m n : Nat} {L : List Int} (h : RdAt wb m n L W) (hg : W.grownBy W' none) : RdAt wb m n L W' :=
  ⟨h.own.kept hg (by simp), h.upd.trans (Upd.of_grown (F := fun _ => False) hg (fun k hk => by cases hk)), h.low⟩
theorem readL_snoc {os : List OpM} {k : Nat} {o : OpM} (h : os[k]? = some o) : readL (os.take (k + 1)) = readL (os.take k) ++ o.ins := by
  rw [take_cons' h, readL, List.flatMap_append]; simp [readL]

set_option maxHeartbeats 4000000 in
theorem gcheck_any {os : List OpM} {oa : Option Addr} {oc : Nat} (w : World) (hops : OpsIn w oa os) (hol : os.length ≤ 140737488351232) (hoc : os.length ≤ oc) (hcm : oc ≤ maxLen) :
    Calls Tryz.prog 82 #[.agg #[.slice oa os.length oc]] w fun e w' => e = .returned (.tuple #[.int .i64 (chkG os).1, .int .i64 (chkG os).2]) ∧ Upd0 w w' := by
  have HE := Lib.hid (chkG.eq_1 os)
  by_cases hn1 : os.length < 1
  · rw [if_pos (.inl hn1)] at HE
    have hn2 : (os.length : Int) < 1 := by omega
    go_enter Tryz.func82, Tryz.ntmps82
    go_wp2
    go_ret2
    exact ⟨by rw [HE.out]; rfl, (Upd.refl _ w).alloc _⟩
  by_cases hn2 : 8 < os.length
  · rw [if_pos (.inr hn2)] at HE
    go_enter Tryz.func82, Tryz.ntmps82
    go_wp2
    go_ret2
    exact ⟨by rw [HE.out]; rfl, (Upd.refl _ w).alloc _⟩
  rw [if_neg (by omega)] at HE
  have hn3 : ¬ (os.length : Int) < 1 := by omega
  have hn4 : ¬ (8 : Int) < os.length := by omega
  obtain ⟨wb, hwb⟩ : ∃ wb, wb = w.alloc (.cells #[.slice oa os.length oc] 24) := ⟨_, rfl⟩
  have hu : Upd0 w wb := by rw [hwb]; exact (Upd.refl _ w).alloc _
  have HX1 := Lib.hid (show wb.heap[w.heap.size]? = some (.cells #[.slice oa os.length oc] 24 (0, 0)) by rw [hwb]; exact alloc_at rfl)
  have HU := Lib.hid hu
  have HOPS := Lib.hid hops
  clear hu hops hn1 hn2
  go_enter Tryz.func82, Tryz.ntmps82
  go_wp2
  rw [← hwb]
  clear hwb
  go_loopw [4, 28] (fun t j wr => ∃ (k : Nat) (wide : Int), k ≤ os.length ∧ j = .int .i64 k ∧ t = .int .i64 wide ∧ (0 ≤ wide ∧ wide ≤ 3 * k) ∧ Hid (chkWrong os k (os.drop k) wide = chkWrong os 0 os 0) ∧ Hid (WfOps os k) ∧ Hid (Upd0 wb wr)) (fun _ j _ => os.length - (intOf j).toNat)
  case atStart => exact ⟨0, 0, Nat.zero_le _, rfl, rfl, by omega, Lib.hid rfl, Lib.hid ⟨by omega, by omega, fun j o hj => by omega, fun j hj => by omega⟩, Lib.hid (Upd.refl _ _)⟩
  case round =>
    obtain ⟨k, wide, hk, rfl, rfl, hwd, HC, HWF, HU2⟩ := hrel
    have d0 := cells1_of ((HU2.out.block _ (lt_of_heap HX1.out) (fun e => e)).trans HX1.out)
    by_cases hlt : k < os.length
    · obtain ⟨o, ho⟩ : ∃ o, os[k]? = some o := ⟨_, List.getElem?_eq_getElem hlt⟩
      have HO := Lib.hid ho
      have hop := HOPS.out.kept (HU.out.trans HU2.out)
      obtain ⟨⟨b, f, hoa, c0, c1, c2, c3, c4⟩, _, _⟩ := hop.at ho
      have HC2 : Hid ((if wrongI os k o (wide + o.width) ≠ 0 then some ((k : Int), wrongI os k o (wide + o.width)) else chkWrong os (k + 1) (os.drop (k + 1)) (wide + o.width)) = chkWrong os 0 os 0) := by
        have := HC.out
        rw [drop_cons' ho] at this
        exact Lib.hid this
      have HOP := Lib.hid hop
      have hbl : b < wr.heap.size := lt_of_cell c0
      have HZL := Lib.hid (Nat.lt_of_lt_of_le (lt_of_heap HX1.out) HU2.out.size)
      rw [hoa] at d0 HX1 HOPS HOP ⊢
      clear ho hop HC hoa
      have HWR := Lib.hid (fun wide => wrong_any (wide := wide) (oc := oc) (wr.alloc (.cells #[.int .i64 o.tag, .int .i64 o.width, .slice o.ia o.ins.length o.ic, .int .i64 o.a, .int .i64 o.b] 89)) (by omega) HO.out HWF.out (HOP.out.kept ((Upd.refl _ wr).alloc _)) (by omega) hoc hcm)
      have HU3 := Lib.hid ((HU.out.trans HU2.out).trans ((Upd.refl (fun _ => False) wr).alloc (.cells #[.int .i64 o.tag, .int .i64 o.width, .slice o.ia o.ins.length o.ic, .int .i64 o.a, .int .i64 o.b] 89)))
      have HU4 := Lib.hid (HU2.out.trans ((Upd.refl (fun _ => False) wr).alloc (.cells #[.int .i64 o.tag, .int .i64 o.width, .slice o.ia o.ins.length o.ic, .int .i64 o.a, .int .i64 o.b] 89)))
      have hzl := HZL.out
      cases hal : o.alone k
      · have HAL := Lib.hid (wrongI_alone (os := os) hal)
        clear hal
        go_wp2_with (go_at_call 154; (with_reducible refine (HWR.out _).mono ?_); rw [HAL.out]; rintro e w4 ⟨rfl, hu5⟩; have HU5 := Lib.hid (HU3.out.trans hu5); clear hu5)
        go_ret2
        refine ⟨?_, HU5.out⟩
        have := HC2.out
        rw [HAL.out, if_pos (by omega)] at this
        rw [HE.out, ← this]
        rfl
      · have hww := alone_width hal
        have HSU := Lib.hid (wf_succ HWF.out HO.out hal (by omega))
        have hwr : IntKind.i64.wrap (wide + o.width) = wide + o.width := by rw [IntKind.wrap_i64]; omega
        cases hz : (wrongI os k o (wide + o.width) == 0)
        · have hz' : (wrongI os k o (wide + o.width) != 0) = true := by simpa using hz
          have HZ : Hid (wrongI os k o (wide + o.width) ≠ 0) := Lib.hid (by simpa using hz)
          clear hal hz
          go_wp2_with (go_at_call 154; (with_reducible refine (HWR.out _).mono ?_); rintro e w4 ⟨rfl, hu5⟩; have HU5 := Lib.hid (HU3.out.trans hu5); clear hu5)
          go_ret2
          refine ⟨?_, HU5.out⟩
          have := HC2.out
          rw [if_pos HZ.out] at this
          rw [HE.out, ← this]; rfl
        · have hz' : (wrongI os k o (wide + o.width) != 0) = false := by simpa using hz
          have HZ : Hid (wrongI os k o (wide + o.width) = 0) := Lib.hid (by simpa using hz)
          clear hal hz
          go_wp2_with (go_at_call 154; (with_reducible refine (HWR.out _).mono ?_); rintro e w4 ⟨rfl, hu5⟩; have HU5 := Lib.hid (HU4.out.trans hu5); clear hu5)
          go_roundw
          case rel =>
            refine ⟨k + 1, wide + o.width, by omega, by go_num, rfl, by omega, Lib.hid ?_, HSU, HU5⟩
            have := HC2.out
            rw [if_neg (by rw [HZ.out]; simp)] at this
            exact this
          case measure => simp [intOf]; omega
    · obtain rfl : k = os.length := by omega
      rw [List.drop_of_length_le (Nat.le_refl _)] at HC
      have HCN : Hid (chkWrong os 0 os 0 = none) := Lib.hid HC.out.symm
      rw [HCN.out] at HE
      simp only at HE
      clear HC HCN hlt
      have hmk : ∀ W : World, (Instr.makeMap 257 none).run Tryz.prog W = .ok (.map (some W.heap.size)) (W.alloc (.map #[] 0)) := fun W => run_makeMap 257 W
      obtain ⟨m, hm⟩ : ∃ m, m = wr.heap.size := ⟨_, rfl⟩
      obtain ⟨w2, hw2⟩ : ∃ w2, w2 = wr.alloc (.map #[] 0) := ⟨_, rfl⟩
      have HR0 := Lib.hid (show RdAt wb m 0 [] w2 from ⟨by rw [hw2, hm]; exact World.ownsMap_made _ _ _ _, by rw [hw2]; exact HU2.out.trans ((Upd.refl _ wr).alloc _), by rw [hm]; exact HU2.out.size⟩)
      have hzl : w.heap.size < wr.heap.size := Nat.lt_of_lt_of_le (lt_of_heap HX1.out) HU2.out.size
      go_wp2_with (fail)
      rw [← hm, ← hw2]
      clear hmk hm hw2 d0 hzl
      have HINS := Lib.hid (fun k o (h : os[k]? = some o) => HWF.out.ins k o (List.getElem?_eq_some_iff.1 h).1 h)
      go_loopw [50] (fun j wq => ∃ (k : Nat), k ≤ os.length ∧ j = .int .i64 k ∧ Hid (RdAt wb m (8 * k) (readL (os.take k)) wq)) (fun j _ => os.length - (intOf j).toNat)
      case atStart => exact ⟨0, Nat.zero_le _, rfl, HR0⟩
      case round =>
        obtain ⟨k, hk, rfl, HRD⟩ := hrel
        have d0 := cells1_of ((HRD.out.upd.block _ (lt_of_heap HX1.out) (fun e => e)).trans HX1.out)
        by_cases hlt : k < os.length
        · obtain ⟨o, ho⟩ : ∃ o, os[k]? = some o := ⟨_, List.getElem?_eq_getElem hlt⟩
          have hop := HOPS.out.kept (HU.out.trans HRD.out.upd)
          obtain ⟨⟨b, f, hoa, c0, c1, c2, c3, c4⟩, hin, _⟩ := hop.at ho
          obtain ⟨_, hI1, hI2⟩ := HINS.out k o ho
          have HIB := Lib.hid hI1
          have HRS : Hid (readL (os.take (k + 1)) = readL (os.take k) ++ o.ins) := Lib.hid (readL_snoc ho)
          have hbl : b < wr.heap.size := lt_of_cell c0
          obtain ⟨wo, hwo⟩ : ∃ wo, wo = wr.alloc (.cells #[.int .i64 o.tag, .int .i64 o.width, .slice o.ia o.ins.length o.ic, .int .i64 o.a, .int .i64 o.b] 89) := ⟨_, rfl⟩
          have huo : Upd0 wr wo := by rw [hwo]; exact (Upd.refl _ wr).alloc _
          have HRO := Lib.hid (show RdAt wb m (8 * k) (readL (os.take k)) wo by rw [hwo]; exact HRD.out.grow (World.grownBy_alloc _ _ _))
          have HIN := Lib.hid (HOPS.out.at ho).2.1
          rw [hoa] at d0 HX1 HOPS ⊢
          clear ho hop hI1 hin hoa huo HINS
          go_wp2_with (fail)
          rw [← hwo]
          clear hwo c0 c1 c2 c3 c4 d0
          go_loopw [57] (fun j wq => ∃ (q : Nat), q ≤ o.ins.length ∧ j = .int .i64 q ∧ Hid (RdAt wb m (8 * k + q) (readL (os.take k) ++ o.ins.take q) wq)) (fun j _ => o.ins.length - (intOf j).toNat)
          case atStart => exact ⟨0, Nat.zero_le _, rfl, Lib.hid (by rw [List.take_zero, List.append_nil]; exact HRO.out)⟩
          case round =>
            obtain ⟨q, hq, rfl, HRQ⟩ := hrel
            by_cases hqt : q < o.ins.length
            · obtain ⟨z, hz⟩ : ∃ z, o.ins[q]? = some z := ⟨_, List.getElem?_eq_getElem hqt⟩
              obtain ⟨b1, o1, hia, hc⟩ := (HIN.out.kept (HU.out.trans HRQ.out.upd)).cell hz
              have hzb := HIB.out z (List.mem_of_getElem? hz)
              have HZQ : Hid (o.ins.take (q + 1) = o.ins.take q ++ [z]) := Lib.hid (take_cons' hz)
              rw [hia] at HIN ⊢
              clear hz hia
              go_wp2_with (at_mapUpdate; refine wpList_mapUpdate_own _ rfl _ _ _ 257 rfl 3 4 (Maps.int_keyed Tryz.underlying3i) Tryz.underlying97m _ m (8 * k + q) (rdD (readL (os.take k) ++ o.ins.take q)) rfl HRQ.out.own (by unfold maxLen; omega) _ _ (.int .i64 z) rfl rfl (Maps.keyOf_int_mk Tryz.underlying3i (by simp [Lit.wf, IntKind.min, IntKind.max, IntKind.signed, IntKind.bits]; omega)) (.lit (.bool true)) [] (plainElem_bool Tryz.underlying4b true) ?_; intro w7 hown7 hg7)
              have HR7 := Lib.hid (show RdAt wb m (8 * k + (q + 1)) (readL (os.take k) ++ o.ins.take (q + 1)) w7 from ⟨by rw [HZQ.out, ← List.append_assoc, rdD_snoc]; exact hown7, HRQ.out.upd.step (Upd.of_grown (F := fun k => k = m) hg7 (fun k hk => by injection hk with hk; exact hk.symm)) (fun k hk e => by have := HRQ.out.low; omega), HRQ.out.low⟩)
              clear hown7 hg7
              go_wp2_with (fail)
              go_roundw
              case rel => exact ⟨q + 1, by omega, by go_num, HR7⟩
              case measure => simp [intOf]; omega
            · obtain rfl : q = o.ins.length := by omega
              rw [List.take_length, ← HRS.out] at HRQ
              go_wp2_with (fail)
              go_roundw
              case rel => exact ⟨k + 1, by omega, by go_num, Lib.hid (HRQ.out.own.mono (by omega)), HRQ.out.upd, HRQ.out.low⟩
              case measure => simp [intOf]; omega
        · obtain rfl : k = os.length := by omega
          rw [List.take_length] at HRD
          go_wp2_with (fail)
          clear d0 HR0 HINS
          obtain ⟨rl, hrl⟩ : ∃ rl, rl = readL os := ⟨_, rfl⟩
          rw [← hrl] at HRD HE
          clear hrl
          go_loopw [68] (fun j wq => ∃ (k : Nat), k ≤ os.length ∧ j = .int .i64 k ∧ Hid (RdAt wb m (8 * os.length) rl wq) ∧ Hid (chkUnread rl k (os.drop k) = chkUnread rl 0 os)) (fun j _ => os.length - (intOf j).toNat)
          case atStart => exact ⟨0, Nat.zero_le _, rfl, HRD, Lib.hid rfl⟩
          case round =>
            clear HRD
            obtain ⟨k, hk, rfl, HRD, HC⟩ := hrel
            have d0 := cells1_of ((HRD.out.upd.block _ (lt_of_heap HX1.out) (fun e => e)).trans HX1.out)
            by_cases hlt : k < os.length
            · obtain ⟨o, ho⟩ : ∃ o, os[k]? = some o := ⟨_, List.getElem?_eq_getElem hlt⟩
              have hop := HOPS.out.kept (HU.out.trans HRD.out.upd)
              obtain ⟨⟨b, f, hoa, c0, c1, c2, c3, c4⟩, _, _⟩ := hop.at ho
              have HC2 : Hid ((if o.tag ≠ 7 ∧ rl.contains (k : Int) = false then some ((k : Int), 162) else chkUnread rl (k + 1) (os.drop (k + 1))) = chkUnread rl 0 os) := by
                have := HC.out
                rw [drop_cons' ho] at this
                exact Lib.hid this
              have hbl : b < wr.heap.size := lt_of_cell c0
              have HR2 := Lib.hid (HRD.out.grow (World.grownBy_alloc wr (.cells #[.int .i64 o.tag, .int .i64 o.width, .slice o.ia o.ins.length o.ic, .int .i64 o.a, .int .i64 o.b] 89) none))
              have hlk := look_rd HR2.out.own (s := (k : Int)) (by simp [Lit.wf, IntKind.min, IntKind.max, IntKind.signed, IntKind.bits]; omega)
              obtain ⟨rd, hrd⟩ : ∃ rd, rd = rl.contains (k : Int) := ⟨_, rfl⟩
              rw [← hrd] at hlk HC2
              rw [hoa] at d0 HX1 HOPS ⊢
              clear ho hop hoa HC hrd
              by_cases h7 : o.tag = 7
              · have h7' : (o.tag != 7) = false := by simpa using h7
                rw [if_neg (fun h => h.1 h7)] at HC2
                clear h7
                go_wp2_with (fail)
                go_roundw
                case rel => exact ⟨k + 1, by omega, by go_num, HR2, HC2⟩
                case measure => simp [intOf]; omega
              · have h7' : (o.tag != 7) = true := by simpa using h7
                cases rd
                · rw [if_pos ⟨h7, rfl⟩] at HC2
                  rw [← HC2.out] at HE
                  clear h7
                  go_wp2_with (fail)
                  go_ret2
                  exact ⟨by rw [HE.out]; rfl, HU.out.trans HR2.out.upd⟩
                · rw [if_neg (fun h => by cases h.2)] at HC2
                  clear h7
                  go_wp2_with (fail)
                  go_roundw
                  case rel => exact ⟨k + 1, by omega, by go_num, HR2, HC2⟩
                  case measure => simp [intOf]; omega
            · obtain rfl : k = os.length := by omega
              rw [List.drop_of_length_le (Nat.le_refl _)] at HC
              rw [← HC.out] at HE
              go_wp2_with (fail)
              go_ret2
              exact ⟨by rw [HE.out]; rfl, HU.out.trans HRD.out.upd⟩
end Go.Proofs.YtbonfdkgkcbkmaaGreat
end

section
namespace Go.Proofs.YtbonfdkgkcbkmaaGreat
set_option maxRecDepth 100000
set_option maxRecDepth 100000
open Go.RowKit

theorem chkWrong_none {os : List OpM} : ∀ (r : List OpM) (k : Nat) (wide : Int), os.drop k = r → k ≤ os.length → os.length ≤ 8 → WfOps os k → chkWrong os k r wide = none → WfOps os os.length
  | [], k, wide, hd, hk, h8, hw, _ => by
    have : os.length - k = 0 := by rw [← List.length_drop, hd]; rfl
    have e : k = os.length := by omega
    rw [e] at hw
    exact hw
  | o :: r, k, wide, hd, hk, h8, hw, h => by
    have ho : os[k]? = some o := by
      have := congrArg (·[0]?) hd
      simpa using this
    have hl := (List.getElem?_eq_some_iff.1 ho).1
    have hd2 : os.drop (k + 1) = r := by
      rw [drop_cons' ho] at hd
      injection hd
    unfold chkWrong at h
    split at h
    · cases h
    · rename_i h0
      have h1 : wrongI os k o (wide + o.width) = 0 := by
        apply Classical.byContradiction
        exact fun e => h0 e
      exact chkWrong_none r (k + 1) (wide + o.width) hd2 (by omega) h8 (wf_succ hw ho (wrongI_zero h1) (by omega)) h
theorem chkWrong_bad {os : List OpM} : ∀ (r : List OpM) (k : Nat) (wide : Int) (z : Int × Int), chkWrong os k r wide = some z → z.2 ≠ 0
  | [], _, _, z, h => by cases h
  | o :: r, k, wide, z, h => by
    unfold chkWrong at h
    split at h
    · rename_i h0
      injection h with h
      subst h
      exact h0
    · exact chkWrong_bad r _ _ z h
/-- A graph that may be: its operators stand. -/
theorem chkG_wf {os : List OpM} (h : (chkG os).2 = 0) : 1 ≤ os.length ∧ os.length ≤ 8 ∧ WfOps os os.length := by
  unfold chkG at h
  split at h
  · simp at h
  · rename_i hn
    refine ⟨by omega, by omega, ?_⟩
    cases hc : chkWrong os 0 os 0 with
    | none => exact chkWrong_none os 0 0 rfl (Nat.zero_le _) (by omega) ⟨by omega, by omega, fun j o hj => by omega, fun j hj => by omega⟩ hc
    | some z =>
      rw [hc] at h
      exact absurd h (chkWrong_bad _ _ _ _ hc)

end Go.Proofs.YtbonfdkgkcbkmaaGreat
end

section
namespace Go.Proofs.YtbonfdkgkcbkmaaGreat
set_option maxRecDepth 100000
set_option maxRecDepth 100000
open Go.RowKit Go.Shelf

theorem InsIn.at {w : World} {a : Option Addr} {xs : List InM} (h : InsIn w a xs) {i : Nat} {x : InM} (hi : xs[i]? = some x) : (∃ b f, a = some ⟨b, f, none⟩ ∧ w.cell? ⟨b, f + i * 2, none⟩ = some (.int .i64 x.src) ∧ w.cell? ⟨b, f + i * 2 + 1, none⟩ = some (.slice x.ra x.recs.length x.rc)) ∧ RecsIn w x.ra x.recs ∧ x.recs.length ≤ 140737488351232 := by
  refine ⟨?_, h.recs x (List.mem_of_getElem? hi)⟩
  obtain ⟨_, b, f, e, hc⟩ := h.row i x.cells (by rw [List.getElem?_map, hi]; rfl)
  exact ⟨b, f, e, by simpa using hc 0 _ rfl, by simpa [Nat.add_assoc] using hc 1 _ rfl⟩

/-- A work in memory. -/
structure WkIn (w : World) (oa : Option Addr) (os : List OpM) (oc : Nat) (xa : Option Addr) (xs : List InM) : Prop where
  ops : OpsIn w oa os
  ol : os.length ≤ 50
  cap : os.length ≤ oc
  om : oc ≤ maxLen
  ins : InsIn w xa xs
  xl : xs.length ≤ 20
theorem WkIn.kept {w w' : World} {oa : Option Addr} {os : List OpM} {oc : Nat} {xa : Option Addr} {xs : List InM} (h : WkIn w oa os oc xa xs) (hu : Upd0 w w') : WkIn w' oa os oc xa xs := ⟨h.ops.kept hu, h.ol, h.cap, h.om, h.ins.kept hu, h.xl⟩
theorem OwnI.snoc' {w : World} {B : Nat} {e : TypeId} {a : Option Addr} {n c : Nat} {l : List Int} {z : Int} (h : w.ownsRow B e 1 (.slice a (n + 1) c) (n + 1) (l.map I ++ [.int .i64 z])) (hn : n = l.length) : OwnI w B e (.slice a (l ++ [z]).length c) (l ++ [z]) := by
  subst hn
  show World.ownsRow _ _ _ _ _ _ _
  rw [List.length_append, List.map_append]
  exact h

/-- What holds between the rounds: a row of numbers, and nothing but new blocks changed. -/
structure RowAt (w : World) (B : Nat) (l : List Int) (a : Option Addr) (c : Nat) (W : World) : Prop where
  own : OwnI W B 3 (.slice a l.length c) l
  upd : Upd0 w W
  low : w.heap.size ≤ B
theorem RowAt.upd0 {w : World} {B : Nat} {l : List Int} {a : Option Addr} {c : Nat} {W W' : World} (h : RowAt w B l a c W) (hu : Upd0 W W') : RowAt w B l a c W' := ⟨ownsRow_any h.own hu (fun _ _ e => e), h.upd.trans hu, h.low⟩
theorem RowAt.snoc {w : World} {B : Nat} {l : List Int} {z : Int} {a b : Option Addr} {c d n : Nat} {W W' : World} (h : RowAt w B l a c W) (hown : W'.ownsRow B 3 1 (.slice b (n + 1) d) (n + 1) (l.map I ++ [.int .i64 z])) (hn : n = l.length) (hu : Upd (fun k => (Value.slice a n c).ownBlock = some k) W W') : RowAt w B (l ++ [z]) b d W' :=
  ⟨OwnI.snoc' hown hn, h.upd.cut hu (fun k hk => by subst hn; have := (World.ownsRow.lt h.own k hk).1; have := h.low; omega), h.low⟩

end Go.Proofs.YtbonfdkgkcbkmaaGreat
end

