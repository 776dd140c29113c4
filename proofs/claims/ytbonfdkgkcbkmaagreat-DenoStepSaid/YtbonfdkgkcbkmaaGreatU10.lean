/- Elements stored whole into rows of one's own; clear at elements of several cells. -/
import Derived.Test.YtbonfdkgkcbkmaaGreatU8
import Derived.Lib.SliceRun
import Derived.ChangeAlike
import Derived.RegionTactic
set_option linter.unusedVariables false
set_option linter.unusedSimpArgs false

section
namespace Go.Proofs.YtbonfdkgkcbkmaaGreat
set_option maxRecDepth 100000
open Go.RowKit Go.Shelf

theorem setCells_blk {b : Nat} {t : TypeId} : ∀ (vs : List Value) (o : Nat) (w : World) (cur : Array Value), w.heap[b]? = some (.cells cur t (0, 0)) →
    ∃ cur', (w.setCells b o vs).heap[b]? = some (.cells cur' t (0, 0)) ∧ cur'.size = cur.size ∧ (∀ j, j < o ∨ o + vs.length ≤ j → cur'[j]? = cur[j]?) ∧ ∀ j, o + j < cur.size → j < vs.length → cur'[o + j]? = vs[j]?
  | [], o, w, cur, h => ⟨cur, h, rfl, fun _ _ => rfl, fun j _ hj => by simp at hj⟩
  | v :: r, o, w, cur, h => by
    obtain ⟨cur', h1, h2, h3, h4⟩ := setCells_blk r (o + 1) _ _ (blk_set (i := o) (v := v) h)
    refine ⟨cur', h1, by rw [h2]; simp, fun j hj => ?_, fun j hj hl => ?_⟩
    · rw [h3 j (by simp at hj; omega)]
      rw [Array.getElem?_setIfInBounds]
      rw [if_neg (by simp at hj; omega)]
    · cases j with
      | zero =>
        rw [h3 (o + 0) (by omega), Array.getElem?_setIfInBounds, if_pos (by omega), if_pos (by simpa using hj)]
        rfl
      | succ j =>
        have := h4 j (by simp; omega) (by simpa using hl)
        rw [show o + (j + 1) = o + 1 + j by omega, this]
        rfl
theorem flat_getElem {s : Nat} (hs : 0 < s) : ∀ {xs : List (List Value)} (j : Nat), (∀ y ∈ xs, y.length = s) → xs.flatten[j]? = (xs[j / s]?).bind fun x => x[j % s]?
  | [], j, _ => by simp
  | y :: l, j, h => by
    have hy := h y (by simp)
    rw [List.flatten_cons]
    by_cases hj : j < s
    · rw [List.getElem?_append_left (by omega), Nat.div_eq_of_lt hj, Nat.mod_eq_of_lt hj]; rfl
    · have e1 : j / s = (j - s) / s + 1 := by rw [Nat.div_eq_sub_div hs (by omega)]
      have e2 : j % s = (j - s) % s := by rw [Nat.mod_eq_sub_mod (by omega)]
      rw [List.getElem?_append_right (by omega), hy, flat_getElem hs (j - s) (fun z hz => h z (by simp [hz])), e1, e2]
      rfl
theorem set_lens {s : Nat} {xs : List (List Value)} {i : Nat} {x : List Value} (h : ∀ y ∈ xs, y.length = s) (hx : x.length = s) : ∀ y ∈ xs.set i x, y.length = s := fun y hy => by
  rcases List.mem_or_eq_of_mem_set hy with h1 | h1
  · exact h y h1
  · rw [h1]; exact hx
/-- An element stored whole. -/
theorem own_setR {w : World} {B g n c s i : Nat} {e : TypeId} {els : List (List Value)} {x : List Value} (hs : 0 < s) (h : w.ownsRow B e s (.slice (some ⟨g, 0, none⟩) n c) n els.flatten) (hl : ∀ y ∈ els, y.length = s) (hn : els.length = n) (hx : x.length = s) (hi : i < n) :
    (w.setCells g (i * s) x).ownsRow B e s (.slice (some ⟨g, 0, none⟩) n c) n (els.set i x).flatten := by
  have hfl := flat_len hl
  have hl2 := set_lens (i := i) hl hx
  have hfl2 := flat_len hl2
  rcases h.2 with ⟨h1, _⟩ | ⟨g', cap, cur, h1, h2, h3, h4, h5, h6, h7⟩
  · cases h1
  · injection h1 with e1 _ e3
    injection e1 with e1
    injection e1 with e1
    subst e1 e3
    have hbig : n * s ≤ c * s := Nat.mul_le_mul_right s h4
    have his : i * s + s ≤ n * s := by rw [← Nat.succ_mul]; exact Nat.mul_le_mul_right s hi
    obtain ⟨cur', k1, k2, k3, k4⟩ := setCells_blk x (i * s) w cur h3
    refine ⟨by rw [hfl2]; simp [hn], .inr ⟨g, c, cur', rfl, h2, k1, h4, h5, by omega, ?_⟩⟩
    apply List.ext_getElem?
    intro j
    by_cases hj : j < n * s
    · rw [List.getElem?_take_of_lt hj, Array.getElem?_toList, flat_getElem hs j hl2]
      have hold : cur[j]? = (els[j / s]?).bind fun x => x[j % s]? := by
        rw [← flat_getElem hs j hl, ← h7, List.getElem?_take_of_lt hj, Array.getElem?_toList]
      have hdm : s * (j / s) + j % s = j := Nat.div_add_mod j s
      have hm : j % s < s := Nat.mod_lt _ hs
      by_cases e : j / s = i
      · have hj2 : j = i * s + j % s := by rw [← e, Nat.mul_comm]; exact hdm.symm
        rw [e, List.getElem?_set_self (by omega)]
        rw [hj2, k4 (j % s) (by omega) (by omega)]
        simp
      · rw [List.getElem?_set_ne (Ne.symm e), k3 j ?_, hold]
        rcases Nat.lt_or_ge (j / s) i with h8 | h8
        · left
          have : (j / s + 1) * s ≤ i * s := Nat.mul_le_mul_right s h8
          rw [Nat.succ_mul, Nat.mul_comm] at this
          omega
        · right
          have : (i + 1) * s ≤ j / s * s := Nat.mul_le_mul_right s (by omega)
          rw [Nat.succ_mul, Nat.mul_comm (j / s)] at this
          omega
    · rw [List.getElem?_eq_none (by simp; omega), List.getElem?_eq_none (by rw [hfl2]; simp [hn]; omega)]
theorem own_shape {w : World} {B g n c s : Nat} {e : TypeId} {xs : List Value} (h : w.ownsRow B e s (.slice (some ⟨g, 0, none⟩) n c) n xs) : ∃ cur, w.heap[g]? = some (.cells cur e (0, 0)) ∧ n ≤ c ∧ cur.size = c * s ∧ B ≤ g ∧ c ≤ maxLen := by
  rcases h.2 with ⟨h1, _⟩ | ⟨g', cap, cur, h1, h2, h3, h4, h5, h6, h7⟩
  · cases h1
  · injection h1 with e1 _ e3
    injection e1 with e1
    injection e1 with e1
    subst e1 e3
    exact ⟨cur, h3, h4, h6, h2, h5⟩
theorem own_there {w : World} {B g n c s i : Nat} {e : TypeId} {xs : List Value} (h : w.ownsRow B e s (.slice (some ⟨g, 0, none⟩) n c) n xs) (hi : i < n) : w.there g (i * s) s := by
  obtain ⟨cur, h1, h2, h3, _⟩ := own_shape h
  intro j hj
  have his : i * s + s ≤ n * s := by rw [← Nat.succ_mul]; exact Nat.mul_le_mul_right s hi
  have hbig : n * s ≤ c * s := Nat.mul_le_mul_right s h2
  refine ⟨?_, frozen_of_heap h1⟩
  rw [cell_of_heap h1, Array.getElem?_eq_getElem (by omega)]
  rfl
/-- The first ones of a row alone. -/
theorem own_cut {w : World} {B g n m c s : Nat} {e : TypeId} {els : List (List Value)} (h : w.ownsRow B e s (.slice (some ⟨g, 0, none⟩) n c) n els.flatten) (hl : ∀ y ∈ els, y.length = s) (hn : els.length = n) (hm : m ≤ n) :
    w.ownsRow B e s (.slice (some ⟨g, 0, none⟩) m c) m (els.take m).flatten := by
  have hl2 : ∀ y ∈ els.take m, y.length = s := fun y hy => hl y (List.mem_of_mem_take hy)
  have hfl := flat_len hl
  have hfl2 := flat_len hl2
  have hml : (els.take m).length = m := by simp; omega
  rcases h.2 with ⟨h1, _⟩ | ⟨g', cap, cur, h1, h2, h3, h4, h5, h6, h7⟩
  · cases h1
  · injection h1 with e1 _ e3
    injection e1 with e1
    injection e1 with e1
    subst e1 e3
    refine ⟨by rw [hfl2, hml], .inr ⟨g, c, cur, rfl, h2, h3, by omega, h5, h6, ?_⟩⟩
    have e4 : els.flatten = (els.take m).flatten ++ (els.drop m).flatten := by rw [← List.flatten_append, List.take_append_drop]
    have hms : m * s ≤ n * s := Nat.mul_le_mul_right s hm
    have := congrArg (List.take (m * s)) h7
    rw [List.take_take, Nat.min_eq_left hms, e4, List.take_append_of_le_length (by rw [hfl2, hml]; exact Nat.le_refl _)] at this
    rw [this]
    exact List.take_of_length_le (by rw [hfl2, hml]; exact Nat.le_refl _)
theorem Upd.of_setCells (w : World) (g o : Nat) (vs : List Value) : Upd (fun k => k = g) w (w.setCells g o vs) := upd_setCells w g o vs
/-- clear(s): the cells of its elements hold zeros. -/
theorem run_clear_cells {P : Program} (w : World) (t e ty : TypeId) (z : Value) (ht : P.underlying t = some (.slice e)) (hv : ∀ w, (zeroValue e).run P w = .ok z w) (h1 : ∀ v ∈ z.cells, v.oneCell' = true) (b o n c : Nat) (hn : 0 < n)
    (hth : w.there b o (n * z.cells.size)) : (Builtin.clear_ #[t] ty #[.slice (some ⟨b, o, none⟩) n c]).run P w = .ok (.tuple #[]) (w.setCells b o (Builtin.zeroCells z.cells n).toList) := by
  have hsz : (Builtin.zeroCells z.cells n).size = n * z.cells.size := by simp [Builtin.zeroCells]
  have hst := run_storeCells_cells (P := P) b o (Builtin.zeroCells z.cells n).toList 0 w (fun j hj => by simpa using (hth j (by simpa [hsz] using hj)).1) (fun j hj => by simpa using (hth j (by simpa [hsz] using hj)).2) (fun v hv' => by
    simp only [Builtin.zeroCells, Array.toList_map, List.mem_map, Array.toList_range, List.mem_range] at hv'
    obtain ⟨i, hi, rfl⟩ := hv'
    have hpos : 0 < z.cells.size := by
      rcases Nat.eq_zero_or_pos z.cells.size with h0 | h0
      · rw [h0] at hi; simp at hi
      · exact h0
    rw [getElem!_pos z.cells _ (Nat.mod_lt _ hpos)]
    exact h1 _ (Array.getElem_mem _))
  obtain ⟨m, rfl⟩ : ∃ m, n = m + 1 := ⟨n - 1, by omega⟩
  simp only [Nat.add_zero] at hst
  simp [Builtin.clear_, run_underlying ht, hv, hst]
end Go.Proofs.YtbonfdkgkcbkmaaGreat
end

section
namespace Go.Proofs.YtbonfdkgkcbkmaaGreat
set_option maxRecDepth 100000
set_option maxRecDepth 100000
open Go.RowKit Go.Shelf

attribute [local go_sem] Oper.semAt_some
def le8 (x y : List Int) : Bool := (List.range 8).all fun g => decide (x.getD g 0 ≤ y.getD g 0)
theorem le8_yes {x y : List Int} (h : ∀ g, g < 8 → x.getD g 0 ≤ y.getD g 0) : le8 x y = true := by
  unfold le8
  rw [List.all_eq_true]
  intro g hg
  simpa using h g (by simpa using hg)
theorem le8_no {x y : List Int} {k : Nat} (hk : k < 8) (h : y.getD k 0 < x.getD k 0) : le8 x y = false := by
  cases hb : le8 x y with
  | false => rfl
  | true =>
    unfold le8 at hb
    rw [List.all_eq_true] at hb
    have := hb k (by simpa using hk)
    simp at this
    simp only [List.getD_eq_getElem?_getD] at h
    omega
set_option maxHeartbeats 2000000 in
theorem below1_any (x y : List Int) (w : World) (hx : x.length = 8) (hy : y.length = 8) : Calls Tryz.prog 64 #[.agg (x.map I).toArray, .agg (y.map I).toArray] w fun e w' => e = .returned (.bool (le8 x y)) ∧ Upd0 w w' := by
  obtain ⟨w1, hw1⟩ : ∃ w1, w1 = (w.alloc (.cells (x.map I).toArray 43)).alloc (.cells (y.map I).toArray 43) := ⟨_, rfl⟩
  have HU := Lib.hid (show Upd0 w w1 by rw [hw1]; exact ((Upd.refl _ w).alloc _).alloc _)
  have HX := Lib.hid (show w1.heap[w.heap.size]? = some (.cells (x.map I).toArray 43 (0, 0)) by rw [hw1]; exact (alloc_lt (by simp)).trans (alloc_at rfl))
  have HY := Lib.hid (show w1.heap[w.heap.size + 1]? = some (.cells (y.map I).toArray 43 (0, 0)) by rw [hw1]; exact alloc_at (by simp))
  go_enter Tryz.func64, Tryz.ntmps64
  go_wp2_with (fail)
  rw [← hw1]
  clear hw1
  go_loopw [6] (fun i wr => ∃ k : Nat, k ≤ 8 ∧ i = .int .i64 k ∧ Hid (∀ g, g < k → x.getD g 0 ≤ y.getD g 0) ∧ Hid (Upd0 w1 wr)) (fun i _ => 8 - (intOf i).toNat)
  case atStart => exact ⟨0, by omega, rfl, Lib.hid (fun g hg => by omega), Lib.hid (Upd.refl _ _)⟩
  case round =>
    obtain ⟨k, hk, rfl, HL, HR⟩ := hrel
    by_cases hlt : k < 8
    · have hk8 : (k : Int) < 8 := by omega
      obtain ⟨xk, hxk⟩ : ∃ xk, xk = x.getD k 0 := ⟨_, rfl⟩
      obtain ⟨yk, hyk⟩ : ∃ yk, yk = y.getD k 0 := ⟨_, rfl⟩
      have HXK := Lib.hid (show wr.cell? ⟨w.heap.size, k, none⟩ = some (.int .i64 xk) by rw [HR.out.get.1 _ _ (lt_of_heap HX.out), cell_of_heap HX.out, hxk]; simp [List.getD, show k < x.length by omega])
      have HYK := Lib.hid (show wr.cell? ⟨w.heap.size + 1, k, none⟩ = some (.int .i64 yk) by rw [HR.out.get.1 _ _ (lt_of_heap HY.out), cell_of_heap HY.out, hyk]; simp [List.getD, show k < y.length by omega])
      have HE := Lib.hid (And.intro hxk hyk)
      have HRD := Lib.hid (HR.out.drew)
      clear hxk hyk
      go_upto_region 4 with fail
      have hA : wr.drew = wr.drew := rfl
      refine wp_region_G 6 (fun W => W = wr.drew) [false, false, false, false, false, false, false] rfl (by kernel_rfl) ?_
      refine wpG_takeT (i := 0) (v := .int .i64 k) rfl (fun L hc h => (hc.waits (n := 6) (i := 2) (by kernel_rfl) (hc.waits (n := 2) (i := 1) (by kernel_rfl) (hc.waits (n := 1) (i := 0) (by kernel_rfl) h)))) (by kernel_rfl) (fun _ _ _ h => h) hA (.inl ⟨rfl, fun w5 q1 => ?_⟩) ?_
      · go_simp
      simp only [Act.put, List.setIfInBounds_toArray, List.set]
      refine wpG_takeT (i := 1) (v := .pointer (some ⟨w.heap.size, k, none⟩)) rfl (fun L hc h => (hc.waits (n := 6) (i := 2) (by kernel_rfl) (hc.waits (n := 2) (i := 1) (by kernel_rfl) h))) (by kernel_rfl) (fun _ _ _ h => h) hA (.inl ⟨rfl, fun w5 q1 => ?_⟩) ?_
      · go_simp
      simp only [Act.put, List.setIfInBounds_toArray, List.set]
      refine wpG_takeT (i := 2) (v := .int .i64 xk) rfl (fun L hc h => (hc.waits (n := 6) (i := 2) (by kernel_rfl) h)) (by kernel_rfl) (fun _ _ _ h => h) hA (.inl ⟨rfl, fun w5 q1 => ?_⟩) ?_
      · subst q1
        have c5 : wr.drew.cell? ⟨w.heap.size, k, none⟩ = some (.int .i64 xk) := HXK.out
        go_simp
      simp only [Act.put, List.setIfInBounds_toArray, List.set]
      refine wpG_takeT (i := 3) (v := .int .i64 k) rfl (fun L hc h => (hc.waits (n := 6) (i := 5) (by kernel_rfl) (hc.waits (n := 5) (i := 4) (by kernel_rfl) (hc.waits (n := 4) (i := 3) (by kernel_rfl) h)))) (by kernel_rfl) (fun _ _ _ h => h) hA (.inl ⟨rfl, fun w5 q1 => ?_⟩) ?_
      · go_simp
      simp only [Act.put, List.setIfInBounds_toArray, List.set]
      refine wpG_takeT (i := 4) (v := .pointer (some ⟨w.heap.size + 1, k, none⟩)) rfl (fun L hc h => (hc.waits (n := 6) (i := 5) (by kernel_rfl) (hc.waits (n := 5) (i := 4) (by kernel_rfl) h))) (by kernel_rfl) (fun _ _ _ h => h) hA (.inl ⟨rfl, fun w5 q1 => ?_⟩) ?_
      · go_simp
      simp only [Act.put, List.setIfInBounds_toArray, List.set]
      refine wpG_takeT (i := 5) (v := .int .i64 yk) rfl (fun L hc h => (hc.waits (n := 6) (i := 5) (by kernel_rfl) h)) (by kernel_rfl) (fun _ _ _ h => h) hA (.inl ⟨rfl, fun w5 q1 => ?_⟩) ?_
      · subst q1
        have c5 : wr.drew.cell? ⟨w.heap.size + 1, k, none⟩ = some (.int .i64 yk) := HYK.out
        go_simp
      simp only [Act.put, List.setIfInBounds_toArray, List.set]
      refine wpG_tail_lit (k := 6) rfl rfl (by kernel_rfl) ?_
      simp only [List.drop]
      by_cases hle : yk < xk
      · go_wp2
        go_ret
        exact ⟨ret_bool (le8_no hlt (by rw [← HE.out.1, ← HE.out.2]; exact hle)).symm, HU.out.trans HRD.out⟩
      · have HLE := Lib.hid hle
        go_wp2
        go_roundw
        case rel =>
          refine ⟨k + 1, by omega, by go_num, Lib.hid (fun g hg => ?_), HRD⟩
          rcases Nat.lt_or_ge g k with h | h
          · exact HL.out g h
          · obtain rfl : g = k := by omega
            rw [← HE.out.1, ← HE.out.2]; have := HLE.out; omega
        case measure => simp [intOf]; omega
    · obtain rfl : k = 8 := by omega
      go_wp2_with (fail)
      go_ret
      exact ⟨ret_bool (le8_yes HL.out).symm, HU.out.trans HR.out⟩

def belowL : List (List Int) → List (List Int) → Bool
  | [], [] => true
  | x :: a, y :: b => le8 x y && belowL a b
  | _, _ => false
theorem belowL_len : ∀ (a b : List (List Int)), a.length ≠ b.length → belowL a b = false
  | [], [], h => by simp at h
  | [], _ :: _, _ => rfl
  | _ :: _, [], _ => rfl
  | x :: a, y :: b, h => by rw [belowL, belowL_len a b (by simpa using h), Bool.and_false]
set_option maxHeartbeats 4000000 in
theorem equalf_any {aa ba : Option Addr} {a b : List (List Int)} {ac bc : Nat} (w : World) (h : AtIn w aa a) (h' : AtIn w ba b) (ha : a.length ≤ 1000) (hb : b.length ≤ 1000) :
    Calls Tryz.prog 63 #[.slice aa a.length ac, .slice ba b.length bc, .func (.func 64) #[] #[]] w fun e w' => e = .returned (.bool (belowL a b)) ∧ Upd0 w w' := by
  have HA := Lib.hid h; have HB := Lib.hid h'
  clear h h'
  by_cases hl : a.length = b.length
  · have hle : ((a.length : Int) != (b.length : Int)) = false := by simp [hl]
    have HL := Lib.hid hl
    clear hl
    go_enter Tryz.func63, Tryz.ntmps63
    go_wp2_with (fail)
    clear hle
    go_loopw [17] (fun i wr => ∃ k : Nat, k ≤ a.length ∧ i = .int .i64 k ∧ Hid (belowL (a.drop k) (b.drop k) = belowL a b) ∧ Hid (Upd0 w wr)) (fun i _ => a.length - (intOf i).toNat)
    case atStart => exact ⟨0, Nat.zero_le _, rfl, Lib.hid rfl, Lib.hid (Upd.refl _ _)⟩
    case round =>
      obtain ⟨k, hk, rfl, HE, HR⟩ := hrel
      by_cases hlt : k < a.length
      · have hl2 : k < b.length := by have := HL.out; omega
        obtain ⟨x, hx⟩ : ∃ x, a[k]? = some x := ⟨_, List.getElem?_eq_getElem hlt⟩
        obtain ⟨y, hy⟩ : ∃ y, b[k]? = some y := ⟨_, List.getElem?_eq_getElem hl2⟩
        have HE2 : Hid ((le8 x y && belowL (a.drop (k + 1)) (b.drop (k + 1))) = belowL a b) := by
          have := HE.out
          rw [drop_cons' hx, drop_cons' hy, belowL] at this
          exact Lib.hid this
        obtain ⟨ab, af, o0, o1, o2, o3, o4, o5, o6, o7, haa, hmap, a0, a1, a2, a3, a4, a5, a6, a7⟩ := (HA.out.kept HR.out).at hx
        obtain ⟨bb, bf, p0, p1, p2, p3, p4, p5, p6, p7, hba, hmap2, b0, b1, b2, b3, b4, b5, b6, b7⟩ := (HB.out.kept HR.out).at hy
        have hal := lt_of_cell a0
        have hbl := lt_of_cell b0
        obtain ⟨w3, hw3⟩ : ∃ w3, w3 = (wr.alloc (.cells #[.int .i64 o0, .int .i64 o1, .int .i64 o2, .int .i64 o3, .int .i64 o4, .int .i64 o5, .int .i64 o6, .int .i64 o7] 43)).alloc (.cells #[.int .i64 p0, .int .i64 p1, .int .i64 p2, .int .i64 p3, .int .i64 p4, .int .i64 p5, .int .i64 p6, .int .i64 p7] 43) := ⟨_, rfl⟩
        have hu3 : Upd0 wr w3 := by rw [hw3]; exact ((Upd.refl _ wr).alloc _).alloc _
        have HC := Lib.hid (below1_any x y w3 (HA.out.len x (List.mem_of_getElem? hx)) (HB.out.len y (List.mem_of_getElem? hy)))
        rw [hmap, hmap2] at HC
        have HU3 := Lib.hid (HR.out.trans hu3)
        obtain ⟨lv, hlv⟩ : ∃ lv, lv = le8 x y := ⟨_, rfl⟩
        rw [← hlv] at HC HE2
        subst haa hba
        clear hx hy hmap hmap2 hu3 hlv HE
        go_wp2_with (fail)
        rw [← hw3]
        clear hw3 a0 a1 a2 a3 a4 a5 a6 a7 b0 b1 b2 b3 b4 b5 b6 b7
        refine HC.out.mono ?_
        rintro _ w4 ⟨rfl, hu4⟩
        have HU4 := Lib.hid (HU3.out.trans hu4)
        clear hu4 HC
        simp only []
        cases lv
        · have HE3 := Lib.hid (show belowL a b = false from HE2.out.symm)
          go_wp2
          go_ret
          exact ⟨ret_bool HE3.out.symm, HU4.out⟩
        · have HE3 := Lib.hid (show belowL (a.drop (k + 1)) (b.drop (k + 1)) = belowL a b by rw [← HE2.out]; rfl)
          go_wp2
          go_roundw
          case rel => exact ⟨k + 1, by omega, by go_num, HE3, HU4⟩
          case measure => simp [intOf]; omega
      · obtain rfl : k = a.length := by omega
        have HE2 := HE.out
        rw [List.drop_of_length_le (Nat.le_refl _), List.drop_of_length_le (by rw [HL.out]; exact Nat.le_refl _), belowL] at HE2
        have HE3 := Lib.hid HE2
        clear HE2 HE
        go_wp2
        go_ret
        exact ⟨ret_bool HE3.out, HR.out⟩
  · have hle : ((a.length : Int) != (b.length : Int)) = true := by simp; omega
    have HL := Lib.hid hl
    clear hl
    go_enter Tryz.func63, Tryz.ntmps63
    go_wp2
    go_ret
    exact ⟨ret_bool (belowL_len _ _ HL.out).symm, Upd.refl _ _⟩
theorem below_any {aa ba : Option Addr} {a b : List (List Int)} {ac bc : Nat} (w : World) (h : AtIn w aa a) (h' : AtIn w ba b) (ha : a.length ≤ 1000) (hb : b.length ≤ 1000) :
    Calls Tryz.prog 16 #[.slice aa a.length ac, .slice ba b.length bc] w fun e w' => e = .returned (.bool (belowL a b)) ∧ Upd0 w w' := by
  have HC := Lib.hid (equalf_any (ac := ac) (bc := bc) w h h' ha hb)
  clear h h'
  go_enter Tryz.func16, Tryz.ntmps16
  go_wp2_with (go_at_call 63; fail)
  refine HC.out.mono ?_
  rintro _ w2 ⟨rfl, hu2⟩
  have HU2 := Lib.hid hu2
  clear hu2
  simp only []
  go_wp2
  go_ret
  exact ⟨rfl, HU2.out⟩
end Go.Proofs.YtbonfdkgkcbkmaaGreat
end

section
namespace Go.Proofs.YtbonfdkgkcbkmaaGreat
set_option maxRecDepth 100000
set_option maxRecDepth 100000
open Go.RowKit Go.Shelf

attribute [local go_sem] Oper.semAt_some
def beginsB (l h : List Int) : Bool := decide (h.length ≤ l.length ∧ ∀ i, i < h.length → l.getD i 0 = h.getD i 0)
set_option maxHeartbeats 4000000 in
theorem begins_any {la ha : Option Addr} {l h : List Int} {lc hc : Nat} (w : World) (hl : IntsIn w la l) (hh : IntsIn w ha h) (bl : l.length ≤ 140737488351232) (bh : h.length ≤ 140737488351232) :
    Calls Tryz.prog 18 #[.slice la l.length lc, .slice ha h.length hc] w fun e w' => e = .returned (.bool (beginsB l h)) ∧ Upd0 w w' := by
  have HL := Lib.hid hl; have HH := Lib.hid hh
  clear hl hh
  by_cases hn : l.length < h.length
  · have hn' : (l.length : Int) < h.length := by omega
    have HB : Hid (beginsB l h = false) := Lib.hid (by simp [beginsB]; omega)
    go_enter Tryz.func18, Tryz.ntmps18
    go_wp2
    go_ret
    exact ⟨ret_bool HB.out.symm, Upd.refl _ _⟩
  · have hn' : ¬ (l.length : Int) < h.length := by omega
    go_enter Tryz.func18, Tryz.ntmps18
    go_wp2_with (fail)
    clear hn'
    go_loopw [13] (fun i wr => ∃ k : Nat, k ≤ h.length ∧ i = .int .i64 k ∧ Hid (∀ i, i < k → l.getD i 0 = h.getD i 0) ∧ Hid (Upd0 w wr)) (fun i _ => h.length - (intOf i).toNat)
    case atStart => exact ⟨0, Nat.zero_le _, rfl, Lib.hid (fun i hi => by omega), Lib.hid (Upd.refl _ _)⟩
    case round =>
      obtain ⟨k, hk, rfl, HE, HR⟩ := hrel
      by_cases hlt : k < h.length
      · have hl2 : k < l.length := by omega
        obtain ⟨x, hx⟩ : ∃ x, l[k]? = some x := ⟨_, List.getElem?_eq_getElem hl2⟩
        obtain ⟨y, hy⟩ : ∃ y, h[k]? = some y := ⟨_, List.getElem?_eq_getElem hlt⟩
        obtain ⟨ab, af, hla, hcx⟩ := (HL.out.kept HR.out).cell hx
        obtain ⟨bb, bf, hha, hcy⟩ := (HH.out.kept HR.out).cell hy
        have HX := Lib.hid hcx; have HY := Lib.hid hcy
        have HXY := Lib.hid (show l.getD k 0 = x ∧ h.getD k 0 = y by rw [List.getD_eq_getElem?_getD, List.getD_eq_getElem?_getD, hx, hy]; exact ⟨rfl, rfl⟩)
        have HRD := Lib.hid HR.out.drew
        subst hla hha
        clear hx hy hcx hcy
        have hlti : (k : Int) < h.length := by omega
        go_upto_region 6 with fail
        have hA : wr.drew = wr.drew := rfl
        refine wp_region_G 8 (fun W => W = wr.drew) [false, false, false, false, false, false, false, false, false] rfl (by kernel_rfl) ?_
        refine wpG_takeT (i := 0) (v := .slice (some ⟨ab, af, none⟩) l.length lc) rfl (fun L hc h => (hc.waits (n := 8) (i := 3) (by kernel_rfl) (hc.waits (n := 3) (i := 2) (by kernel_rfl) (hc.waits (n := 2) (i := 0) (by kernel_rfl) h)))) (by kernel_rfl) (fun _ _ _ h => h) hA (.inl ⟨rfl, fun w5 q1 => ?_⟩) ?_
        · go_simp
        simp only [Act.put, List.setIfInBounds_toArray, List.set]
        refine wpG_takeT (i := 1) (v := .int .i64 k) rfl (fun L hc h => (hc.waits (n := 8) (i := 3) (by kernel_rfl) (hc.waits (n := 3) (i := 2) (by kernel_rfl) (hc.waits (n := 2) (i := 1) (by kernel_rfl) h)))) (by kernel_rfl) (fun _ _ _ h => h) hA (.inl ⟨rfl, fun w5 q1 => ?_⟩) ?_
        · go_simp
        simp only [Act.put, List.setIfInBounds_toArray, List.set]
        refine wpG_takeT (i := 2) (v := .pointer (some ⟨ab, af + k, none⟩)) rfl (fun L hc h => (hc.waits (n := 8) (i := 3) (by kernel_rfl) (hc.waits (n := 3) (i := 2) (by kernel_rfl) h))) (by kernel_rfl) (fun _ _ _ h => h) hA (.inl ⟨rfl, fun w5 q1 => ?_⟩) ?_
        · go_simp
        simp only [Act.put, List.setIfInBounds_toArray, List.set]
        refine wpG_takeT (i := 3) (v := .int .i64 x) rfl (fun L hc h => (hc.waits (n := 8) (i := 3) (by kernel_rfl) h)) (by kernel_rfl) (fun _ _ _ h => h) hA (.inl ⟨rfl, fun w5 q1 => ?_⟩) ?_
        · subst q1
          have c5 : wr.drew.cell? ⟨ab, af + k, none⟩ = some (.int .i64 x) := HX.out
          go_simp
        simp only [Act.put, List.setIfInBounds_toArray, List.set]
        refine wpG_takeT (i := 4) (v := .slice (some ⟨bb, bf, none⟩) h.length hc) rfl (fun L hc h => (hc.waits (n := 8) (i := 7) (by kernel_rfl) (hc.waits (n := 7) (i := 6) (by kernel_rfl) (hc.waits (n := 6) (i := 4) (by kernel_rfl) h)))) (by kernel_rfl) (fun _ _ _ h => h) hA (.inl ⟨rfl, fun w5 q1 => ?_⟩) ?_
        · go_simp
        simp only [Act.put, List.setIfInBounds_toArray, List.set]
        refine wpG_takeT (i := 5) (v := .int .i64 k) rfl (fun L hc h => (hc.waits (n := 8) (i := 7) (by kernel_rfl) (hc.waits (n := 7) (i := 6) (by kernel_rfl) (hc.waits (n := 6) (i := 5) (by kernel_rfl) h)))) (by kernel_rfl) (fun _ _ _ h => h) hA (.inl ⟨rfl, fun w5 q1 => ?_⟩) ?_
        · go_simp
        simp only [Act.put, List.setIfInBounds_toArray, List.set]
        refine wpG_takeT (i := 6) (v := .pointer (some ⟨bb, bf + k, none⟩)) rfl (fun L hc h => (hc.waits (n := 8) (i := 7) (by kernel_rfl) (hc.waits (n := 7) (i := 6) (by kernel_rfl) h))) (by kernel_rfl) (fun _ _ _ h => h) hA (.inl ⟨rfl, fun w5 q1 => ?_⟩) ?_
        · go_simp
        simp only [Act.put, List.setIfInBounds_toArray, List.set]
        refine wpG_takeT (i := 7) (v := .int .i64 y) rfl (fun L hc h => (hc.waits (n := 8) (i := 7) (by kernel_rfl) h)) (by kernel_rfl) (fun _ _ _ h => h) hA (.inl ⟨rfl, fun w5 q1 => ?_⟩) ?_
        · subst q1
          have c5 : wr.drew.cell? ⟨bb, bf + k, none⟩ = some (.int .i64 y) := HY.out
          go_simp
        simp only [Act.put, List.setIfInBounds_toArray, List.set]
        refine wpG_tail_lit (k := 8) rfl rfl (by kernel_rfl) ?_
        simp only [List.drop]
        cases hne : x != y
        · have hxy : x = y := by simpa using hne
          have HQ := Lib.hid hxy
          clear hxy
          go_wp2
          go_roundw
          case rel =>
            refine ⟨k + 1, by omega, by go_num, Lib.hid (fun i hi => ?_), HRD⟩
            rcases Nat.lt_or_ge i k with hq | hq
            · exact HE.out i hq
            · obtain rfl : i = k := by omega
              rw [HXY.out.1, HXY.out.2, HQ.out]
          case measure => simp [intOf]; omega
        · have HB : Hid (beginsB l h = false) := Lib.hid (by
            simp only [beginsB, decide_eq_false_iff_not, not_and]
            intro _ hq
            have := hq k hlt
            rw [HXY.out.1, HXY.out.2] at this
            simp [this] at hne)
          go_wp2
          go_ret
          exact ⟨ret_bool HB.out.symm, HRD.out⟩
      · obtain rfl : k = h.length := by omega
        have HB : Hid (beginsB l h = true) := Lib.hid (by simp only [beginsB, decide_eq_true_eq]; exact ⟨by omega, HE.out⟩)
        go_wp2
        go_ret
        exact ⟨ret_bool HB.out.symm, HR.out⟩

def wideIns (o : OpM) : Bool := decide (50 < o.ins.length)
def wideRecs (x : InM) : Bool := decide (200 < x.recs.length)
def overB (os : List OpM) (xs : List InM) : Bool := decide (50 < os.length) || decide (20 < xs.length) || os.any wideIns || xs.any wideRecs
set_option maxHeartbeats 4000000 in
theorem over_any {oa xa : Option Addr} {os : List OpM} {xs : List InM} {oc xc : Nat} (w : World) (h : OpsIn w oa os) (hx : InsIn w xa xs) (ho : os.length ≤ 140737488351232) (hxl : xs.length ≤ 140737488351232) :
    Calls Tryz.prog 10 #[wkV oa os oc xa xs xc] w fun e w' => e = .returned (.bool (overB os xs)) ∧ Upd0 w w' := by
  obtain ⟨w1, hw1⟩ : ∃ w1, w1 = w.alloc (.cells #[.slice oa os.length oc, .slice xa xs.length xc] 27) := ⟨_, rfl⟩
  have HU := Lib.hid (show Upd0 w w1 by rw [hw1]; exact (Upd.refl _ w).alloc _)
  have HX1 := Lib.hid (show w1.heap[w.heap.size]? = some (.cells #[.slice oa os.length oc, .slice xa xs.length xc] 27 (0, 0)) by rw [hw1]; exact alloc_at rfl)
  have H := Lib.hid h; have HX := Lib.hid hx
  obtain ⟨c0, c1⟩ := cells2_of HX1.out
  have HOV := Lib.hid (overB.eq_1 os xs)
  obtain ⟨ov, hov⟩ : ∃ ov, ov = overB os xs := ⟨_, rfl⟩
  rw [← hov] at HOV ⊢
  clear h hx hov
  by_cases hn1 : 50 < os.length
  · have hn1' : (50 : Int) < os.length := by omega
    have HB : Hid (ov = true) := Lib.hid (by rw [HOV.out]; simp [hn1])
    go_enter Tryz.func10, Tryz.ntmps10
    go_wp2_with (fail)
    rw [← hw1]
    go_ret
    exact ⟨ret_bool HB.out.symm, HU.out⟩
  · have hn1' : ¬ (50 : Int) < os.length := by omega
    by_cases hn2 : 20 < xs.length
    · have hn2' : (20 : Int) < xs.length := by omega
      have HB : Hid (ov = true) := Lib.hid (by rw [HOV.out]; simp [hn2])
      go_enter Tryz.func10, Tryz.ntmps10
      go_wp2_with (fail)
      rw [← hw1]
      go_ret
      exact ⟨ret_bool HB.out.symm, HU.out⟩
    · have hn2' : ¬ (20 : Int) < xs.length := by omega
      have HOV2 : Hid (ov = (os.any wideIns || xs.any wideRecs)) := Lib.hid (by rw [HOV.out]; simp [hn1, hn2])
      clear HOV
      go_enter Tryz.func10, Tryz.ntmps10
      go_wp2_with (fail)
      rw [← hw1]
      clear hw1 c0 c1 hn1' hn2'
      go_loopw [22] (fun i wr => ∃ k : Nat, k ≤ os.length ∧ i = .int .i64 k ∧ Hid ((os.take k).any wideIns = false) ∧ Hid (Upd0 w1 wr)) (fun i _ => os.length - (intOf i).toNat)
      case atStart => exact ⟨0, Nat.zero_le _, rfl, Lib.hid rfl, Lib.hid (Upd.refl _ _)⟩
      case round =>
        obtain ⟨k, hk, rfl, HN, HR⟩ := hrel
        by_cases hlt : k < os.length
        · obtain ⟨o, hoe⟩ : ∃ o, os[k]? = some o := ⟨_, List.getElem?_eq_getElem hlt⟩
          obtain ⟨⟨b, f, hoa, d0, d1, d2, d3, d4⟩, _, _⟩ := (H.out.kept (HU.out.trans HR.out)).at hoe
          have HTK : Hid (os.take (k + 1) = os.take k ++ [o]) := Lib.hid (take_cons' hoe)
          have HAN := Lib.hid (fun hp => any_take (p := wideIns) hoe hp)
          have hbl := lt_of_cell d0
          have HR2 := Lib.hid (HR.out.alloc (.cells #[.int .i64 o.tag, .int .i64 o.width, .slice o.ia o.ins.length o.ic, .int .i64 o.a, .int .i64 o.b] 89))
          subst hoa
          clear hoe
          by_cases hw : 50 < o.ins.length
          · have hw' : (50 : Int) < o.ins.length := by omega
            have HB : Hid (ov = true) := Lib.hid (by rw [HOV2.out, HAN.out (by simp [wideIns, hw])]; rfl)
            clear hw
            go_wp2
            go_ret
            exact ⟨ret_bool HB.out.symm, HU.out.trans HR2.out⟩
          · have hw' : ¬ (50 : Int) < o.ins.length := by omega
            have HWN := Lib.hid (show wideIns o = false by simp [wideIns]; omega)
            clear hw
            go_wp2
            go_roundw
            case rel => exact ⟨k + 1, by omega, by go_num, Lib.hid (by rw [HTK.out, List.any_append, HN.out]; simp [HWN.out]), HR2⟩
            case measure => simp [intOf]; omega
        · obtain rfl : k = os.length := by omega
          rw [List.take_length] at HN
          have HOV3 : Hid (ov = xs.any wideRecs) := Lib.hid (by rw [HOV2.out, HN.out]; rfl)
          obtain ⟨c0, c1⟩ := cells2_of ((HR.out.block _ (lt_of_heap HX1.out) (fun e => e)).trans HX1.out)
          clear HOV2 HN
          go_wp2_with (fail)
          clear c0 c1
          obtain ⟨v1, hv1⟩ : ∃ v1, v1 = wr := ⟨_, rfl⟩
          subst hv1
          go_loopw [34] (fun i wr => ∃ k : Nat, k ≤ xs.length ∧ i = .int .i64 k ∧ Hid ((xs.take k).any wideRecs = false) ∧ Hid (Upd0 v1 wr)) (fun i _ => xs.length - (intOf i).toNat)
          case atStart => exact ⟨0, Nat.zero_le _, rfl, Lib.hid rfl, Lib.hid (Upd.refl _ _)⟩
          case round =>
            obtain ⟨k, hk, rfl, HN, HR3⟩ := hrel
            by_cases hlt : k < xs.length
            · obtain ⟨x, hxe⟩ : ∃ x, xs[k]? = some x := ⟨_, List.getElem?_eq_getElem hlt⟩
              obtain ⟨⟨b, f, hxa, d0, d1⟩, _, _⟩ := (HX.out.kept ((HU.out.trans HR.out).trans HR3.out)).at hxe
              have HTK : Hid (xs.take (k + 1) = xs.take k ++ [x]) := Lib.hid (take_cons' hxe)
              have HAN := Lib.hid (fun hp => any_take (p := wideRecs) hxe hp)
              have hbl := lt_of_cell d0
              have HR4 := Lib.hid (HR3.out.alloc (.cells #[.int .i64 x.src, .slice x.ra x.recs.length x.rc] 41))
              subst hxa
              clear hxe
              by_cases hw : 200 < x.recs.length
              · have hw' : (200 : Int) < x.recs.length := by omega
                have HB : Hid (ov = true) := Lib.hid (by rw [HOV3.out, HAN.out (by simp [wideRecs, hw])])
                clear hw
                go_wp2
                go_ret
                exact ⟨ret_bool HB.out.symm, (HU.out.trans HR.out).trans HR4.out⟩
              · have hw' : ¬ (200 : Int) < x.recs.length := by omega
                have HWN := Lib.hid (show wideRecs x = false by simp [wideRecs]; omega)
                clear hw
                go_wp2
                go_roundw
                case rel => exact ⟨k + 1, by omega, by go_num, Lib.hid (by rw [HTK.out, List.any_append, HN.out]; simp [HWN.out]), HR4⟩
                case measure => simp [intOf]; omega
            · obtain rfl : k = xs.length := by omega
              rw [List.take_length] at HN
              have HB : Hid (ov = false) := Lib.hid (by rw [HOV3.out, HN.out])
              go_wp2
              go_ret
              exact ⟨ret_bool HB.out.symm, (HU.out.trans HR.out).trans HR3.out⟩
end Go.Proofs.YtbonfdkgkcbkmaaGreat
end

section
namespace Go.Proofs.YtbonfdkgkcbkmaaGreat
set_option maxRecDepth 100000
set_option maxRecDepth 100000
open Go.RowKit

/-! ### A graph that may be -/
theorem chkWrong_each {os : List OpM} : ∀ (r : List OpM) (k : Nat) (wide : Int), os.drop k = r → chkWrong os k r wide = none → ∀ (i : Nat) (o : OpM), k ≤ i → os[i]? = some o → ∃ wd, wrongI os i o wd = 0
  | [], k, wide, hd, _, i, o, hk, hi => by
    have := congrArg List.length hd
    have h2 := (List.getElem?_eq_some_iff.1 hi).1
    simp at this
    omega
  | x :: r, k, wide, hd, h, i, o, hk, hi => by
    have ho : os[k]? = some x := by
      have := congrArg (·[0]?) hd
      simpa using this
    have hd2 : os.drop (k + 1) = r := by
      rw [drop_cons' ho] at hd
      injection hd
    unfold chkWrong at h
    split at h
    · cases h
    · rename_i h0
      by_cases e : i = k
      · subst e
        rw [ho] at hi
        injection hi with hi
        subst hi
        exact ⟨_, Classical.byContradiction h0⟩
      · exact chkWrong_each r (k + 1) _ hd2 h i o (by omega) hi
theorem chkG_each {os : List OpM} (h : (chkG os).2 = 0) : ∀ (i : Nat) (o : OpM), os[i]? = some o → ∃ wd, wrongI os i o wd = 0 := by
  unfold chkG at h
  split at h
  · simp at h
  · cases hc : chkWrong os 0 os 0 with
    | none => exact fun i o => chkWrong_each os 0 0 rfl hc i o (Nat.zero_le _)
    | some z =>
      rw [hc] at h
      exact absurd h (chkWrong_bad _ _ _ _ hc)
theorem wrongI_parts {os : List OpM} {i : Nat} {o : OpM} {wd : Int} (h : wrongI os i o wd = 0) : o.alone i = true ∧ (o.tag = 1 → dupB os i o = false) := by
  unfold wrongI at h
  split at h
  · omega
  · rename_i h1
    simp only [Bool.or_eq_true, Bool.not_eq_true', Bool.and_eq_true, not_or] at h1
    refine ⟨by cases ha : o.alone i <;> simp_all, fun ht => ?_⟩
    cases hd : dupB os i o with
    | false => rfl
    | true => exact absurd ⟨by simpa using ht, hd⟩ h1.2.2
theorem rises_up : ∀ {l : List Int} {last below up : Int}, risesB l last below = true → below ≤ up → risesB l last up = true
  | [], _, _, _, _, _ => rfl
  | k :: l, last, below, up, h, hle => by
    by_cases hz : k ≤ last ∨ below ≤ k
    · rw [risesB_no hz] at h; cases h
    · rw [risesB_yes (by omega) (by omega)] at h ⊢
      exact rises_up h hle
theorem alone_up {o : OpM} {i : Int} (h : o.alone i = true) (hi : i ≤ 8) : o.alone 8 = true := by
  simp only [OpM.alone, Bool.and_eq_true, decide_eq_true_eq] at h ⊢
  exact ⟨⟨h.1.1, rises_up h.1.2 hi⟩, h.2⟩
theorem alone_right {o : OpM} (h : o.alone 8 = true) : rightI o ⟨0, 0⟩ = 0 := by
  unfold rightI
  rw [if_pos h, if_pos]
  unfold fitsB
  simp only [OpM.alone, Bool.and_eq_true] at h
  have hk := h.2
  unfold kindB at hk
  split
  · rename_i h1
    simp only [keepsB] at h1
    by_cases h4 : o.tag = 4
    · simp [h4, CellV.none]
    · by_cases h5 : o.tag = 5
      · simp [h5] at hk
        simp [CellV.none, h5]
        omega
      · simp [h4, h5] at h1
  · simp [CellV.none]

/-! ### Running an operator over few values -/
theorem stepR_up {o : OpM} {c : CellV} {v : Int} (h : 0 ≤ c.count) : 0 ≤ (stepR o c v).1.count ∧ (stepR o c v).1.count ≤ c.count + 1 := by
  unfold stepR
  (repeat' split) <;> simp [CellV.add] <;> omega
theorem flowR_ok (o : OpM) : ∀ (l : List Int) (c : CellV), 0 ≤ c.count → c.count + l.length < 1000 → (flowR o c l).2.2 = 0
  | [], c, _, _ => rfl
  | v :: r, c, h0, hl => by
    simp only [List.length_cons] at hl
    have := stepR_up (o := o) (v := v) h0
    rw [flowR, if_neg (by omega)]
    exact flowR_ok o r _ this.1 (by omega)
theorem flowR_pre (o : OpM) : ∀ (l r : List Int) (c : CellV), (flowR o c l).1 <+: (flowR o c (l ++ r)).1
  | [], r, c => by simp [flowR]
  | v :: l, r, c => by
    rw [List.cons_append, flowR, flowR]
    split
    · exact List.prefix_refl _
    · exact List.prefix_append_right_inj _ |>.2 (flowR_pre o l r _)
theorem RunR_ok {o : OpM} {l : List Int} (h : o.alone 8 = true) (hl : l.length ≤ 40) : RunR o ⟨0, 0⟩ l = ((flowR o ⟨0, 0⟩ l).2.1, (flowR o ⟨0, 0⟩ l).1, 0) := by
  unfold RunR
  rw [if_neg (by omega)]
  unfold runR
  rw [if_neg (by rw [alone_right h]; simp), if_neg (by rw [flowR_ok o l ⟨0, 0⟩ (by simp) (by simp; omega)]; simp)]

/-! ### What comes, place by place -/
structure Grows (r s : Res) : Prop where
  pre : r.1 <+: s.1
  len : s.1.length ≤ 40
  ok : r.2.2 = 0
  ok' : s.2.2 = 0
theorem comes_grows {os : List OpM} {em em' : Int → List Int} {ks : Int} (hg : ∀ (i : Nat) (o : OpM), os[i]? = some o → o.alone 8 = true) (he : ∀ a, em a <+: em' a) (hl : ∀ a, (em' a).length ≤ 40) : ∀ f n, Grows (comesF os em ks f n) (comesF os em' ks f n)
  | 0, n => ⟨List.prefix_refl _, by simp [comesF], rfl, rfl⟩
  | f + 1, n => by
    rw [comesF, comesF]
    cases ho : os[n]? with
    | none => exact ⟨List.prefix_refl _, by simp, rfl, rfl⟩
    | some o =>
      simp only
      by_cases h1 : o.tag = 1
      · rw [if_pos h1, if_pos h1]
        exact ⟨he _, hl _, rfl, rfl⟩
      · rw [if_neg h1, if_neg h1]
        by_cases h6 : o.tag = 6
        · rw [if_pos h6, if_pos h6]
          by_cases hi : idxP (srcP os ks) o.ins < 0
          · rw [if_pos hi, if_pos hi]
            exact ⟨List.prefix_refl _, by simp, rfl, rfl⟩
          · rw [if_neg hi, if_neg hi]
            have ih := comes_grows (ks := ks) hg he hl f (o.ins.getD (idxP (srcP os ks) o.ins).toNat 0).toNat
            exact ⟨ih.pre, ih.len, ih.ok, ih.ok'⟩
        · rw [if_neg h6, if_neg h6]
          have ih := comes_grows (ks := ks) hg he hl f (o.ins.getD 0 0).toNat
          rw [if_neg (by rw [ih.ok]; simp), if_neg (by rw [ih.ok']; simp)]
          have h8 := hg n o ho
          have hle := ih.pre.length_le
          rw [RunR_ok h8 (by have := ih.len; omega), RunR_ok h8 ih.len]
          obtain ⟨t, ht⟩ := ih.pre
          refine ⟨?_, ?_, rfl, rfl⟩
          · show (flowR o ⟨0, 0⟩ _).1 <+: (flowR o ⟨0, 0⟩ _).1
            rw [← ht]
            exact flowR_pre o _ t _
          · exact Nat.le_trans (flowR_len o _ _) ih.len
theorem comes_nil {os : List OpM} {em : Int → List Int} {ks : Int} (hg : ∀ (i : Nat) (o : OpM), os[i]? = some o → o.alone 8 = true) (he : ∀ a, em a = []) : ∀ f n, (comesF os em ks f n).1 = [] ∧ (comesF os em ks f n).2.2 = 0
  | 0, n => ⟨rfl, rfl⟩
  | f + 1, n => by
    rw [comesF]
    cases ho : os[n]? with
    | none => exact ⟨rfl, rfl⟩
    | some o =>
      simp only
      by_cases h1 : o.tag = 1
      · rw [if_pos h1]; exact ⟨he _, rfl⟩
      · rw [if_neg h1]
        by_cases h6 : o.tag = 6
        · rw [if_pos h6]
          by_cases hi : idxP (srcP os ks) o.ins < 0
          · rw [if_pos hi]; exact ⟨rfl, rfl⟩
          · rw [if_neg hi]
            exact comes_nil hg he f _
        · rw [if_neg h6]
          have ih := comes_nil (ks := ks) hg he f (o.ins.getD 0 0).toNat
          rw [if_neg (by rw [ih.2]; simp), ih.1, RunR_ok (hg n o ho) (by simp)]
          exact ⟨rfl, rfl⟩

/-! ### What is emitted -/
theorem valsK_cons (r : RecV) (l : List RecV) (key : RecV) : valsK (r :: l) key = (if sameK r key then [r.val] else []) ++ valsK l key := by
  cases h : sameK r key <;> simp [valsK, h]
theorem emL_cons (r : RecV) (b : Bool) (l : List (RecV × Bool)) : emL ((r, b) :: l) = (if b then [r] else []) ++ emL l := by
  cases b <;> simp [emL]
theorem valsK_app (l m : List RecV) (key : RecV) : valsK (l ++ m) key = valsK l key ++ valsK m key := by simp [valsK]
theorem cnt_mono (l : List RecV) (r : RecV) (g : Nat) : cnt l g ≤ cnt (l ++ [r]) g := by
  rw [cnt_snoc]; split <;> omega
theorem sameK_grp {r key : RecV} (h : sameK r key = true) : grpN r = grpN key := by
  simp only [sameK, Bool.and_eq_true, beq_iff_eq] at h
  rw [grpN, grpN, h.2]
theorem part_over {o : List Int} {key : RecV} : ∀ (l pre : List RecV), o.getD (grpN key) 0 < cnt pre (grpN key) + 1 → (o.getD (grpN key) 0 < cnt pre (grpN key) ∨ o.getD (grpN key) 0 = cnt pre (grpN key)) → valsK (emL (partFrom o pre l)) key = []
  | [], pre, _, _ => rfl
  | r :: l, pre, h, h2 => by
    rw [partFrom, emL_cons, valsK_app]
    have hm := cnt_mono pre r (grpN key)
    have ih := part_over (o := o) (key := key) l (pre ++ [r]) (by omega) (by omega)
    rw [ih, List.append_nil]
    cases hs : sameK r key with
    | false => cases hb : emitB o pre r <;> simp [valsK, hs]
    | true =>
      have hb : emitB o pre r = false := by
        unfold emitB
        rw [sameK_grp hs, decide_eq_false_iff_not, cnt_snoc, if_pos (by have := sameK_grp hs; rw [grpN] at this; exact this)]
        omega
      rw [hb]
      rfl
theorem part_pre {o : List Int} {key : RecV} : ∀ (l pre : List RecV), valsK (emL (partFrom o pre l)) key <+: valsK l key
  | [], pre => List.prefix_refl _
  | r :: l, pre => by
    rw [partFrom, emL_cons, valsK_app, valsK_cons]
    cases hs : sameK r key with
    | false =>
      have : valsK (if emitB o pre r then [r] else []) key = [] := by cases emitB o pre r <;> simp [valsK, hs]
      rw [this]
      simpa using part_pre l (pre ++ [r])
    | true =>
      cases hb : emitB o pre r with
      | true =>
        have : valsK (if true = true then [r] else []) key = [r.val] := by simp [valsK, hs]
        rw [this]
        exact List.prefix_append_right_inj _ |>.2 (part_pre l (pre ++ [r]))
      | false =>
        have hb' : o.getD (grpN key) 0 < cnt (pre ++ [r]) (grpN key) := by
          unfold emitB at hb
          rw [sameK_grp hs, decide_eq_false_iff_not] at hb
          omega
        rw [part_over l (pre ++ [r]) (by omega) (.inl hb')]
        exact ⟨_, rfl⟩
theorem part_all {o : List Int} : ∀ (l pre : List RecV), (∀ r ∈ l, cnt (pre ++ l) (grpN r) ≤ o.getD (grpN r) 0) → emL (partFrom o pre l) = l
  | [], pre, _ => rfl
  | r :: l, pre, h => by
    have hmono : ∀ (m : List RecV) (q : List RecV) (g : Nat), cnt q g ≤ cnt (q ++ m) g := by
      intro m
      induction m with
      | nil => intro q g; simp
      | cons x m ih => intro q g; have := ih (q ++ [x]) g; have h2 := cnt_mono q x g; rw [List.append_assoc] at this; exact Int.le_trans h2 this
    have hb : emitB o pre r = true := by
      unfold emitB
      rw [decide_eq_true_eq]
      have h1 := h r (by simp)
      have h2 := hmono l (pre ++ [r]) (grpN r)
      rw [List.append_assoc] at h2
      exact Int.le_trans h2 h1
    rw [partFrom, emL_cons, hb, part_all l (pre ++ [r]) (fun x hx => by have := h x (by simp [hx]); rw [List.append_assoc]; exact this)]
    rfl
theorem part_none {o : List Int} (ho : ∀ g, o.getD g 0 ≤ 0) : ∀ (l pre : List RecV), emL (partFrom o pre l) = []
  | [], pre => rfl
  | r :: l, pre => by
    have hb : emitB o pre r = false := by
      unfold emitB
      rw [decide_eq_false_iff_not, cnt_snoc, if_pos (show r.key.toNat % 8 = grpN r from rfl)]
      have := ho (grpN r)
      have := (cnt_le pre (grpN r)).1
      omega
    rw [partFrom, emL_cons, hb, part_none ho l]
    rfl
end Go.Proofs.YtbonfdkgkcbkmaaGreat
end

section
namespace Go.Proofs.YtbonfdkgkcbkmaaGreat
set_option maxRecDepth 100000
set_option maxRecDepth 100000
open Go.RowKit

theorem totT_get (l : List RecV) {g : Nat} (h : g < 8) : (totT l).getD g 0 = cnt l g := by
  rw [List.getD_eq_getElem?_getD, totT_at l h]; rfl
theorem grpN_lt (r : RecV) : grpN r < 8 := Nat.mod_lt _ (by omega)
theorem chkOff_in {x : InM} {o : List Int} (h : chkOff x o = 0) : chkIn x = 0 ∧ offB o (totT x.recs) = true := by
  unfold chkOff at h
  split at h
  · rename_i h1; exact absurd h h1
  · rename_i h1
    refine ⟨by omega, ?_⟩
    split at h
    · rename_i h2; exact h2
    · omega
theorem chkOff_mk {x : InM} {o : List Int} (h : chkIn x = 0) (h2 : offB o (totT x.recs) = true) : chkOff x o = 0 := by
  unfold chkOff
  rw [if_neg (by omega), if_pos h2]
theorem off_whole {x : InM} (h : chkIn x = 0) : chkOff x (totT x.recs) = 0 :=
  chkOff_mk h (offB_yes fun g hg => by rw [totT_get _ hg]; have := cnt_le x.recs g; omega)
theorem zer8_get (g : Nat) : zer8.getD g 0 = 0 := by
  match g with
  | 0 | 1 | 2 | 3 | 4 | 5 | 6 | 7 => rfl
  | _ + 8 => rfl
theorem off_none {x : InM} (h : chkIn x = 0) : chkOff x zer8 = 0 :=
  chkOff_mk h (offB_yes fun g hg => by rw [totT_get _ hg, zer8_get]; have := cnt_le x.recs g; omega)
theorem pre_whole {x : InM} (h : chkIn x = 0) : preX x (totT x.recs) = x.recs := by
  unfold preX
  rw [if_pos (off_whole h), preL, partL]
  exact part_all _ _ (fun r hr => by rw [totT_get _ (grpN_lt r)]; exact Int.le_refl _)
theorem pre_none {x : InM} (h : chkIn x = 0) : preX x zer8 = [] := by
  unfold preX
  rw [if_pos (off_none h), preL, partL]
  exact part_none (fun g => by rw [zer8_get]; omega) _ _
theorem pre_some {x : InM} {o : List Int} (h : chkOff x o = 0) (key : RecV) : valsK (preX x o) key <+: valsK x.recs key := by
  unfold preX
  rw [if_pos h, preL, partL]
  exact part_pre _ _

theorem emV_away {s : Int} {key : RecV} : ∀ (xs : List InM) (ats : List (List Int)), (∀ x ∈ xs, x.src ≠ s) → emV xs ats s key = []
  | [], ats, _ => emV_nil _ _ _
  | x :: xs, [], _ => rfl
  | x :: xs, o :: ats, h => by
    rw [emV, emV_away xs ats (fun y hy => h y (by simp [hy])), List.append_nil, emOf, if_pos (by simpa using h x (by simp))]
theorem emV_grow {s : Int} {key : RecV} : ∀ (xs : List InM) (ats : List (List Int)), (xs.map (·.src)).Nodup → offsOk xs ats = true → ats.length = xs.length → (∀ x ∈ xs, chkIn x = 0) →
    emV xs ats s key <+: emV xs (wholeAt xs) s key ∧ (emV xs (wholeAt xs) s key).length ≤ 40
  | [], ats, _, _, _, _ => by rw [emV_nil, emV_nil]; exact ⟨List.prefix_refl _, by simp⟩
  | x :: xs, [], _, _, h, _ => by simp at h
  | x :: xs, o :: ats, hn, ho, hl, hc => by
    rw [List.map_cons, List.nodup_cons] at hn
    rw [offsOk, Bool.and_eq_true, beq_iff_eq] at ho
    have ih := emV_grow (s := s) (key := key) xs ats hn.2 ho.2 (by simpa using hl) (fun y hy => hc y (by simp [hy]))
    have hw : wholeAt (x :: xs) = totT x.recs :: wholeAt xs := rfl
    rw [hw, emV, emV]
    by_cases hs : x.src = s
    · have hne : ∀ y ∈ xs, y.src ≠ s := fun y hy e => hn.1 (by rw [hs, ← e]; exact List.mem_map.2 ⟨y, hy, rfl⟩)
      rw [emV_away xs _ hne, emV_away xs _ hne, List.append_nil, List.append_nil, emOf, emOf, if_neg (by simp [hs]), if_neg (by simp [hs]), pre_whole (hc x (by simp))]
      have h40 := (chkIn_zero (hc x (by simp))).1
      exact ⟨pre_some ho.1 key, Nat.le_trans (valsK_len _ _) h40⟩
    · rw [emOf, emOf, if_pos (by simpa using hs), if_pos (by simpa using hs)]
      simpa using ih
theorem emV_zero {s : Int} {key : RecV} : ∀ (xs : List InM), (∀ x ∈ xs, chkIn x = 0) → emV xs (zeroAt xs) s key = []
  | [], _ => emV_nil _ _ _
  | x :: xs, h => by
    have hz : zeroAt (x :: xs) = zer8 :: zeroAt xs := rfl
    rw [hz, emV, emV_zero xs (fun y hy => h y (by simp [hy])), emOf, pre_none (h x (by simp))]
    split <;> rfl
theorem offs_whole : ∀ (xs : List InM), (∀ x ∈ xs, chkIn x = 0) → offsOk xs (wholeAt xs) = true
  | [], _ => rfl
  | x :: xs, h => by
    have hw : wholeAt (x :: xs) = totT x.recs :: wholeAt xs := rfl
    rw [hw, offsOk, off_whole (h x (by simp)), offs_whole xs (fun y hy => h y (by simp [hy]))]
    rfl
theorem offs_zero : ∀ (xs : List InM), (∀ x ∈ xs, chkIn x = 0) → offsOk xs (zeroAt xs) = true
  | [], _ => rfl
  | x :: xs, h => by
    have hz : zeroAt (x :: xs) = zer8 :: zeroAt xs := rfl
    rw [hz, offsOk, off_none (h x (by simp)), offs_zero xs (fun y hy => h y (by simp [hy]))]
    rfl
theorem below_whole : ∀ (xs : List InM) (ats : List (List Int)), offsOk xs ats = true → ats.length = xs.length → belowL ats (wholeAt xs) = true
  | [], [], _, _ => rfl
  | [], _ :: _, _, h => by simp at h
  | _ :: _, [], _, h => by simp at h
  | x :: xs, o :: ats, ho, hl => by
    rw [offsOk, Bool.and_eq_true, beq_iff_eq] at ho
    have hw : wholeAt (x :: xs) = totT x.recs :: wholeAt xs := rfl
    rw [hw, belowL, below_whole xs ats ho.2 (by simpa using hl), Bool.and_true]
    exact le8_yes fun g hg => (offB_all (chkOff_in ho.1).2 g hg).2
theorem below_zero : ∀ (xs : List InM) (ats : List (List Int)), offsOk xs ats = true → ats.length = xs.length → belowL (zeroAt xs) ats = true
  | [], [], _, _ => rfl
  | [], _ :: _, _, h => by simp at h
  | _ :: _, [], _, h => by simp at h
  | x :: xs, o :: ats, ho, hl => by
    rw [offsOk, Bool.and_eq_true, beq_iff_eq] at ho
    have hz : zeroAt (x :: xs) = zer8 :: zeroAt xs := rfl
    rw [hz, belowL, below_zero xs ats ho.2 (by simpa using hl), Bool.and_true]
    exact le8_yes fun g hg => by rw [zer8_get]; exact (offB_all (chkOff_in ho.1).2 g hg).1

theorem want_nodup {os : List OpM} (h : (chkG os).2 = 0) : ∀ k, (wantI (os.take k)).Nodup
  | 0 => by simp [wantI]
  | k + 1 => by
    have ih := want_nodup h k
    cases ho : os[k]? with
    | none =>
      have : os.take (k + 1) = os.take k := by
        have hk := List.getElem?_eq_none_iff.1 ho
        rw [List.take_of_length_le (by omega), List.take_of_length_le hk]
      rw [this]; exact ih
    | some o =>
      rw [take_cons' ho, wantI_snoc]
      obtain ⟨wd, hwd⟩ := chkG_each h k o ho
      have hd := (wrongI_parts hwd).2
      split
      · rename_i hs
        have ht : o.tag = 1 := by simpa [isSrc] using hs
        have hdup := hd ht
        rw [List.nodup_append]
        refine ⟨ih, by simp, fun a ha b hb e => ?_⟩
        simp only [List.mem_singleton] at hb
        subst hb
        simp only [wantI, List.mem_map, List.mem_filter] at ha
        obtain ⟨x, ⟨hx1, hx2⟩, hx3⟩ := ha
        have : dupB os k o = true := by
          unfold dupB
          rw [List.any_eq_true]
          refine ⟨x, hx1, ?_⟩
          simp only [isSrc] at hx2
          simp [hx2, hx3, e]
        rw [hdup] at this
        cases this
      · exact ih
theorem chkW_nodup {os : List OpM} {xs : List InM} (h : chkW os xs = 0) : (xs.map (·.src)).Nodup := by
  have hg := chkW_g h
  have hn := want_nodup hg os.length
  rw [List.take_length] at hn
  unfold chkW at h
  rw [if_neg (by omega)] at h
  split at h
  · omega
  · split at h
    · rename_i he
      rw [he, sortI]
      exact (List.mergeSort_perm _ _).nodup_iff.2 hn
    · omega
theorem chkG_alone {os : List OpM} (h : (chkG os).2 = 0) : ∀ (i : Nat) (o : OpM), os[i]? = some o → o.alone 8 = true := fun i o ho => by
  obtain ⟨wd, hwd⟩ := chkG_each h i o ho
  have h8 := (chkG_wf h).2.1
  have hi := (List.getElem?_eq_some_iff.1 ho).1
  exact alone_up (wrongI_parts hwd).1 (by omega)
theorem chkAt_offs {os : List OpM} {xs : List InM} {ats : List (List Int)} (h : chkAt os xs ats = 0) : offsOk xs ats = true := by
  obtain ⟨h1, h2⟩ := chkAt_w h
  unfold chkAt at h
  rw [if_neg (by omega), if_neg (by omega)] at h
  split at h
  · rename_i h3; exact h3
  · omega
theorem chkAt_mk {os : List OpM} {xs : List InM} {ats : List (List Int)} (h : chkW os xs = 0) (hl : ats.length = xs.length) (ho : offsOk xs ats = true) : chkAt os xs ats = 0 := by
  unfold chkAt
  rw [if_neg (by omega), if_neg (by omega), if_pos ho]

/-- Nothing comes with an error. -/
theorem values_err {os : List OpM} {xs : List InM} {ats : List (List Int)} {n : Int} {key : RecV} (h : (valuesR os xs ats n key).2 ≠ 0) : (valuesR os xs ats n key).1 = [] := by
  unfold valuesR at h ⊢
  split
  · rfl
  · rename_i h1
    rw [if_neg h1] at h
    split
    · rfl
    · rename_i h2
      rw [if_neg h2] at h
      unfold doesV at h ⊢
      split
      · rfl
      · rename_i h3
        rw [if_neg h3] at h
        have h0 : chkAt os xs ats = 0 := by omega
        obtain ⟨hw, hl⟩ := chkAt_w h0
        have hg := comes_grows (ks := key.src) (em := fun s => emV xs ats s key) (em' := fun s => emV xs (wholeAt xs) s key) (chkG_alone (chkW_g hw))
          (fun a => (emV_grow xs ats (chkW_nodup hw) (chkAt_offs h0) hl (chkW_in hw)).1) (fun a => (emV_grow xs ats (chkW_nodup hw) (chkAt_offs h0) hl (chkW_in hw)).2) (n.toNat + 1) n.toNat
        exact absurd hg.ok h
/-- P13.5. -/
theorem grows_law {os : List OpM} {xs : List InM} {ats : List (List Int)} {n : Int} {key : RecV} (h : (valuesR os xs ats n key).2 = 0) :
    chkW os xs = 0 ∧ (valuesR os xs (wholeAt xs) n key).2 = 0 ∧ (valuesR os xs ats n key).1 <+: (valuesR os xs (wholeAt xs) n key).1 ∧ valuesR os xs (zeroAt xs) n key = ([], 0) ∧ belowL ats (wholeAt xs) = true ∧ belowL (zeroAt xs) ats = true ∧ (valuesR os xs (wholeAt xs) n key).1.length ≤ 40 := by
  unfold valuesR at h
  split at h
  · rename_i h1; exact absurd h h1
  · rename_i h1
    split at h
    · simp at h
    · rename_i h2
      unfold doesV at h
      split at h
      · rename_i h3; exact absurd h h3
      · rename_i h3
        have h0 : chkAt os xs ats = 0 := by omega
        obtain ⟨hw, hl⟩ := chkAt_w h0
        have hof := chkAt_offs h0
        have hin := chkW_in hw
        have hal := chkG_alone (chkW_g hw)
        have hg := comes_grows (ks := key.src) (em := fun s => emV xs ats s key) (em' := fun s => emV xs (wholeAt xs) s key) hal
          (fun a => (emV_grow xs ats (chkW_nodup hw) hof hl hin).1) (fun a => (emV_grow xs ats (chkW_nodup hw) hof hl hin).2) (n.toNat + 1) n.toNat
        have hz := comes_nil (ks := key.src) (em := fun s => emV xs (zeroAt xs) s key) hal (fun a => emV_zero xs hin) (n.toNat + 1) n.toNat
        have hcw : chkAt os xs (wholeAt xs) = 0 := chkAt_mk hw (by simp [wholeAt]) (offs_whole xs hin)
        have hcz : chkAt os xs (zeroAt xs) = 0 := chkAt_mk hw (by simp [zeroAt]) (offs_zero xs hin)
        have e1 : valuesR os xs ats n key = ((comesV os xs ats key n.toNat).1, (comesV os xs ats key n.toNat).2.2) := by
          unfold valuesR doesV
          rw [if_neg h1, if_neg h2, if_neg h3]
        have e2 : valuesR os xs (wholeAt xs) n key = ((comesV os xs (wholeAt xs) key n.toNat).1, (comesV os xs (wholeAt xs) key n.toNat).2.2) := by
          unfold valuesR doesV
          rw [if_neg (by omega), if_neg h2, if_neg h3]
        have e3 : valuesR os xs (zeroAt xs) n key = ((comesV os xs (zeroAt xs) key n.toNat).1, (comesV os xs (zeroAt xs) key n.toNat).2.2) := by
          unfold valuesR doesV
          rw [if_neg (by omega), if_neg h2, if_neg h3]
        rw [e1, e2, e3]
        exact ⟨hw, hg.ok', hg.pre, by rw [show comesV os xs (zeroAt xs) key n.toNat = comesF os (fun s => emV xs (zeroAt xs) s key) key.src (n.toNat + 1) n.toNat from rfl, hz.1, hz.2], below_whole xs ats hof hl, below_zero xs ats hof hl, hg.len⟩
theorem begins_pre {l h : List Int} (hp : h <+: l) : beginsB l h = true := by
  obtain ⟨t, rfl⟩ := hp
  simp only [beginsB, decide_eq_true_eq]
  refine ⟨by simp, fun i hi => ?_⟩
  rw [List.getD_eq_getElem?_getD, List.getD_eq_getElem?_getD, List.getElem?_append_left hi]
end Go.Proofs.YtbonfdkgkcbkmaaGreat
end

section
namespace Go.Proofs.YtbonfdkgkcbkmaaGreat
set_option maxRecDepth 100000
open Go.RowKit

/-- Is a record of somebody's groups? -/
def mineB (r : RecV) (idx w : Int) : Bool := (chkRec r == 0) && (decide (1 ≤ w) && decide (w ≤ 3) && decide (0 ≤ idx) && decide (idx < w)) && decide ((grpN r : Int) * w / 8 = idx)
def freeB (idx w : Int) (z : RecV × Bool) : Bool := !z.2 && mineB z.1 idx w
/-- The record that comes next. -/
def nextL (o : List Int) (recs : List RecV) (idx w : Int) : Option RecV := ((partL o recs).find? (freeB idx w)).map (·.1)
/-- The offsets behind it. -/
def readO (o : List Int) : Option RecV → List Int
  | none => o
  | some r => o.set (grpN r) (o.getD (grpN r) 0 + 1)
theorem getD_set_eq {o : List Int} {g : Nat} {v : Int} (h : g < o.length) : (o.set g v).getD g 0 = v := by simp [List.getD_eq_getElem?_getD, h]
theorem getD_set_ne {o : List Int} {g k : Nat} {v : Int} (h : k ≠ g) : (o.set g v).getD k 0 = o.getD k 0 := by simp [List.getD_eq_getElem?_getD, List.getElem?_set, Ne.symm h]
theorem part_same {o : List Int} {g : Nat} (hg : g < o.length) : ∀ (l q : List RecV), o.getD g 0 + 1 ≤ cnt q g → partFrom (o.set g (o.getD g 0 + 1)) q l = partFrom o q l
  | [], q, _ => rfl
  | y :: l, q, h => by
    rw [partFrom, partFrom, part_same hg l (q ++ [y]) (Int.le_trans h (cnt_mono q y g))]
    congr 2
    unfold emitB
    by_cases e : grpN y = g
    · rw [e, getD_set_eq hg]
      have h2 : cnt (q ++ [y]) g = cnt q g + 1 := by rw [cnt_snoc, if_pos (show y.key.toNat % 8 = g from e)]
      rw [h2, decide_eq_false (by omega), decide_eq_false (by omega)]
    · rw [getD_set_ne e]
theorem part_split {o : List Int} (ho : o.length = 8) : ∀ (l pre : List RecV), (∀ g, g < 8 → cnt pre g ≤ o.getD g 0) → (∀ z ∈ partFrom o pre l, z.2 = true) ∨
    ∃ A r q m, partFrom o pre l = A ++ (r, false) :: partFrom o q m ∧ (∀ z ∈ A, z.2 = true) ∧ partFrom (o.set (grpN r) (o.getD (grpN r) 0 + 1)) pre l = A ++ (r, true) :: partFrom o q m ∧ o.getD (grpN r) 0 + 1 ≤ cnt q (grpN r) ∧ q ++ m = pre ++ l ∧ r ∈ l
  | [], pre, _ => .inl (fun z hz => by simp [partFrom] at hz)
  | x :: l, pre, h => by
    have hgx := grpN_lt x
    cases hb : emitB o pre x with
    | true =>
      have hle : cnt (pre ++ [x]) (grpN x) ≤ o.getD (grpN x) 0 := by simpa [emitB] using hb
      have h' : ∀ g, g < 8 → cnt (pre ++ [x]) g ≤ o.getD g 0 := fun g hg => by
        by_cases e : x.key.toNat % 8 = g
        · have e' : grpN x = g := e
          rw [← e']; exact hle
        · rw [cnt_snoc, if_neg e]; have := h g hg; omega
      rcases part_split ho l (pre ++ [x]) h' with h1 | ⟨A, r, q, m, h1, h2, h3, h4, h5, h6⟩
      · refine .inl (fun z hz => ?_)
        rw [partFrom, hb] at hz
        rcases List.mem_cons.1 hz with rfl | hz
        · rfl
        · exact h1 z hz
      · refine .inr ⟨(x, true) :: A, r, q, m, by rw [partFrom, hb, h1]; rfl, ?_, ?_, h4, by rw [h5]; simp, by simp [h6]⟩
        · intro z hz
          rcases List.mem_cons.1 hz with rfl | hz
          · rfl
          · exact h2 z hz
        · have hb' : emitB (o.set (grpN r) (o.getD (grpN r) 0 + 1)) pre x = true := by
            unfold emitB
            rw [decide_eq_true_eq]
            by_cases e : grpN x = grpN r
            · rw [e, getD_set_eq (by have := grpN_lt r; omega)]
              rw [e] at hle
              omega
            · rw [getD_set_ne e]; exact hle
          rw [partFrom, hb', h3]; rfl
    | false =>
      have hlt : o.getD (grpN x) 0 < cnt (pre ++ [x]) (grpN x) := by
        unfold emitB at hb
        rw [decide_eq_false_iff_not] at hb
        omega
      have hc : cnt (pre ++ [x]) (grpN x) = cnt pre (grpN x) + 1 := by rw [cnt_snoc, if_pos (show x.key.toNat % 8 = grpN x from rfl)]
      refine .inr ⟨[], x, pre ++ [x], l, by rw [partFrom, hb]; rfl, by simp, ?_, by omega, by simp, by simp⟩
      have hb' : emitB (o.set (grpN x) (o.getD (grpN x) 0 + 1)) pre x = true := by
        unfold emitB
        rw [decide_eq_true_eq, getD_set_eq (by omega), hc]
        have := h (grpN x) hgx
        omega
      rw [partFrom, hb', part_same (by omega) l (pre ++ [x]) (by omega)]
      rfl
theorem cnt_app (l m : List RecV) (g : Nat) : cnt l g ≤ cnt (l ++ m) g := by
  simp only [cnt, List.filter_append, List.length_append]
  omega
theorem emL_app (l m : List (RecV × Bool)) : emL (l ++ m) = emL l ++ emL m := by simp [emL]
theorem mineB_one {r : RecV} (h : chkRec r = 0) : mineB r 0 1 = true := by
  have := grpN_lt r
  unfold mineB
  rw [h]
  simp
  omega
theorem chkIn_rec {x : InM} (h : chkIn x = 0) {r : RecV} (hr : r ∈ x.recs) : chkRec r = 0 ∧ r.src = x.src := by
  obtain ⟨_, h1, h2, h3⟩ := chkIn_zero h
  obtain ⟨⟨k0, k1⟩, hs⟩ := h3 r hr
  exact ⟨chkRec_ok (by omega) (by omega) k0 k1, hs⟩
theorem partFrom_mem {o : List Int} {z : RecV × Bool} : ∀ {l pre : List RecV}, z ∈ partFrom o pre l → z.1 ∈ l
  | [], _, h => by simp [partFrom] at h
  | x :: l, pre, h => by
    rw [partFrom] at h
    rcases List.mem_cons.1 h with rfl | h
    · simp
    · have := partFrom_mem h; simp [this]
/-- Reading one record on, of all groups. -/
theorem read_law {x : InM} {o : List Int} (h : chkOff x o = 0) (ho : o.length = 8) :
    (nextL o x.recs 0 1 = none) ∨ ∃ r, nextL o x.recs 0 1 = some r ∧ r ∈ x.recs ∧ chkOff x (readO o (some r)) = 0 ∧ (readO o (some r)).length = 8 ∧ le8 o (readO o (some r)) = true ∧
      ∀ key, valsK (preX x (readO o (some r))) key = valsK (preX x o) key ++ if sameK r key then [r.val] else [] := by
  obtain ⟨hin, hof⟩ := chkOff_in h
  have hall := offB_all hof
  have hmine : ∀ z ∈ partL o x.recs, mineB z.1 0 1 = true := fun z hz => mineB_one (chkIn_rec hin (partFrom_mem hz)).1
  rcases part_split ho x.recs [] (fun g hg => by have := hall g hg; simp [cnt] at this ⊢; omega) with h1 | ⟨A, r, q, m, h1, h2, h3, h4, h5, h6⟩
  · refine .inl ?_
    unfold nextL
    rw [Option.map_eq_none_iff, List.find?_eq_none]
    intro z hz
    simp [freeB, h1 z hz]
  · refine .inr ⟨r, ?_, h6, ?_⟩
    · unfold nextL
      have hm := hmine (r, false) (by rw [partL, h1]; simp)
      rw [partL, h1, List.find?_append]
      have hA : A.find? (freeB 0 1) = none := by
        rw [List.find?_eq_none]
        intro z hz
        simp [freeB, h2 z hz]
      rw [hA]
      simp only at hm
      simp [freeB, hm]
    have hg8 := grpN_lt r
    have hlt : o.getD (grpN r) 0 + 1 ≤ cnt x.recs (grpN r) := by
      have h7 := cnt_app q m (grpN r)
      rw [h5, List.nil_append] at h7
      omega
    have hck : chkOff x (readO o (some r)) = 0 := chkOff_mk hin (offB_yes fun g hg => by
      have h8 := hall g hg
      rw [totT_get _ hg] at h8 ⊢
      show 0 ≤ (o.set (grpN r) (o.getD (grpN r) 0 + 1)).getD g 0 ∧ (o.set (grpN r) (o.getD (grpN r) 0 + 1)).getD g 0 ≤ _
      by_cases e : g = grpN r
      · subst e
        rw [getD_set_eq (by omega)]
        omega
      · rw [getD_set_ne e]; exact h8)
    refine ⟨hck, by simp [readO, ho], le8_yes fun g hg => ?_, fun key => ?_⟩
    · show _ ≤ (o.set (grpN r) (o.getD (grpN r) 0 + 1)).getD g 0
      by_cases e : g = grpN r
      · subst e
        rw [getD_set_eq (by omega)]
        omega
      · rw [getD_set_ne e]; exact Int.le_refl _
    · unfold preX
      rw [if_pos hck, if_pos h, preL, preL, partL, partL, h1]
      have h3' : partFrom (readO o (some r)) [] x.recs = A ++ (r, true) :: partFrom o q m := h3
      rw [h3', emL_app, emL_app, emL_cons, emL_cons, valsK_app, valsK_app, valsK_app, valsK_app, if_pos rfl, if_neg (by simp)]
      have hv : valsK [r] key = if sameK r key then [r.val] else [] := by
        cases hs : sameK r key <;> simp [valsK, hs]
      rw [hv]
      have hn : valsK ([] : List RecV) key = [] := rfl
      rw [hn, List.nil_append]
      cases hs : sameK r key with
      | false => simp
      | true =>
        have e := sameK_grp hs
        rw [part_over m q (by rw [← e]; omega) (.inl (by rw [← e]; omega))]
        simp

/-! ### Place by place -/
theorem emV_at {key : RecV} : ∀ {xs : List InM} {ats : List (List Int)} {i : Nat} {x : InM} {o : List Int}, (xs.map (·.src)).Nodup → xs[i]? = some x → ats[i]? = some o → emV xs ats x.src key = emOf x o x.src key
  | [], _, _, _, _, _, h, _ => by simp at h
  | y :: xs, [], _, _, _, _, _, h => by simp at h
  | y :: xs, p :: ats, 0, x, o, hn, hx, ho => by
    simp at hx ho
    subst hx ho
    rw [List.map_cons, List.nodup_cons] at hn
    rw [emV, emV_away xs _ (fun z hz e => hn.1 (by rw [← e]; exact List.mem_map.2 ⟨z, hz, rfl⟩)), List.append_nil]
  | y :: xs, p :: ats, i + 1, x, o, hn, hx, ho => by
    rw [List.map_cons, List.nodup_cons] at hn
    have hx' : xs[i]? = some x := by simpa using hx
    have hne : y.src ≠ x.src := fun e => hn.1 (by rw [e]; exact List.mem_map.2 ⟨x, List.mem_of_getElem? hx', rfl⟩)
    rw [emV, emV_at hn.2 hx' (by simpa using ho), emOf, if_pos (by simpa using hne)]
    rfl
theorem emV_set {key : RecV} {s : Int} {o' : List Int} : ∀ {xs : List InM} {ats : List (List Int)} {i : Nat} {x : InM}, xs[i]? = some x → x.src ≠ s → emV xs (ats.set i o') s key = emV xs ats s key
  | [], _, _, _, h, _ => by simp at h
  | y :: xs, [], _, _, _, _ => by simp
  | y :: xs, p :: ats, 0, x, hx, hs => by
    simp at hx
    subst hx
    rw [List.set_cons_zero, emV, emV, emOf, emOf, if_pos (by simpa using hs), if_pos (by simpa using hs)]
  | y :: xs, p :: ats, i + 1, x, hx, hs => by
    rw [List.set_cons_succ, emV, emV, emV_set (xs := xs) (by simpa using hx) hs]
/-- Is a key a record's own? -/
def ownK : Option RecV → RecV → Bool
  | none, _ => false
  | some r, key => sameK r key
theorem offs_set {o' : List Int} : ∀ {xs : List InM} {ats : List (List Int)} {i : Nat} {x : InM}, offsOk xs ats = true → xs[i]? = some x → chkOff x o' = 0 → offsOk xs (ats.set i o') = true
  | [], _, _, _, h, _, _ => by simp [offsOk]
  | y :: xs, [], _, _, _, _, _ => by simp [offsOk]
  | y :: xs, p :: ats, 0, x, h, hx, hc => by
    simp at hx
    subst hx
    rw [offsOk, Bool.and_eq_true] at h
    rw [List.set_cons_zero, offsOk, hc, h.2]; rfl
  | y :: xs, p :: ats, i + 1, x, h, hx, hc => by
    rw [offsOk, Bool.and_eq_true] at h
    rw [List.set_cons_succ, offsOk, offs_set h.2 (by simpa using hx) hc, h.1]; rfl
theorem le8_refl (o : List Int) : le8 o o = true := le8_yes fun _ _ => Int.le_refl _
theorem belowL_refl : ∀ (a : List (List Int)), belowL a a = true
  | [] => rfl
  | o :: a => by rw [belowL, le8_refl, belowL_refl a]; rfl
theorem belowL_set {o o' : List Int} (h : le8 o o' = true) : ∀ {a : List (List Int)} {i : Nat}, a[i]? = some o → belowL a (a.set i o') = true
  | [], _, hi => by simp at hi
  | p :: a, 0, hi => by
    simp at hi
    subst hi
    rw [List.set_cons_zero, belowL, h, belowL_refl]; rfl
  | p :: a, i + 1, hi => by
    rw [List.set_cons_succ, belowL, le8_refl, belowL_set h (by simpa using hi)]; rfl

/-! ### One value more -/
theorem flowR_one (o : OpM) (v : Int) : ∀ (l : List Int) (c : CellV), ∃ t, (flowR o c (l ++ [v])).1 = (flowR o c l).1 ++ t ∧ t.length ≤ 1
  | [], c => by
    refine ⟨(flowR o c [v]).1, by simp [flowR], ?_⟩
    exact flowR_len o [v] c
  | u :: l, c => by
    rw [List.cons_append, flowR, flowR]
    split
    · exact ⟨[], by simp, by simp⟩
    · obtain ⟨t, h1, h2⟩ := flowR_one o v l (stepR o c u).1
      exact ⟨t, by rw [h1, List.append_assoc], h2⟩
structure OneMore (r s : Res) : Prop where
  one : ∃ t, s.1 = r.1 ++ t ∧ t.length ≤ 1
  len : s.1.length ≤ 40
  ok : r.2.2 = 0
  ok' : s.2.2 = 0
theorem comes_one {os : List OpM} {em em' : Int → List Int} {ks : Int} (hg : ∀ (i : Nat) (o : OpM), os[i]? = some o → o.alone 8 = true) (he : ∀ a, ∃ t, em' a = em a ++ t ∧ t.length ≤ 1) (hl : ∀ a, (em' a).length ≤ 40) : ∀ f n, OneMore (comesF os em ks f n) (comesF os em' ks f n)
  | 0, n => ⟨⟨[], by simp [comesF], by simp⟩, by simp [comesF], rfl, rfl⟩
  | f + 1, n => by
    rw [comesF, comesF]
    cases ho : os[n]? with
    | none => exact ⟨⟨[], by simp, by simp⟩, by simp, rfl, rfl⟩
    | some o =>
      simp only
      by_cases h1 : o.tag = 1
      · rw [if_pos h1, if_pos h1]
        exact ⟨he _, hl _, rfl, rfl⟩
      · rw [if_neg h1, if_neg h1]
        by_cases h6 : o.tag = 6
        · rw [if_pos h6, if_pos h6]
          by_cases hi : idxP (srcP os ks) o.ins < 0
          · rw [if_pos hi, if_pos hi]
            exact ⟨⟨[], by simp, by simp⟩, by simp, rfl, rfl⟩
          · rw [if_neg hi, if_neg hi]
            have ih := comes_one (ks := ks) hg he hl f (o.ins.getD (idxP (srcP os ks) o.ins).toNat 0).toNat
            exact ⟨ih.one, ih.len, ih.ok, ih.ok'⟩
        · rw [if_neg h6, if_neg h6]
          have ih := comes_one (ks := ks) hg he hl f (o.ins.getD 0 0).toNat
          rw [if_neg (by rw [ih.ok]; simp), if_neg (by rw [ih.ok']; simp)]
          have h8 := hg n o ho
          obtain ⟨t, ht, htl⟩ := ih.one
          have hlen := ih.len
          have hle : (comesF os em ks f (o.ins.getD 0 0).toNat).1.length ≤ 40 := by
            have h5 := congrArg List.length ht
            rw [List.length_append] at h5
            omega
          rw [RunR_ok h8 hle, RunR_ok h8 ih.len]
          refine ⟨?_, Nat.le_trans (flowR_len o _ _) ih.len, rfl, rfl⟩
          show ∃ t, (flowR o ⟨0, 0⟩ _).1 = (flowR o ⟨0, 0⟩ _).1 ++ t ∧ _
          rw [ht]
          match t, htl with
          | [], _ => exact ⟨[], by simp, by simp⟩
          | [v], _ => exact flowR_one o v _ _
          | _ :: _ :: _, h => simp at h
/-- Which cells may stand in a table, or stand for none. -/
def CellOk (c : CellV) : Prop := 0 ≤ c.count ∧ (c.count = 0 → c.sum = 0)
theorem stepR_cell {o : OpM} {c : CellV} {v : Int} (h : CellOk c) : CellOk (stepR o c v).1 := by
  obtain ⟨h0, h1⟩ := h
  unfold stepR
  (repeat' split) <;> first | exact ⟨h0, h1⟩ | exact ⟨by simp, fun _ => rfl⟩ | (refine ⟨?_, ?_⟩ <;> simp only [CellV.add] <;> omega)
theorem flowR_cell (o : OpM) : ∀ (l : List Int) (c : CellV), CellOk c → CellOk (flowR o c l).2.1
  | [], c, h => h
  | v :: r, c, h => by
    rw [flowR]
    split
    · exact h
    · exact flowR_cell o r _ (stepR_cell h)
theorem none_cell : CellOk ⟨0, 0⟩ := ⟨by simp, fun _ => rfl⟩
theorem RunR_cell (o : OpM) (l : List Int) : CellOk (RunR o ⟨0, 0⟩ l).1 := by
  unfold RunR
  split
  · exact none_cell
  · unfold runR
    split
    · exact none_cell
    · split
      · exact none_cell
      · exact flowR_cell o l _ none_cell
theorem comesF_cell {os : List OpM} {em : Int → List Int} {ks : Int} (f n : Nat) : CellOk (comesF os em ks f n).2.1 := by
  cases f with
  | zero => exact none_cell
  | succ f =>
    rw [comesF]
    cases os[n]? with
    | none => exact none_cell
    | some o =>
      simp only
      (repeat' split) <;> first | exact none_cell | exact RunR_cell o _

/-- P13.5: what comes of an operator, and of which keys that may change. -/
structure StepLaw (os : List OpM) (xs : List InM) (ats next : List (List Int)) (r : Option RecV) : Prop where
  at' : chkAt os xs next = 0
  below : belowL ats next = true
  ok : ∀ key n, (comesV os xs ats key n).2.2 = 0 ∧ (comesV os xs next key n).2.2 = 0
  len : ∀ key n, (comesV os xs ats key n).1.length ≤ 40 ∧ (comesV os xs next key n).1.length ≤ 40
  one : ∀ key n, ∃ t, (comesV os xs next key n).1 = (comesV os xs ats key n).1 ++ t ∧ t.length ≤ 1
  same : ∀ key n, ownK r key = false → comesV os xs next key n = comesV os xs ats key n
theorem step_law {os : List OpM} {xs : List InM} {ats : List (List Int)} {i : Nat} {x : InM} {o : List Int} (h : chkAt os xs ats = 0) (hx : xs[i]? = some x) (ho : ats[i]? = some o) (h8 : o.length = 8) :
    StepLaw os xs ats (ats.set i (readO o (nextL o x.recs 0 1))) (nextL o x.recs 0 1) ∧ chkOff x o = 0 := by
  obtain ⟨hw, hl⟩ := chkAt_w h
  have hof := chkAt_offs h
  have hin := chkW_in hw
  have hal := chkG_alone (chkW_g hw)
  have hnd := chkW_nodup hw
  have hco : chkOff x o = 0 := by
    have aux : ∀ {xs : List InM} {ats : List (List Int)} {i : Nat}, offsOk xs ats = true → xs[i]? = some x → ats[i]? = some o → chkOff x o = 0 := by
      intro xs
      induction xs with
      | nil => intro ats i _ h; simp at h
      | cons y xs ih =>
        intro ats i h hx ho
        cases ats with
        | nil => simp at ho
        | cons p ats =>
          rw [offsOk, Bool.and_eq_true, beq_iff_eq] at h
          cases i with
          | zero => simp at hx ho; subst hx ho; exact h.1
          | succ i => exact ih h.2 (by simpa using hx) (by simpa using ho)
    exact aux hof hx ho
  have hlen40 : ∀ (al : List (List Int)), offsOk xs al = true → al.length = xs.length → ∀ key a, (emV xs al a key).length ≤ 40 := fun al h1 h2 key a => by
    obtain ⟨p, q⟩ := emV_grow (s := a) (key := key) xs al hnd h1 h2 hin
    exact Nat.le_trans p.length_le q
  have main : ∀ r' : Option RecV, (ats.set i (readO o r')).length = xs.length → offsOk xs (ats.set i (readO o r')) = true → belowL ats (ats.set i (readO o r')) = true →
      (∀ key a, ∃ t, emV xs (ats.set i (readO o r')) a key = emV xs ats a key ++ t ∧ t.length ≤ 1 ∧ (ownK r' key = false → t = [])) → StepLaw os xs ats (ats.set i (readO o r')) r' := by
    intro r' h1 h2 h3 h4
    have hone := fun (key : RecV) (n : Nat) => comes_one (ks := key.src) (em := fun s => emV xs ats s key) (em' := fun s => emV xs (ats.set i (readO o r')) s key) hal (fun a => by obtain ⟨t, p, q, _⟩ := h4 key a; exact ⟨t, p, q⟩) (fun a => hlen40 _ h2 h1 key a) (n + 1) n
    refine ⟨chkAt_mk hw h1 h2, h3, fun key n => ⟨(hone key n).ok, (hone key n).ok'⟩, fun key n => ⟨?_, (hone key n).len⟩, fun key n => (hone key n).one, fun key n hk => ?_⟩
    · obtain ⟨t, ht, _⟩ := (hone key n).one
      have := (hone key n).len
      have h5 := congrArg List.length ht
      simp only [List.length_append] at h5
      show (comesF _ _ _ _ _).1.length ≤ 40
      omega
    · have : (fun s => emV xs (ats.set i (readO o r')) s key) = fun s => emV xs ats s key := by
        funext a
        obtain ⟨t, p, _, q⟩ := h4 key a
        rw [p, q hk, List.append_nil]
      show comesF _ _ _ _ _ = comesF _ _ _ _ _
      rw [this]
  refine ⟨?_, hco⟩
  rcases read_law hco h8 with hn | ⟨r, hr, hm, hck, hl8, hle, hv⟩
  · rw [hn]
    have hs : ats.set i (readO o none) = ats := by
      show ats.set i o = ats
      obtain ⟨h1, h2⟩ := List.getElem?_eq_some_iff.1 ho
      rw [← h2]; exact List.set_getElem_self h1
    refine main none (by rw [hs]; exact hl) (by rw [hs]; exact hof) (by rw [hs]; exact belowL_refl _) (fun key a => ⟨[], by rw [hs]; simp, by simp, fun _ => rfl⟩)
  · rw [hr]
    refine main (some r) (by simp [hl]) (offs_set hof hx hck) (belowL_set hle ho) (fun key a => ?_)
    by_cases ha : x.src = a
    · subst ha
      have h2 : (ats.set i (readO o (some r)))[i]? = some (readO o (some r)) := by
        have := (List.getElem?_eq_some_iff.1 ho).1
        simp [this]
      rw [emV_at hnd hx h2, emV_at hnd hx ho, emOf, emOf, if_neg (by simp), if_neg (by simp), hv key]
      refine ⟨_, rfl, ?_, fun e => ?_⟩
      · split <;> simp
      · have e' : sameK r key = false := e
        rw [e']; rfl
    · exact ⟨[], by rw [emV_set hx ha]; simp, by simp, fun _ => rfl⟩
end Go.Proofs.YtbonfdkgkcbkmaaGreat
end

section
namespace Go.Proofs.YtbonfdkgkcbkmaaGreat
set_option maxRecDepth 100000
open Go.RowKit Go.Shelf

attribute [local go_sem] Oper.semAt_some
def widthB (n : Int) : Bool := decide (1 ≤ n) && decide (n ≤ 3)
theorem width_any (n : Int) (w : World) : Calls Tryz.prog 207 #[.int .i64 n] w fun e w' => e = .returned (.bool (widthB n)) ∧ w = w' := by
  go_enter Tryz.func207, Tryz.ntmps207
  go_wp2
  all_goals go_ret
  all_goals refine ⟨ret_bool ?_, rfl⟩
  all_goals (simp [widthB]; try omega)
def shareB (idx w : Int) : Bool := widthB w && decide (0 ≤ idx) && decide (idx < w)
theorem share_any (idx n : Int) (w : World) : Calls Tryz.prog 127 #[.int .i64 idx, .int .i64 n] w fun e w' => e = .returned (.bool (shareB idx n)) ∧ w = w' := by
  have HW := Lib.hid (width_any n w)
  obtain ⟨wb, hwb⟩ : ∃ wb, wb = widthB n := ⟨_, rfl⟩
  have HE := Lib.hid (show shareB idx n = (wb && decide (0 ≤ idx) && decide (idx < n)) by rw [hwb]; rfl)
  rw [← hwb] at HW
  clear hwb
  go_enter Tryz.func127, Tryz.ntmps127
  go_wp2_with (go_at_call 207; refine HW.out.mono ?_; rintro e w' ⟨rfl, rfl⟩)
  all_goals go_ret
  all_goals refine ⟨ret_bool ?_, rfl⟩
  all_goals rw [HE.out]
  all_goals simp [*]
  all_goals try omega
theorem owner_any (g n : Int) (w : World) (hg : 0 ≤ g ∧ g < 8) (hn : 1 ≤ n ∧ n ≤ 3) : Calls Tryz.prog 210 #[.int .i64 g, .int .i64 n] w fun e w' => e = .returned (.int .i64 (g * n / 8)) ∧ w = w' := by
  obtain ⟨h1, h2⟩ := hg
  obtain ⟨h3, h4⟩ := hn
  have h5 : 0 ≤ g * n := Int.mul_nonneg h1 (by omega)
  have h6 : g * n ≤ 100 := Int.le_trans (Int.mul_le_mul (b := n) (c := 8) (d := 4) (by omega) (by omega) (by omega) (by omega)) (by omega)
  have h7 : IntKind.i64.wrap (g * n) = g * n := by rw [IntKind.wrap_i64]; omega
  go_enter Tryz.func210, Tryz.ntmps210
  go_wp2
  go_ret
  exact ⟨rfl, rfl⟩
theorem group_any (r : RecV) (w : World) : Calls Tryz.prog 209 #[.agg #[.int .i64 r.src, .int .i64 r.key, .int .i64 r.val]] w fun e w' => e = .returned (.tuple #[.int .i64 (if chkRec r = 0 then (grpN r : Int) else 0), .int .i64 (chkRec r)]) ∧ Upd0 w w' := by
  obtain ⟨w1, hw1⟩ : ∃ w1, w1 = w.alloc (.cells #[.int .i64 r.src, .int .i64 r.key, .int .i64 r.val] 36) := ⟨_, rfl⟩
  have hu1 : Upd0 w w1 := by rw [hw1]; exact (Upd.refl _ w).alloc _
  have hb : w1.heap[w.heap.size]? = some (.cells #[.int .i64 r.src, .int .i64 r.key, .int .i64 r.val] 36 (0, 0)) := by rw [hw1]; exact alloc_at rfl
  have HB := Lib.hid hb; have HU := Lib.hid hu1
  have HC := Lib.hid (reccheck_any r w1)
  obtain ⟨c0, c1, c2⟩ := cells3_of hb
  by_cases hz : chkRec r = 0
  · have hk : 0 ≤ r.key ∧ r.key < 32 := by
      by_cases h : r.src < 0 ∨ 8 ≤ r.src ∨ r.key < 0 ∨ 32 ≤ r.key
      · rw [chkRec_no h] at hz; omega
      · omega
    have hrem : r.key.tmod 8 = (grpN r : Int) := by
      rw [Int.tmod_eq_emod_of_nonneg (by omega), grpN]; omega
    have HR := Lib.hid hrem
    obtain ⟨hk0, hk1⟩ := hk
    rw [hz] at HC
    rw [if_pos hz, hz]
    obtain ⟨g, hg⟩ : ∃ g : Int, g = grpN r := ⟨_, rfl⟩
    rw [← hg] at HR ⊢
    clear hz hrem hu1 hb hg
    go_enter Tryz.func209, Tryz.ntmps209
    go_wp2_with (go_at_call 142; fail)
    rw [← hw1]
    clear hw1
    refine HC.out.mono ?_
    rintro _ w2 ⟨rfl, hu2⟩
    obtain ⟨d0, d1, d2⟩ := cells3_of ((hu2.block _ (lt_of_heap HB.out) (fun e => e)).trans HB.out)
    have HU2 := Lib.hid (HU.out.trans hu2)
    clear hu2 c0 c1 c2
    simp only []
    have hrem := HR.out
    go_wp2
    go_ret2
    first | exact ⟨rfl, HU2.out⟩ | (refine ⟨?_, HU2.out⟩; rw [← HR.out, Int.tmod_eq_emod_of_nonneg (by omega)])
  · have hz' : chkRec r = 150 := by
      unfold chkRec at hz ⊢
      split <;> simp_all
    rw [hz'] at HC
    rw [if_neg hz, hz']
    clear hz hz' hu1 hb
    go_enter Tryz.func209, Tryz.ntmps209
    go_wp2_with (go_at_call 142; fail)
    rw [← hw1]
    clear hw1
    refine HC.out.mono ?_
    rintro _ w2 ⟨rfl, hu2⟩
    have HU2 := Lib.hid (HU.out.trans hu2)
    clear hu2 c0 c1 c2
    simp only []
    go_wp2
    go_ret2
    exact ⟨rfl, HU2.out⟩
theorem mineB_eq (r : RecV) (idx n : Int) : mineB r idx n = ((chkRec r == 0) && shareB idx n && decide ((grpN r : Int) * n / 8 = idx)) := by
  unfold mineB shareB widthB
  simp only [Bool.and_assoc]
theorem mine_any (r : RecV) (idx n : Int) (w : World) : Calls Tryz.prog 129 #[.agg #[.int .i64 r.src, .int .i64 r.key, .int .i64 r.val], .int .i64 idx, .int .i64 n] w fun e w' => e = .returned (.bool (mineB r idx n)) ∧ Upd0 w w' := by
  have hg := grpN_lt r
  obtain ⟨w1, hw1⟩ : ∃ w1, w1 = w.alloc (.cells #[.int .i64 r.src, .int .i64 r.key, .int .i64 r.val] 36) := ⟨_, rfl⟩
  have hu1 : Upd0 w w1 := by rw [hw1]; exact (Upd.refl _ w).alloc _
  have hb : w1.heap[w.heap.size]? = some (.cells #[.int .i64 r.src, .int .i64 r.key, .int .i64 r.val] 36 (0, 0)) := by rw [hw1]; exact alloc_at rfl
  have HU := Lib.hid hu1
  have HC := Lib.hid (group_any r w1)
  have HM := Lib.hid (mineB_eq r idx n)
  have HS := Lib.hid (fun W => share_any idx n W)
  have HO := Lib.hid (fun W (h : widthB n = true) => owner_any (grpN r) n W ⟨by omega, by omega⟩ (by simpa [widthB] using h))
  obtain ⟨mb, hmb⟩ : ∃ mb, mb = mineB r idx n := ⟨_, rfl⟩
  rw [← hmb] at HM ⊢
  obtain ⟨c0, c1, c2⟩ := cells3_of hb
  obtain ⟨g, hgg⟩ : ∃ g : Int, g = grpN r := ⟨_, rfl⟩
  rw [← hgg] at HC HM HO
  by_cases hz : chkRec r = 0
  · rw [if_pos hz, hz] at HC
    rw [hz] at HM
    have HSD := Lib.hid (show shareB idx n = true → widthB n = true from fun h => by
      unfold shareB at h
      simp only [Bool.and_eq_true] at h
      exact h.1.1)
    obtain ⟨sb, hsb⟩ : ∃ sb, sb = shareB idx n := ⟨_, rfl⟩
    rw [← hsb] at HM HS HSD
    clear hz hu1 hb hmb hgg hsb hg
    go_enter Tryz.func129, Tryz.ntmps129
    go_wp2_with (go_at_call 209; fail)
    rw [← hw1]
    clear hw1
    refine HC.out.mono ?_
    rintro _ w2 ⟨rfl, hu2⟩
    have HU2 := Lib.hid (HU.out.trans hu2)
    clear hu2 c0 c1 c2
    simp only []
    cases sb with
    | false =>
      go_wp2_with (go_at_call 127; refine (HS.out _).mono ?_; rintro e w' ⟨rfl, rfl⟩)
      go_ret
      exact ⟨ret_bool (by rw [HM.out]; simp), HU2.out⟩
    | true =>
      have HOW := Lib.hid (fun W => HO.out W (HSD.out rfl))
      clear HO HSD
      go_wp2_with (first | (go_at_call 127; refine (HS.out _).mono ?_; rintro e w' ⟨rfl, rfl⟩) | (go_at_call 210; refine (HOW.out _).mono ?_; rintro e w' ⟨rfl, rfl⟩))
      all_goals go_ret
      all_goals refine ⟨ret_bool ?_, HU2.out⟩
      all_goals rw [HM.out]
      all_goals rw [Bool.eq_iff_iff]
      all_goals simp
  · rw [if_neg hz] at HC
    have hz' : (chkRec r == 0) = false := by simpa using hz
    rw [hz'] at HM
    obtain ⟨cz, hcz⟩ : ∃ cz, cz = chkRec r := ⟨_, rfl⟩
    rw [← hcz] at HC hz'
    clear hz hu1 hb hmb hgg hg hcz HO HS
    go_enter Tryz.func129, Tryz.ntmps129
    go_wp2_with (go_at_call 209; fail)
    rw [← hw1]
    clear hw1
    refine HC.out.mono ?_
    rintro _ w2 ⟨rfl, hu2⟩
    have HU2 := Lib.hid (HU.out.trans hu2)
    clear hu2 c0 c1 c2
    simp only []
    go_wp2
    go_ret
    exact ⟨ret_bool (by rw [HM.out]; simp), HU2.out⟩
end Go.Proofs.YtbonfdkgkcbkmaaGreat
end

section
namespace Go.Proofs.YtbonfdkgkcbkmaaGreat
set_option maxRecDepth 100000
open Go.RowKit Go.Shelf

attribute [local go_sem] Oper.semAt_some
/-- A record, if there is one. -/
def optR : Option RecV → RecV
  | none => ⟨0, 0, 0⟩
  | some r => r
theorem find_app {l m : List (RecV × Bool)} {p : RecV × Bool → Bool} (h : ∀ z ∈ l, p z = false) : (l ++ m).find? p = m.find? p := by
  rw [List.find?_append]
  have : l.find? p = none := by
    rw [List.find?_eq_none]
    intro z hz
    simp [h z hz]
  rw [this]; simp
theorem put3 {W : World} {t : Nat} {x0 x1 x2 u v x : Value} {ty : TypeId} (h : W.heap[t]? = some (.cells #[x0, x1, x2] ty (0, 0))) :
    (((W.setCell ⟨t, 0, none⟩ u).setCell ⟨t, 1, none⟩ v).setCell ⟨t, 2, none⟩ x).heap[t]? = some (.cells #[u, v, x] ty (0, 0)) ∧ Upd (fun k => k = t) W (((W.setCell ⟨t, 0, none⟩ u).setCell ⟨t, 1, none⟩ v).setCell ⟨t, 2, none⟩ x) := by
  refine ⟨?_, ((upd_own W t 0 _).trans (upd_own _ t 1 _)).trans (upd_own _ t 2 _)⟩
  have := blk_set (i := 2) (v := x) (blk_set (i := 1) (v := v) (blk_set (i := 0) (v := u) h))
  simpa using this
theorem results_cc {P : Program} {fn : Func} {ts : Array Value} {w : World} {a u : Nat} {t t2 : TypeId} {p q : Addr} {v v2 : Value} (hr : fn.results = #[.cell a t, .cell u t2]) (ha : ts.getD a undef = .pointer (some p)) (hl : (loadVar t p).run P w = .ok v w) (hb : ts.getD u undef = .pointer (some q)) (hl2 : (loadVar t2 q).run P w = .ok v2 w) :
    (Go.results fn ts).run P w = .ok (.tuple #[v, v2]) w := by
  unfold Go.results
  rw [hr]
  have ha' : ts[a]?.getD undef = .pointer (some p) := by simpa using ha
  have hb' : ts[u]?.getD undef = .pointer (some q) := by simpa using hb
  simp [asAddr, ha', hl, hb', hl2]
theorem sizeRec : (Tryz.prog.info? 36).map (·.size) = some 3 := by kernel_rfl
theorem load36 {W : World} {t : Nat} {u v x : Value} (h : W.heap[t]? = some (.cells #[u, v, x] 36 (0, 0))) : (loadVar 36 ⟨t, 0, none⟩).run Tryz.prog W = .ok (.agg #[u, v, x]) W :=
  run_loadVar_mid (P := Tryz.prog) W t 0 36 [u, v, x] _ (rangeAt_block h) Tryz.underlying36 rfl sizeRec
theorem load4 {W : World} {t : Nat} {x : Bool} (h : W.heap[t]? = some (.cells #[.bool x] 4 (0, 0))) : (loadVar 4 ⟨t, 0, none⟩).run Tryz.prog W = .ok (.bool x) W := by
  have c := cells1_of h
  simp [loadVar, go_sem, c, Tryz.isAgg4]
/-- What the body of next may write. -/
def nxB (b : Nat) : Nat → TypeId → Prop := fun k t => (k = b + 4 ∧ t = 36) ∨ (k = b + 5 ∧ t = 4)
/-- Between the rounds of next. -/
structure NxAt (w w3 : World) (b : Nat) (idx n : Int) (pre : List (RecV × Bool)) (W : World) : Prop where
  nof : ∀ z ∈ pre, freeB idx n z = false
  b2 : W.heap[b + 2]? = some (.cells #[.int .i64 idx] 3 (0, 0))
  b3 : W.heap[b + 3]? = some (.cells #[.int .i64 n] 3 (0, 0))
  b4 : W.heap[b + 4]? = some (.cells #[.int .i64 0, .int .i64 0, .int .i64 0] 36 (0, 0))
  b5 : W.heap[b + 5]? = some (.cells #[.bool false] 4 (0, 0))
  upd : Upd0 w W
  up : w3.heap.size ≤ W.heap.size
/-- Where it has found one. -/
structure NxEnd (w w3 : World) (b : Nat) (r? : Option RecV) (W : World) : Prop where
  got : ∃ r, r? = some r ∧ W.heap[b + 4]? = some (.cells #[.int .i64 r.src, .int .i64 r.key, .int .i64 r.val] 36 (0, 0))
  b5 : W.heap[b + 5]? = some (.cells #[.bool true] 4 (0, 0))
  upd : Upd0 w W
  up : w3.heap.size ≤ W.heap.size
theorem NxAt.keptT {w w3 : World} {b : Nat} {idx n : Int} {pre : List (RecV × Bool)} {W W' : World} {Φ : Nat → TypeId → Prop} (h : NxAt w w3 b idx n pre W) (hb : b = w.heap.size) (hu : UpdT Φ W W') (hp : ∀ k t, Φ k t → b + 8 ≤ k ∧ t ≠ 3 ∧ t ≠ 36 ∧ t ≠ 4) : NxAt w w3 b idx n pre W' := by
  have k : ∀ {j : Nat} {cs : Array Value} {t : TypeId}, W.heap[j]? = some (Obj.cells cs t (0, 0)) → (t = 3 ∨ t = 36 ∨ t = 4) → W'.heap[j]? = some (Obj.cells cs t (0, 0)) := fun hj ht => hu.keep hj (fun cs t fr e p => by
    injection e with _ e _
    subst e
    have := hp _ _ p
    rcases ht with ht | ht | ht
    · exact this.2.1 ht
    · exact this.2.2.1 ht
    · exact this.2.2.2 ht)
  exact ⟨h.nof, k h.b2 (.inl rfl), k h.b3 (.inl rfl), k h.b4 (.inr (.inl rfl)), k h.b5 (.inr (.inr rfl)), Upd.step h.upd hu (fun j hj ⟨_, _, _, _, p⟩ => by have := (hp _ _ p).1; omega), Nat.le_trans h.up hu.size⟩
theorem NxAt.kept0 {w w3 : World} {b : Nat} {idx n : Int} {pre : List (RecV × Bool)} {W W' : World} (h : NxAt w w3 b idx n pre W) (hu : Upd0 W W') : NxAt w w3 b idx n pre W' := by
  have k : ∀ {j o}, W.heap[j]? = some o → W'.heap[j]? = some o := fun hj => (hu.block _ (lt_of_heap hj) (fun e => e)).trans hj
  exact ⟨h.nof, k h.b2, k h.b3, k h.b4, k h.b5, h.upd.trans hu, Nat.le_trans h.up hu.size⟩
theorem NxAt.put {w w3 : World} {b : Nat} {idx n : Int} {pre : List (RecV × Bool)} {W : World} {l : Nat} {o : Loop} {o' : Obj} (h : NxAt w w3 b idx n pre W) (hl : w.heap.size ≤ l) (ho : W.heap[l]? = some (.loop o)) : NxAt w w3 b idx n pre (W.putObj l o') :=
  ⟨h.nof, cells_put _ h.b2 rfl ho rfl, cells_put _ h.b3 rfl ho rfl, cells_put _ h.b4 rfl ho rfl, cells_put _ h.b5 rfl ho rfl, h.upd.step (upd_put _) (fun k hk e => by omega), Nat.le_trans h.up (upd_put _).size⟩
theorem NxAt.more {w w3 : World} {b : Nat} {idx n : Int} {pre : List (RecV × Bool)} {W : World} {z : RecV × Bool} (h : NxAt w w3 b idx n pre W) (hz : freeB idx n z = false) : NxAt w w3 b idx n (pre ++ [z]) W :=
  ⟨fun y hy => by
    rcases List.mem_append.1 hy with hy | hy
    · exact h.nof y hy
    · simp only [List.mem_singleton] at hy
      rw [hy]; exact hz, h.b2, h.b3, h.b4, h.b5, h.upd, h.up⟩
theorem NxAt.found {w w3 : World} {b : Nat} {idx n : Int} {pre : List (RecV × Bool)} {r? : Option RecV} {r : RecV} {W : World} (h : NxAt w w3 b idx n pre W) (hb : b = w.heap.size) (hr : r? = some r) :
    NxEnd w w3 b r? ((((W.setCell ⟨b + 4, 0, none⟩ (.int .i64 r.src)).setCell ⟨b + 4, 1, none⟩ (.int .i64 r.key)).setCell ⟨b + 4, 2, none⟩ (.int .i64 r.val)).setCell ⟨b + 5, 0, none⟩ (.bool true)) ∧
    UpdT (nxB b) W ((((W.setCell ⟨b + 4, 0, none⟩ (.int .i64 r.src)).setCell ⟨b + 4, 1, none⟩ (.int .i64 r.key)).setCell ⟨b + 4, 2, none⟩ (.int .i64 r.val)).setCell ⟨b + 5, 0, none⟩ (.bool true)) := by
  obtain ⟨p4, q4⟩ := put3 (u := .int .i64 r.src) (v := .int .i64 r.key) (x := .int .i64 r.val) h.b4
  obtain ⟨W1, hW1⟩ : ∃ W1, W1 = ((W.setCell ⟨b + 4, 0, none⟩ (.int .i64 r.src)).setCell ⟨b + 4, 1, none⟩ (.int .i64 r.key)).setCell ⟨b + 4, 2, none⟩ (.int .i64 r.val) := ⟨_, rfl⟩
  rw [← hW1] at p4 q4 ⊢
  have h5 := (q4.block (b + 5) (lt_of_heap h.b5) (by omega)).trans h.b5
  have p5 := blk_set (i := 0) (v := .bool true) h5
  have q5 := q4.mono (G := fun k => k = b + 4 ∨ k = b + 5) (fun _ _ e => .inl e) |>.trans ((upd_own W1 (b + 5) 0 (.bool true)).mono (fun _ _ e => .inr e))
  refine ⟨⟨⟨r, hr, (set_ne (by show b + 4 ≠ b + 5; omega)).trans p4⟩, by simpa using p5, h.upd.step q5 (fun k hk e => by omega), Nat.le_trans h.up q5.size⟩, q5.mono (fun k hk e => ?_)⟩
  rcases e with e | e
  · subst e; exact ⟨_, _, _, h.b4, .inl ⟨rfl, rfl⟩⟩
  · subst e; exact ⟨_, _, _, h.b5, .inr ⟨rfl, rfl⟩⟩
theorem NxAt.done {w w3 : World} {b : Nat} {idx n : Int} {pre : List (RecV × Bool)} {W : World} (h : NxAt w w3 b idx n pre W) (hb : b = w.heap.size) :
    let W' := (((W.setCell ⟨b + 4, 0, none⟩ (.int .i64 0)).setCell ⟨b + 4, 1, none⟩ (.int .i64 0)).setCell ⟨b + 4, 2, none⟩ (.int .i64 0)).setCell ⟨b + 5, 0, none⟩ (.bool false)
    W'.heap[b + 4]? = some (.cells #[.int .i64 0, .int .i64 0, .int .i64 0] 36 (0, 0)) ∧ W'.heap[b + 5]? = some (.cells #[.bool false] 4 (0, 0)) ∧ Upd0 w W' := by
  obtain ⟨p4, q4⟩ := put3 (u := .int .i64 0) (v := .int .i64 0) (x := .int .i64 0) h.b4
  obtain ⟨W1, hW1⟩ : ∃ W1, W1 = ((W.setCell ⟨b + 4, 0, none⟩ (.int .i64 0)).setCell ⟨b + 4, 1, none⟩ (.int .i64 0)).setCell ⟨b + 4, 2, none⟩ (.int .i64 0) := ⟨_, rfl⟩
  rw [← hW1] at p4 q4
  simp only
  rw [← hW1]
  have h5 := (q4.block (b + 5) (lt_of_heap h.b5) (by omega)).trans h.b5
  have p5 := blk_set (i := 0) (v := .bool false) h5
  have q5 := q4.mono (G := fun k => k = b + 4 ∨ k = b + 5) (fun _ _ e => .inl e) |>.trans ((upd_own W1 (b + 5) 0 (.bool false)).mono (fun _ _ e => .inr e))
  exact ⟨(set_ne (by show b + 4 ≠ b + 5; omega)).trans p4, by simpa using p5, h.upd.step q5 (fun k hk e => by omega)⟩
theorem NxEnd.keptT {w w3 : World} {b : Nat} {r? : Option RecV} {W W' : World} {Φ : Nat → TypeId → Prop} (h : NxEnd w w3 b r? W) (hb : b = w.heap.size) (hu : UpdT Φ W W') (hp : ∀ k t, Φ k t → b + 8 ≤ k ∧ t ≠ 36 ∧ t ≠ 4) : NxEnd w w3 b r? W' := by
  have k : ∀ {j : Nat} {cs : Array Value} {t : TypeId}, W.heap[j]? = some (Obj.cells cs t (0, 0)) → (t = 36 ∨ t = 4) → W'.heap[j]? = some (Obj.cells cs t (0, 0)) := fun hj ht => hu.keep hj (fun cs t fr e p => by
    injection e with _ e _
    subst e
    have := hp _ _ p
    rcases ht with ht | ht
    · exact this.2.1 ht
    · exact this.2.2 ht)
  obtain ⟨r, h1, h2⟩ := h.got
  exact ⟨⟨r, h1, k h2 (.inl rfl)⟩, k h.b5 (.inr rfl), Upd.step h.upd hu (fun j hj ⟨_, _, _, _, p⟩ => by have := (hp _ _ p).1; omega), Nat.le_trans h.up hu.size⟩
theorem NxEnd.put {w w3 : World} {b : Nat} {r? : Option RecV} {W : World} {l : Nat} {o : Loop} {o' : Obj} (h : NxEnd w w3 b r? W) (hl : w.heap.size ≤ l) (ho : W.heap[l]? = some (.loop o)) : NxEnd w w3 b r? (W.putObj l o') := by
  obtain ⟨r, h1, h2⟩ := h.got
  exact ⟨⟨r, h1, cells_put _ h2 rfl ho rfl⟩, cells_put _ h.b5 rfl ho rfl, h.upd.step (upd_put _) (fun k hk e => by omega), Nat.le_trans h.up (upd_put _).size⟩
set_option maxHeartbeats 8000000 in
theorem next0_any (x : InM) (o : List Int) (idx n : Int) (w : World) (h : RecsIn w x.ra x.recs) (hc : chkOff x o = 0) (ho : o.length = 8) :
    Calls Tryz.prog 55 #[.agg #[.int .i64 x.src, .slice x.ra x.recs.length x.rc], .agg (o.map I).toArray, .int .i64 idx, .int .i64 n] w fun e w' => e = .returned (.tuple #[.agg #[.int .i64 (optR (nextL o x.recs idx n)).src, .int .i64 (optR (nextL o x.recs idx n)).key, .int .i64 (optR (nextL o x.recs idx n)).val], .bool (nextL o x.recs idx n).isSome]) ∧ Upd0 w w' := by
  obtain ⟨b, hb⟩ : ∃ b, b = w.heap.size := ⟨_, rfl⟩
  obtain ⟨w3, hw3⟩ : ∃ w3, w3 = (((((w.alloc (.cells #[.int .i64 x.src, .slice x.ra x.recs.length x.rc] 41)).alloc (.cells (o.map I).toArray 43)).alloc (.cells #[.int .i64 idx] 3)).alloc (.cells #[.int .i64 n] 3)).alloc (.cells #[.int .i64 0, .int .i64 0, .int .i64 0] 36)).alloc (.cells #[.bool false] 4) := ⟨_, rfl⟩
  have hu3 : Upd0 w w3 := by rw [hw3]; exact ((((((Upd.refl _ w).alloc _).alloc _).alloc _).alloc _).alloc _).alloc _
  have HX1 := Lib.hid (show w3.heap[b]? = some (.cells #[.int .i64 x.src, .slice x.ra x.recs.length x.rc] 41 (0, 0)) by rw [hw3, hb]; exact (alloc_lt (by simp <;> omega)).trans ((alloc_lt (by simp <;> omega)).trans ((alloc_lt (by simp <;> omega)).trans ((alloc_lt (by simp <;> omega)).trans ((alloc_lt (by simp)).trans (alloc_at rfl))))))
  have HX2 := Lib.hid (show w3.heap[b + 1]? = some (.cells (o.map I).toArray 43 (0, 0)) by rw [hw3, hb]; exact (alloc_lt (by simp <;> omega)).trans ((alloc_lt (by simp <;> omega)).trans ((alloc_lt (by simp <;> omega)).trans ((alloc_lt (by simp)).trans (alloc_at (by simp))))))
  have HX3 := Lib.hid (show w3.heap[b + 2]? = some (.cells #[.int .i64 idx] 3 (0, 0)) by rw [hw3, hb]; exact (alloc_lt (by simp <;> omega)).trans ((alloc_lt (by simp <;> omega)).trans ((alloc_lt (by simp)).trans (alloc_at (by simp)))))
  have HX4 := Lib.hid (show w3.heap[b + 3]? = some (.cells #[.int .i64 n] 3 (0, 0)) by rw [hw3, hb]; exact (alloc_lt (by simp <;> omega)).trans ((alloc_lt (by simp)).trans (alloc_at (by simp))))
  have HX5 := Lib.hid (show w3.heap[b + 4]? = some (.cells #[.int .i64 0, .int .i64 0, .int .i64 0] 36 (0, 0)) by rw [hw3, hb]; exact (alloc_lt (by simp)).trans (alloc_at (by simp)))
  have HX6 := Lib.hid (show w3.heap[b + 5]? = some (.cells #[.bool false] 4 (0, 0)) by rw [hw3, hb]; exact alloc_at (by simp))
  have HU3 := Lib.hid hu3; have H := Lib.hid h; have HOL := Lib.hid ho; have HLOW := Lib.hid h.low
  have HCI := Lib.hid (chkOff_zero hc)
  have HP := Lib.hid (parts_any x o w3)
  obtain ⟨r?, hr?⟩ : ∃ r?, r? = nextL o x.recs idx n := ⟨_, rfl⟩
  have HR := Lib.hid hr?
  rw [← hr?]
  obtain ⟨o0, o1, o2, o3, o4, o5, o6, o7, hmap⟩ := eight ho
  rw [hmap] at hw3 HX2 HP ⊢
  have HMAP := Lib.hid hmap
  have HZ3 := Lib.hid (show w3.heap.size = b + 6 by rw [hw3, hb]; simp)
  have HBB := Lib.hid hb
  obtain ⟨c0, c1⟩ := cells2_of HX1.out
  obtain ⟨e0, e1, e2, e3, e4, e5, e6, e7⟩ := cells8_of HX2.out
  clear h ho hc hr? hmap hu3
  refine (callsIn_wide (n := 5)).1 ?_
  refine callsIn_of_wp_marks Tryz.func55 rfl trivial ?_ rfl
  simp only [Tryz.ntmps55, List.size_toArray, List.length_cons, List.length_nil, Nat.reduceAdd, Nat.reduceSub, Array.replicate_succ, Array.replicate_zero, List.push_toArray, List.append_toArray, List.nil_append, List.cons_append]
  gi_wp2_with (gi_at_call 128; fail)
  rw [← hw3, ← hb]
  clear hw3 hb
  simp only [Nat.add_assoc, Nat.reduceAdd]
  refine ⟨trivial, callsIn_wide.2 (HP.out.mono ?_)⟩
  rintro e w5 ⟨rfl, hw5⟩
  clear HP c0 c1 e0 e1 e2 e3 e4 e5 e6 e7
  simp only []
  gi_wp2
  have hu5 : Upd0 w3 w5 := by rw [hw5]; exact ((Upd.refl _ w3).alloc _).alloc _
  have k3 : ∀ {j p}, w3.heap[j]? = some p → w5.heap[j]? = some p := fun hp => (hu5.block _ (lt_of_heap hp) (fun e => e)).trans hp
  have hz5 : w5.heap.size = b + 8 := by rw [hw5]; simp; have := HZ3.out; omega
  have HPT := Lib.hid (show PtAt (b + 8) w3.heap.size (w3.heap.size + 1) x.src x.ra x.rc x.recs o w5 from
    ⟨by rw [hw5]; exact (alloc_lt (by simp)).trans (alloc_at rfl), by rw [hw5, HMAP.out]; exact alloc_at (by simp), H.out.kept (HU3.out.trans hu5), ⟨by have := HZ3.out; omega, by have := HZ3.out; omega⟩, fun e3 b' f e => by have := HLOW.out e3 b' f e; have := HBB.out; omega⟩)
  have HAT := Lib.hid (show NxAt w w3 b idx n [] w5 from ⟨fun z hz => by simp at hz, k3 HX3.out, k3 HX4.out, k3 HX5.out, k3 HX6.out, HU3.out.trans hu5, hu5.size⟩)
  have HZ5 := Lib.hid hz5
  clear hw5 hu5 hz5 k3 HX1 HX2 HX3 HX4 HX5 HX6
  refine wpIn_rangeFunc_T (α := RecV × Bool) (encs := fun z => #[.agg #[.int .i64 z.1.src, .int .i64 z.1.key, .int .i64 z.1.val], .bool z.2]) rfl (by omega) (gf := 208) (lb := #[.pointer (some ⟨w3.heap.size, 0, none⟩), .pointer (some ⟨w3.heap.size + 1, 0, none⟩)]) rfl trivial (fun _ _ => rfl) (fun _ => rfl) (partT (b + 8)) (nxB b) (fun pre x' => ∃ rest, partL o x.recs = (pre ++ [x']) ++ rest) (fun xs _ => xs = partL o x.recs) (NxAt w w3 b idx n) (fun c W => c = .ret ∧ NxEnd w w3 b r? W)
    ?hIU ?hIP ?hXU ?hXP HAT.out (fun _ _ _ _ _ e _ _ => e) ?hseq (fun z a' W => ∃ rb, W.heap[rb]? = some (.cells #[.int .i64 z.1.src, .int .i64 z.1.key, .int .i64 z.1.val] 36 (0, 0)) ∧ a' = { tmps := #[.agg #[.int .i64 x.src, .slice x.ra x.recs.length x.rc], .agg #[.int .i64 o0, .int .i64 o1, .int .i64 o2, .int .i64 o3, .int .i64 o4, .int .i64 o5, .int .i64 o6, .int .i64 o7], .int .i64 idx, .int .i64 n, .pointer (some ⟨b, 0, none⟩), .pointer (some ⟨b + 1, 0, none⟩), .pointer (some ⟨b + 2, 0, none⟩), .pointer (some ⟨b + 3, 0, none⟩), .pointer (some ⟨b + 4, 0, none⟩), .pointer (some ⟨b + 5, 0, none⟩), .pointer (some ⟨rb, 0, none⟩), .bool z.2, .agg #[.int .i64 x.src, .slice x.ra x.recs.length x.rc], .agg #[.int .i64 o0, .int .i64 o1, .int .i64 o2, .int .i64 o3, .int .i64 o4, .int .i64 o5, .int .i64 o6, .int .i64 o7], .func (.func 208) #[] #[.pointer (some ⟨w3.heap.size, 0, none⟩), .pointer (some ⟨w3.heap.size + 1, 0, none⟩)], .agg #[.int .i64 z.1.src, .int .i64 z.1.key, .int .i64 z.1.val], .bool z.2, undef, undef, undef, undef, undef, undef, undef, undef, undef, undef], defers := [] }) ?hAP ?hassign ?hbody ?hdone ?hstop
  case hIU =>
    rintro pre W W' hs h hu
    exact h.keptT HBB.out hu (fun k t p => ⟨p.2, by rw [p.1]; decide, by rw [p.1]; decide, by rw [p.1]; decide⟩)
  case hIP =>
    rintro pre W l o o' h hl ho
    exact h.put (by have := HZ5.out; have := HBB.out; omega) ho
  case hXU =>
    rintro c W W' hs ⟨hc, h⟩ hu
    exact ⟨hc, h.keptT HBB.out hu (fun k t p => ⟨p.2, by rw [p.1]; decide, by rw [p.1]; decide⟩)⟩
  case hXP =>
    rintro c W l o o' ⟨hc, h⟩ hl ho
    exact ⟨hc, h.put (by have := HZ5.out; have := HBB.out; omega) ho⟩
  case hseq =>
    intro l J Jx W h0 hu hJ hJx hY
    have hz := HZ5.out
    have hz3 := HZ3.out
    have hbb := HBB.out
    exact parts1_any (B := b + 8) (Φb := nxB b) (fun k t p => ⟨by rcases p with ⟨_, p⟩ | ⟨_, p⟩ <;> subst p <;> decide, by rcases p with ⟨p, _⟩ | ⟨p, _⟩ <;> omega, by rcases p with ⟨p, _⟩ | ⟨p, _⟩ <;> omega, fun e3 b' f e => by have := HLOW.out e3 b' f e; rcases p with ⟨p, _⟩ | ⟨p, _⟩ <;> omega⟩) (by have := HCI.out.1; omega) (fun r hr => (HCI.out.2.2.2 r hr).1) HOL.out l J Jx W (HPT.out.kept hu (fun _ e => e.elim)) (by have := hu.size; omega) h0 (fun pre W W' hs => hJ pre W W' (by omega)) (fun W W' hs => hJx W W' (by omega)) (fun pre x W1 hs h _ hp => hY pre x W1 (by omega) h hp)
  case hAP =>
    rintro z a' W l o o' ⟨rb, h1, h2⟩ hl ho
    exact ⟨rb, cells_put o' h1 rfl ho rfl, h2⟩
  case hassign =>
    intro l z W K _ hK
    have HK := Lib.hid hK
    clear hK
    gi_wp2
    exact HK.out _ _ ((Upd.refl _ W).alloc _) ⟨W.heap.size, alloc_at rfl, rfl⟩
  case hbody =>
    rintro l pre z a' W r hl hs hi ⟨rest, hpl⟩ ⟨rb, h5, rfl⟩ hlr
    have HI := Lib.hid hi; have HPL := Lib.hid hpl; have H5 := Lib.hid h5
    obtain ⟨r0, r1, r2⟩ := cells3_of h5
    have i2 := cells1_of hi.b2
    have i3 := cells1_of hi.b3
    have HM := Lib.hid (mine_any z.1 idx n W)
    clear hi hpl h5 hlr
    obtain ⟨z1, z2⟩ := z
    obtain ⟨mb, hmb⟩ : ∃ mb, mb = mineB z1 idx n := ⟨_, rfl⟩
    simp only at HM HPL H5 r0 r1 r2 ⊢
    rw [← hmb] at HM
    have HMB := Lib.hid hmb
    clear hmb
    cases z2 with
    | true =>
      gi_wp2
      refine ⟨trivial, ?_⟩
      gi_wp2
      exact ⟨HI.out.more (by simp [freeB]), Upd.refl _ _⟩
    | false =>
      gi_wp2_with (gi_at_call 129; fail)
      refine ⟨trivial, ?_⟩
      refine (CallsIn.inRound l (callsIn_wide.2 HM.out)).mono ?_
      rintro e W3 ⟨rfl, hu3⟩
      have HI3 := Lib.hid (HI.out.kept0 hu3); have HU3' := Lib.hid hu3
      have H53 := Lib.hid ((hu3.block _ (lt_of_heap H5.out) (fun e => e)).trans H5.out)
      clear hu3 r0 r1 r2 i2 i3
      obtain ⟨r0, r1, r2⟩ := cells3_of H53.out
      obtain ⟨s0, s1, s2⟩ := cells3_of HI3.out.b4
      have f0 : W3.frozen? ⟨b + 4, 0, none⟩ = false := frozen_of_heap HI3.out.b4
      have f1 : W3.frozen? ⟨b + 4, 1, none⟩ = false := frozen_of_heap HI3.out.b4
      have f2 : W3.frozen? ⟨b + 4, 2, none⟩ = false := frozen_of_heap HI3.out.b4
      have s5 := cells1_of HI3.out.b5
      have f5 : W3.frozen? ⟨b + 5, 0, none⟩ = false := frozen_of_heap HI3.out.b5
      simp only []
      cases mb with
      | false =>
        gi_wp2
        exact ⟨HI3.out.more (by simp [freeB, ← HMB.out]), UpdT.of0 HU3'.out⟩
      | true =>
        gi_wp2
        have hfind : r? = some z1 := by
          rw [HR.out, nextL, HPL.out, List.append_assoc, find_app (fun z hz => HI3.out.nof z hz)]
          simp [freeB, ← HMB.out]
        obtain ⟨g1, g2⟩ := HI3.out.found HBB.out hfind
        exact ⟨⟨rfl, g1⟩, (UpdT.of0 HU3'.out).trans g2⟩
  case hdone =>
    rintro xs W hS h hD
    subst hS
    have hn : r? = none := by
      rw [HR.out, nextL, Option.map_eq_none_iff, List.find?_eq_none]
      intro z hz
      simp [h.nof z hz]
    subst hn
    have HI := Lib.hid h; have HD := Lib.hid hD
    obtain ⟨s0, s1, s2⟩ := cells3_of h.b4
    have f0 : W.frozen? ⟨b + 4, 0, none⟩ = false := frozen_of_heap h.b4
    have f1 : W.frozen? ⟨b + 4, 1, none⟩ = false := frozen_of_heap h.b4
    have f2 : W.frozen? ⟨b + 4, 2, none⟩ = false := frozen_of_heap h.b4
    have s5 := cells1_of h.b5
    have f5 : W.frozen? ⟨b + 5, 0, none⟩ = false := frozen_of_heap h.b5
    clear h hD
    gi_wp2
    obtain ⟨g1, g2, g3⟩ := HI.out.done HBB.out
    have hz := HZ5.out; have hbb := HBB.out
    have hd2 : ((((W.setCell ⟨b + 4, 0, none⟩ (.int .i64 0)).setCell ⟨b + 4, 1, none⟩ (.int .i64 0)).setCell ⟨b + 4, 2, none⟩ (.int .i64 0)).setCell ⟨b + 5, 0, none⟩ (.bool false)).heap[w5.heap.size]? = some (.deferred (some [])) := by
      rw [set_ne (by show w5.heap.size ≠ b + 5; omega), set_ne (by show w5.heap.size ≠ b + 4; omega), set_ne (by show w5.heap.size ≠ b + 4; omega), set_ne (by show w5.heap.size ≠ b + 4; omega)]
      exact HD.out
    refine ⟨by simp, .inl ⟨_, _, rfl, run_takeDeferred hd2, ?_⟩⟩
    refine ⟨_, results_cc (fn := Tryz.f55) rfl rfl (load36 (cells_put _ g1 rfl hd2 rfl)) rfl (load4 (cells_put _ g2 rfl hd2 rfl)), rfl, ?_⟩
    exact g3.step (upd_put _) (fun k hk e => by omega)
  case hstop =>
    rintro c W ⟨rfl, h⟩ hD
    obtain ⟨r, hr, g1⟩ := h.got
    subst hr
    have g2 := h.b5
    have g3 := h.upd
    have HD := Lib.hid hD
    have HG1 := Lib.hid g1; have HG2 := Lib.hid g2; have HG3 := Lib.hid g3
    clear h hD g1 g2 g3
    gi_wp2
    refine ⟨by simp, .inl ⟨_, _, rfl, run_takeDeferred HD.out, ?_⟩⟩
    have hz := HZ5.out; have hbb := HBB.out
    refine ⟨_, results_cc (fn := Tryz.f55) rfl rfl (load36 (cells_put _ HG1.out rfl HD.out rfl)) rfl (load4 (cells_put _ HG2.out rfl HD.out rfl)), rfl, ?_⟩
    exact HG3.out.step (upd_put _) (fun k hk e => by omega)
end Go.Proofs.YtbonfdkgkcbkmaaGreat
end

section
namespace Go.Proofs.YtbonfdkgkcbkmaaGreat
set_option maxRecDepth 100000
open Go.RowKit Go.Shelf

attribute [local go_sem] Oper.semAt_some
def askI (x : InM) (o : List Int) (idx n : Int) : Int := if chkOff x o ≠ 0 then chkOff x o else if shareB idx n then 0 else 2
theorem askI_zero {x : InM} {o : List Int} {idx n : Int} (h : askI x o idx n = 0) : chkOff x o = 0 ∧ shareB idx n = true := by
  unfold askI at h
  split at h
  · rename_i h1; exact absurd h h1
  · rename_i h1
    split at h
    · rename_i h2; exact ⟨by omega, h2⟩
    · omega
set_option maxHeartbeats 2000000 in
theorem kasked_any (x : InM) (o : List Int) (idx n : Int) (w : World) (h : RecsIn w x.ra x.recs) (hl : x.recs.length ≤ 140737488351232) (ho : o.length = 8) :
    Calls Tryz.prog 54 #[.agg #[.int .i64 x.src, .slice x.ra x.recs.length x.rc], .agg (o.map I).toArray, .int .i64 idx, .int .i64 n] w fun e w' => e = .returned (.int .i64 (askI x o idx n)) ∧ Upd0 w w' := by
  obtain ⟨wb, hwb⟩ : ∃ wb, wb = (w.alloc (.cells #[.int .i64 x.src, .slice x.ra x.recs.length x.rc] 41)).alloc (.cells (o.map I).toArray 43) := ⟨_, rfl⟩
  have HU := Lib.hid (show Upd0 w wb by rw [hwb]; exact ((Upd.refl _ w).alloc _).alloc _)
  have HX1 := Lib.hid (show wb.heap[w.heap.size]? = some (.cells #[.int .i64 x.src, .slice x.ra x.recs.length x.rc] 41 (0, 0)) by rw [hwb]; exact (alloc_lt (by simp)).trans (alloc_at rfl))
  have HX2 := Lib.hid (show wb.heap[w.heap.size + 1]? = some (.cells (o.map I).toArray 43 (0, 0)) by rw [hwb]; exact alloc_at (by simp))
  have HC := Lib.hid (checkoffsets_any x o wb (h.kept HU.out) hl ho)
  have HS := Lib.hid (fun W => share_any idx n W)
  obtain ⟨a, ha⟩ : ∃ a, a = askI x o idx n := ⟨_, rfl⟩
  have HA := Lib.hid (show a = if chkOff x o ≠ 0 then chkOff x o else if shareB idx n then 0 else 2 from ha)
  rw [← ha]
  obtain ⟨c, hcc⟩ : ∃ c, c = chkOff x o := ⟨_, rfl⟩
  obtain ⟨sb, hsb⟩ : ∃ sb, sb = shareB idx n := ⟨_, rfl⟩
  rw [← hcc, ← hsb] at HA
  rw [← hcc] at HC
  rw [← hsb] at HS
  obtain ⟨c0, c1⟩ := cells2_of HX1.out
  obtain ⟨o0, o1, o2, o3, o4, o5, o6, o7, hmap⟩ := eight ho
  rw [hmap] at hwb HX2 HC ⊢
  obtain ⟨e0, e1, e2, e3, e4, e5, e6, e7⟩ := cells8_of HX2.out
  clear h ho ha hcc hsb hmap
  go_enter Tryz.func54, Tryz.ntmps54
  go_wp2_with (go_at_call 53; fail)
  rw [← hwb]
  clear hwb
  refine HC.out.mono ?_
  rintro e w2 ⟨rfl, hu2⟩
  have HU2 := Lib.hid (HU.out.trans hu2)
  clear c0 c1 e0 e1 e2 e3 e4 e5 e6 e7 hu2
  simp only []
  by_cases hz : c = 0
  · subst hz
    rw [if_neg (by simp)] at HA
    cases sb with
    | false =>
      go_wp2_with (go_at_call 127; refine (HS.out _).mono ?_; rintro e w' ⟨rfl, rfl⟩)
      go_ret
      exact ⟨ret_int (by rw [HA.out]; rfl), HU2.out⟩
    | true =>
      go_wp2_with (go_at_call 127; refine (HS.out _).mono ?_; rintro e w' ⟨rfl, rfl⟩)
      go_ret
      exact ⟨ret_int (by rw [HA.out]; rfl), HU2.out⟩
  · have hz' : (c != 0) = true := by simpa using hz
    rw [if_pos hz] at HA
    clear hz
    go_wp2
    go_ret
    exact ⟨ret_int HA.out.symm, HU2.out⟩
theorem results_cttt {P : Program} {fn : Func} {ts : Array Value} {w : World} {a u x y : Nat} {t : TypeId} {p : Addr} {v : Value} (hr : fn.results = #[.cell a t, .tmp u, .tmp x, .tmp y]) (ha : ts.getD a undef = .pointer (some p)) (hl : (loadVar t p).run P w = .ok v w) :
    (Go.results fn ts).run P w = .ok (.tuple #[v, ts.getD u undef, ts.getD x undef, ts.getD y undef]) w := by
  unfold Go.results
  rw [hr]
  have ha' : ts[a]?.getD undef = .pointer (some p) := by simpa using ha
  simp [asAddr, ha', hl]
/-- What Next answers. -/
def NextR (x : InM) (o : List Int) (idx n : Int) : RecV × Int × Bool × Int :=
  if askI x o idx n ≠ 0 then (⟨0, 0, 0⟩, 0, false, askI x o idx n) else
    match nextL o x.recs idx n with
    | none => (⟨0, 0, 0⟩, 0, false, 0)
    | some r => (r, grpN r, true, 0)
theorem nextL_mem {o : List Int} {recs : List RecV} {idx n : Int} {r : RecV} (h : nextL o recs idx n = some r) : r ∈ recs := by
  unfold nextL at h
  rw [Option.map_eq_some_iff] at h
  obtain ⟨z, hz, rfl⟩ := h
  exact partFrom_mem (List.mem_of_find?_eq_some hz)
theorem nextL_grp {x : InM} {o : List Int} {idx n : Int} {r : RecV} (hc : chkOff x o = 0) (h : nextL o x.recs idx n = some r) : r.key.tmod 8 = (grpN r : Int) := by
  obtain ⟨h1, h2⟩ := (chkOff_zero hc).2.2.2 r (nextL_mem h) |>.1
  rw [Int.tmod_eq_emod_of_nonneg (by omega), grpN]; omega
set_option maxHeartbeats 4000000 in
theorem knext_any (x : InM) (o : List Int) (idx n : Int) (w : World) (h : RecsIn w x.ra x.recs) (hl : x.recs.length ≤ 140737488351232) (ho : o.length = 8) :
    Calls Tryz.prog 12 #[.agg #[.int .i64 x.src, .slice x.ra x.recs.length x.rc], .agg (o.map I).toArray, .int .i64 idx, .int .i64 n] w fun e w' => e = .returned (.tuple #[.agg #[.int .i64 (NextR x o idx n).1.src, .int .i64 (NextR x o idx n).1.key, .int .i64 (NextR x o idx n).1.val], .int .i64 (NextR x o idx n).2.1, .bool (NextR x o idx n).2.2.1, .int .i64 (NextR x o idx n).2.2.2]) ∧ Upd0 w w' := by
  obtain ⟨b, hb⟩ : ∃ b, b = w.heap.size := ⟨_, rfl⟩
  obtain ⟨wb, hwb⟩ : ∃ wb, wb = ((w.alloc (.cells #[.int .i64 x.src, .slice x.ra x.recs.length x.rc] 41)).alloc (.cells (o.map I).toArray 43)).alloc (.cells #[.int .i64 0, .int .i64 0, .int .i64 0] 36) := ⟨_, rfl⟩
  have HU := Lib.hid (show Upd0 w wb by rw [hwb]; exact (((Upd.refl _ w).alloc _).alloc _).alloc _)
  have HX1 := Lib.hid (show wb.heap[b]? = some (.cells #[.int .i64 x.src, .slice x.ra x.recs.length x.rc] 41 (0, 0)) by rw [hwb, hb]; exact (alloc_lt (by simp <;> omega)).trans ((alloc_lt (by simp)).trans (alloc_at rfl)))
  have HX2 := Lib.hid (show wb.heap[b + 1]? = some (.cells (o.map I).toArray 43 (0, 0)) by rw [hwb, hb]; exact (alloc_lt (by simp)).trans (alloc_at (by simp)))
  have HX3 := Lib.hid (show wb.heap[b + 2]? = some (.cells #[.int .i64 0, .int .i64 0, .int .i64 0] 36 (0, 0)) by rw [hwb, hb]; exact alloc_at (by simp))
  have HC := Lib.hid (kasked_any x o idx n wb (h.kept HU.out) hl ho)
  have H := Lib.hid h; have HOL := Lib.hid ho
  have HBB := Lib.hid hb
  obtain ⟨nr, hnr⟩ : ∃ nr, nr = NextR x o idx n := ⟨_, rfl⟩
  have HN := Lib.hid (show nr = if askI x o idx n ≠ 0 then (⟨0, 0, 0⟩, 0, false, askI x o idx n) else
    match nextL o x.recs idx n with
    | none => (⟨0, 0, 0⟩, 0, false, 0)
    | some r => (r, (grpN r : Int), true, 0) from hnr)
  rw [← hnr]
  have HND := Lib.hid (fun (W : World) (hW : Upd0 w W) (hz : chkOff x o = 0) => next0_any x o idx n W (h.kept hW) hz ho)
  obtain ⟨a, ha⟩ : ∃ a, a = askI x o idx n := ⟨_, rfl⟩
  rw [← ha] at HC HN
  have HA := Lib.hid ha
  obtain ⟨c0, c1⟩ := cells2_of HX1.out
  obtain ⟨o0, o1, o2, o3, o4, o5, o6, o7, hmap⟩ := eight ho
  rw [hmap] at hwb HX2 HC HND ⊢
  obtain ⟨e0, e1, e2, e3, e4, e5, e6, e7⟩ := cells8_of HX2.out
  clear h ho hnr ha hmap
  go_enter Tryz.func12, Tryz.ntmps12
  go_wp2_with (go_at_call 54; fail)
  rw [← hwb, ← hb]
  clear hwb hb
  simp only [Nat.add_assoc, Nat.reduceAdd]
  refine HC.out.mono ?_
  rintro e w2 ⟨rfl, hu2⟩
  have HU2 := Lib.hid (HU.out.trans hu2)
  have HY1 := Lib.hid ((hu2.block _ (lt_of_heap HX1.out) (fun e => e)).trans HX1.out)
  have HY2 := Lib.hid ((hu2.block _ (lt_of_heap HX2.out) (fun e => e)).trans HX2.out)
  have HY3 := Lib.hid ((hu2.block _ (lt_of_heap HX3.out) (fun e => e)).trans HX3.out)
  clear c0 c1 e0 e1 e2 e3 e4 e5 e6 e7 hu2 HX1 HX2 HX3
  obtain ⟨s0, s1, s2⟩ := cells3_of HY3.out
  have f0 : w2.frozen? ⟨b + 2, 0, none⟩ = false := frozen_of_heap HY3.out
  have f1 : w2.frozen? ⟨b + 2, 1, none⟩ = false := frozen_of_heap HY3.out
  have f2 : w2.frozen? ⟨b + 2, 2, none⟩ = false := frozen_of_heap HY3.out
  simp only []
  by_cases hz : a = 0
  · subst hz
    rw [if_neg (by simp)] at HN
    obtain ⟨hco, hsh⟩ := askI_zero HA.out.symm
    have HCI := Lib.hid (fun (r : RecV) (e : nextL o x.recs idx n = some r) => And.intro (nextL_grp hco e) (grpN_lt r))
    have HNX := Lib.hid (HND.out w2 HU2.out hco)
    obtain ⟨r?, hr?⟩ : ∃ r?, r? = nextL o x.recs idx n := ⟨_, rfl⟩
    rw [← hr?] at HN HNX HCI
    obtain ⟨c0, c1⟩ := cells2_of HY1.out
    obtain ⟨e0, e1, e2, e3, e4, e5, e6, e7⟩ := cells8_of HY2.out
    clear hco hsh hr?
    go_wp2_with (go_at_call 55; fail)
    refine HNX.out.mono ?_
    rintro e w3 ⟨rfl, hu3⟩
    have HU3 := Lib.hid (HU2.out.trans hu3)
    have HZ3 := Lib.hid ((hu3.block _ (lt_of_heap HY3.out) (fun e => e)).trans HY3.out)
    clear c0 c1 e0 e1 e2 e3 e4 e5 e6 e7 s0 s1 s2 f0 f1 f2 hu3
    obtain ⟨s0, s1, s2⟩ := cells3_of HZ3.out
    have f0 : w3.frozen? ⟨b + 2, 0, none⟩ = false := frozen_of_heap HZ3.out
    have f1 : w3.frozen? ⟨b + 2, 1, none⟩ = false := frozen_of_heap HZ3.out
    have f2 : w3.frozen? ⟨b + 2, 2, none⟩ = false := frozen_of_heap HZ3.out
    have hl2 := lt_of_heap HZ3.out
    simp only []
    cases r? with
    | none =>
      simp only [optR, Option.isSome]
      go_wp2
      obtain ⟨p1, p2⟩ := put3 (u := .int .i64 0) (v := .int .i64 0) (x := .int .i64 0) HZ3.out
      refine bodyPost_ret (results_cttt (fn := Tryz.f12) rfl rfl (load36 ((alloc_lt (Nat.lt_of_lt_of_le hl2 p2.size)).trans p1))) rfl ⟨?_, (HU3.out.cut p2 (fun b hb => by have := HBB.out; omega)).alloc _⟩
      rw [HN.out]; rfl
    | some r =>
      obtain ⟨hg, hg8⟩ := HCI.out r rfl
      simp only [optR, Option.isSome]
      obtain ⟨w4, hw4⟩ : ∃ w4, w4 = w3.alloc (.cells #[.int .i64 r.src, .int .i64 r.key, .int .i64 r.val] 36) := ⟨_, rfl⟩
      have hu4 : Upd0 w3 w4 := by rw [hw4]; exact (Upd.refl _ w3).alloc _
      have HZ4 := Lib.hid ((hu4.block _ (lt_of_heap HZ3.out) (fun e => e)).trans HZ3.out)
      have HR4 := Lib.hid (show w4.heap[w3.heap.size]? = some (.cells #[.int .i64 r.src, .int .i64 r.key, .int .i64 r.val] 36 (0, 0)) by rw [hw4]; exact alloc_at rfl)
      have HU4 := Lib.hid (HU3.out.trans hu4)
      have HG := Lib.hid hg
      obtain ⟨g, hgg⟩ : ∃ g : Int, g = grpN r := ⟨_, rfl⟩
      have HN2 : Hid (nr = (r, (grpN r : Int), true, 0)) := HN
      rw [← hgg] at HG HN2 hg
      clear HN
      clear hu4 hg8 hgg HCI
      go_upto_region 7 with fail
      rw [← hw4]
      clear hw4 s0 s1 s2 f0 f1 f2
      obtain ⟨s0, s1, s2⟩ := cells3_of HZ4.out
      have f0 : w4.frozen? ⟨b + 2, 0, none⟩ = false := frozen_of_heap HZ4.out
      have f1 : w4.frozen? ⟨b + 2, 1, none⟩ = false := frozen_of_heap HZ4.out
      have f2 : w4.frozen? ⟨b + 2, 2, none⟩ = false := frozen_of_heap HZ4.out
      obtain ⟨r0, r1, r2⟩ := cells3_of HR4.out
      have hne : ¬ (b + 2 = w3.heap.size) := by omega
      have hne' : ¬ (w3.heap.size = b + 2) := by omega
      go_region
      go_wp2
      obtain ⟨p1, p2⟩ := put3 (u := .int .i64 r.src) (v := .int .i64 r.key) (x := .int .i64 r.val) HZ4.out
      have p3 := p2.drew
      refine bodyPost_ret (results_cttt (fn := Tryz.f12) rfl rfl (load36 (W := World.drew _) p1)) rfl ⟨?_, HU4.out.cut p3 (fun b hb => by have := HBB.out; omega)⟩
      rw [HN2.out]; rfl
  · have hz' : (a != 0) = true := by simpa using hz
    rw [if_pos hz] at HN
    clear hz
    go_wp2
    obtain ⟨p1, p2⟩ := put3 (u := .int .i64 0) (v := .int .i64 0) (x := .int .i64 0) HY3.out
    refine bodyPost_ret (results_cttt (fn := Tryz.f12) rfl rfl (load36 p1)) rfl ⟨?_, HU2.out.cut p2 (fun b hb => by have := HBB.out; omega)⟩
    rw [HN.out]; rfl
/-- What Read answers. -/
def ReadR (x : InM) (o : List Int) (idx n : Int) : List Int × Int :=
  if askI x o idx n ≠ 0 then (zer8, askI x o idx n) else (readO o (nextL o x.recs idx n), 0)
theorem readO_len {o : List Int} (ho : o.length = 8) (r : Option RecV) : (readO o r).length = 8 := by
  cases r <;> simp [readO, ho]
theorem ReadR_len {x : InM} {o : List Int} (ho : o.length = 8) (idx n : Int) : (ReadR x o idx n).1.length = 8 := by
  unfold ReadR
  split
  · rfl
  · exact readO_len ho _
theorem load43 {W : World} {t : Nat} {o : List Int} (h : W.heap[t]? = some (.cells (o.map I).toArray 43 (0, 0))) (h8 : o.length = 8) : (loadVar 43 ⟨t, 0, none⟩).run Tryz.prog W = .ok (.agg (o.map I).toArray) W :=
  run_loadVar_mid (P := Tryz.prog) W t 0 43 (o.map I) _ (rangeAt_block h) Tryz.underlying43 rfl (by rw [Tryz.size43]; simp [h8])
theorem put_off {W : World} {t : Nat} {o : List Int} {g : Nat} {v : Int} (h : W.heap[t]? = some (.cells (o.map I).toArray 43 (0, 0))) : (W.setCell ⟨t, g, none⟩ (.int .i64 v)).heap[t]? = some (.cells ((o.set g v).map I).toArray 43 (0, 0)) := by
  have := blk_set (i := g) (v := .int .i64 v) h
  rw [this]
  simp [List.map_set]
theorem off_ends {x : InM} {o : List Int} (h : chkOff x o = 0) (g : Nat) (hg : g < 8) : 0 ≤ o.getD g 0 ∧ o.getD g 0 ≤ 40 := by
  obtain ⟨h1, h2⟩ := chkOff_in h
  have := offB_all h2 g hg
  rw [totT_get _ hg] at this
  have h3 := cnt_le x.recs g
  have h4 := (chkIn_zero h1).1
  omega
set_option maxHeartbeats 4000000 in
theorem kread_any (x : InM) (o : List Int) (idx n : Int) (w : World) (h : RecsIn w x.ra x.recs) (hl : x.recs.length ≤ 140737488351232) (ho : o.length = 8) :
    Calls Tryz.prog 13 #[.agg #[.int .i64 x.src, .slice x.ra x.recs.length x.rc], .agg (o.map I).toArray, .int .i64 idx, .int .i64 n] w fun e w' => e = .returned (.tuple #[.agg ((ReadR x o idx n).1.map I).toArray, .int .i64 (ReadR x o idx n).2]) ∧ Upd0 w w' := by
  obtain ⟨b, hb⟩ : ∃ b, b = w.heap.size := ⟨_, rfl⟩
  obtain ⟨wb, hwb⟩ : ∃ wb, wb = ((w.alloc (.cells #[.int .i64 x.src, .slice x.ra x.recs.length x.rc] 41)).alloc (.cells (o.map I).toArray 43)).alloc (.cells #[.int .i64 0, .int .i64 0, .int .i64 0, .int .i64 0, .int .i64 0, .int .i64 0, .int .i64 0, .int .i64 0] 43) := ⟨_, rfl⟩
  have HU := Lib.hid (show Upd0 w wb by rw [hwb]; exact (((Upd.refl _ w).alloc _).alloc _).alloc _)
  have HX1 := Lib.hid (show wb.heap[b]? = some (.cells #[.int .i64 x.src, .slice x.ra x.recs.length x.rc] 41 (0, 0)) by rw [hwb, hb]; exact (alloc_lt (by simp <;> omega)).trans ((alloc_lt (by simp)).trans (alloc_at rfl)))
  have HX2 := Lib.hid (show wb.heap[b + 1]? = some (.cells (o.map I).toArray 43 (0, 0)) by rw [hwb, hb]; exact (alloc_lt (by simp)).trans (alloc_at (by simp)))
  have HX3 := Lib.hid (show wb.heap[b + 2]? = some (.cells #[.int .i64 0, .int .i64 0, .int .i64 0, .int .i64 0, .int .i64 0, .int .i64 0, .int .i64 0, .int .i64 0] 43 (0, 0)) by rw [hwb, hb]; exact alloc_at (by simp))
  have HC := Lib.hid (kasked_any x o idx n wb (h.kept HU.out) hl ho)
  have H := Lib.hid h; have HOL := Lib.hid ho
  have HBB := Lib.hid hb
  obtain ⟨nr, hnr⟩ : ∃ nr, nr = ReadR x o idx n := ⟨_, rfl⟩
  have HN := Lib.hid (show nr = if askI x o idx n ≠ 0 then (zer8, askI x o idx n) else (readO o (nextL o x.recs idx n), 0) from hnr)
  rw [← hnr]
  have HND := Lib.hid (fun (W : World) (hW : Upd0 w W) (hz : chkOff x o = 0) => next0_any x o idx n W (h.kept hW) hz ho)
  obtain ⟨a, ha⟩ : ∃ a, a = askI x o idx n := ⟨_, rfl⟩
  rw [← ha] at HC HN
  have HA := Lib.hid ha
  obtain ⟨c0, c1⟩ := cells2_of HX1.out
  have HO2 := HX2
  obtain ⟨o0, o1, o2, o3, o4, o5, o6, o7, hmap⟩ := eight ho
  rw [hmap] at hwb HX2 HC HND ⊢
  have HMAP := Lib.hid hmap
  obtain ⟨e0, e1, e2, e3, e4, e5, e6, e7⟩ := cells8_of HX2.out
  clear h ho hnr ha hmap
  go_enter Tryz.func13, Tryz.ntmps13
  go_wp2_with (go_at_call 54; fail)
  rw [← hwb, ← hb]
  clear hwb hb
  simp only [Nat.add_assoc, Nat.reduceAdd]
  refine HC.out.mono ?_
  rintro e w2 ⟨rfl, hu2⟩
  have HU2 := Lib.hid (HU.out.trans hu2)
  have HY1 := Lib.hid ((hu2.block _ (lt_of_heap HX1.out) (fun e => e)).trans HX1.out)
  have HY2 := Lib.hid ((hu2.block _ (lt_of_heap HX2.out) (fun e => e)).trans HX2.out)
  have HY2' := Lib.hid ((hu2.block _ (lt_of_heap HO2.out) (fun e => e)).trans HO2.out)
  have HY3 := Lib.hid ((hu2.block _ (lt_of_heap HX3.out) (fun e => e)).trans HX3.out)
  clear c0 c1 e0 e1 e2 e3 e4 e5 e6 e7 hu2 HX1 HX2 HX3 HO2
  simp only []
  by_cases hz : a = 0
  · subst hz
    rw [if_neg (by simp)] at HN
    obtain ⟨hco, hsh⟩ := askI_zero HA.out.symm
    have HCI := Lib.hid (fun (r : RecV) (e : nextL o x.recs idx n = some r) => And.intro (nextL_grp hco e) (And.intro (grpN_lt r) (off_ends hco _ (grpN_lt r))))
    have HNX := Lib.hid (HND.out w2 HU2.out hco)
    obtain ⟨r?, hr?⟩ : ∃ r?, r? = nextL o x.recs idx n := ⟨_, rfl⟩
    rw [← hr?] at HN HNX HCI
    obtain ⟨c0, c1⟩ := cells2_of HY1.out
    obtain ⟨e0, e1, e2, e3, e4, e5, e6, e7⟩ := cells8_of HY2.out
    clear hco hsh hr?
    go_wp2_with (go_at_call 55; fail)
    refine HNX.out.mono ?_
    rintro e w3 ⟨rfl, hu3⟩
    have HU3 := Lib.hid (HU2.out.trans hu3)
    have HZ2 := Lib.hid ((hu3.block _ (lt_of_heap HY2.out) (fun e => e)).trans HY2.out)
    have HZ2' := Lib.hid ((hu3.block _ (lt_of_heap HY2'.out) (fun e => e)).trans HY2'.out)
    have HZ3 := Lib.hid ((hu3.block _ (lt_of_heap HY3.out) (fun e => e)).trans HY3.out)
    clear c0 c1 e0 e1 e2 e3 e4 e5 e6 e7 hu3
    have hl2 := lt_of_heap HZ3.out
    have hl1 := lt_of_heap HZ2.out
    simp only []
    cases r? with
    | none =>
      simp only [optR, Option.isSome]
      obtain ⟨w4, hw4⟩ : ∃ w4, w4 = w3.alloc (.cells #[.int .i64 0, .int .i64 0, .int .i64 0] 36) := ⟨_, rfl⟩
      have hu4 : Upd0 w3 w4 := by rw [hw4]; exact (Upd.refl _ w3).alloc _
      have HV2 := Lib.hid ((hu4.block _ (lt_of_heap HZ2.out) (fun e => e)).trans HZ2.out)
      have HV3 := Lib.hid ((hu4.block _ (lt_of_heap HZ3.out) (fun e => e)).trans HZ3.out)
      have HU4 := Lib.hid (HU3.out.trans hu4)
      clear hu4
      go_upto_region 7 with fail
      rw [← hw4]
      clear hw4 hl1 hl2
      obtain ⟨e0, e1, e2, e3, e4, e5, e6, e7⟩ := cells8_of HV2.out
      obtain ⟨s0, s1, s2, s3, s4, s5, s6, s7⟩ := cells8_of HV3.out
      have ff : ∀ j, w4.frozen? ⟨b + 2, j, none⟩ = false := fun j => frozen_of_heap HV3.out
      have f0 := ff 0; have f1 := ff 1; have f2 := ff 2; have f3 := ff 3; have f4 := ff 4; have f5 := ff 5; have f6 := ff 6; have f7 := ff 7
      clear ff
      go_wp2
      obtain ⟨p1, p2⟩ := put8 (v0 := .int .i64 o0) (v1 := .int .i64 o1) (v2 := .int .i64 o2) (v3 := .int .i64 o3) (v4 := .int .i64 o4) (v5 := .int .i64 o5) (v6 := .int .i64 o6) (v7 := .int .i64 o7) HV3.out
      rw [← HMAP.out] at p1
      refine bodyPost_ret (results_ct (fn := Tryz.f13) rfl rfl (load43 p1 HOL.out)) rfl ⟨?_, HU4.out.cut p2 (fun b hb => by have := HBB.out; omega)⟩
      rw [HN.out]; rfl
    | some r =>
      obtain ⟨hg, hg8, hg0, hg40⟩ := HCI.out r rfl
      simp only [optR, Option.isSome]
      obtain ⟨w4, hw4⟩ : ∃ w4, w4 = w3.alloc (.cells #[.int .i64 r.src, .int .i64 r.key, .int .i64 r.val] 36) := ⟨_, rfl⟩
      have hu4 : Upd0 w3 w4 := by rw [hw4]; exact (Upd.refl _ w3).alloc _
      have HV2 := Lib.hid ((hu4.block _ (lt_of_heap HZ2'.out) (fun e => e)).trans HZ2'.out)
      have HV3 := Lib.hid ((hu4.block _ (lt_of_heap HZ3.out) (fun e => e)).trans HZ3.out)
      have HR4 := Lib.hid (show w4.heap[w3.heap.size]? = some (.cells #[.int .i64 r.src, .int .i64 r.key, .int .i64 r.val] 36 (0, 0)) by rw [hw4]; exact alloc_at rfl)
      have HU4 := Lib.hid (HU3.out.trans hu4)
      obtain ⟨g, hgg⟩ : ∃ g, g = grpN r := ⟨_, rfl⟩
      have HN2 := Lib.hid (show nr = (o.set (grpN r) (o.getD (grpN r) 0 + 1), 0) from HN.out)
      rw [← hgg] at HN2 hg hg8 hg0 hg40
      obtain ⟨og, hog⟩ : ∃ og, og = o.getD g 0 := ⟨_, rfl⟩
      rw [← hog] at HN2 hg0 hg40
      have HC4 := Lib.hid (show w4.cell? ⟨b + 1, g, none⟩ = some (.int .i64 og) by
        rw [cell_of_heap HV2.out, hog]
        have := HOL.out
        simp [List.getD, show g < o.length by omega])
      clear hu4 hgg HCI HN hog
      go_upto_region 6 with fail
      rw [← hw4]
      clear hw4
      obtain ⟨r0, r1, r2⟩ := cells3_of HR4.out
      have cg := HC4.out
      have fg : w4.frozen? ⟨b + 1, g, none⟩ = false := frozen_of_heap HV2.out
      have hww : IntKind.i64.wrap (og + 1) = og + 1 := by rw [IntKind.wrap_i64]; omega
      have hg8i : (g : Int) < 8 := by omega
      go_upto_region 7 with fail
      obtain ⟨w6, hw6⟩ : ∃ w6, w6 = w4.setCell ⟨b + 1, g, none⟩ (.int .i64 (og + 1)) := ⟨_, rfl⟩
      rw [← hw6]
      have hu6 : Upd (fun k => k = b + 1) w4 w6 := by rw [hw6]; exact upd_own _ _ _ _
      have hv6 := put_off (g := g) (v := og + 1) HV2.out
      rw [← hw6] at hv6
      have HV6 := Lib.hid hv6
      have HW6 := Lib.hid ((hu6.block (b + 2) (lt_of_heap HV3.out) (by omega)).trans HV3.out)
      have HU6 := Lib.hid (HU4.out.cut hu6 (fun b hb => by have := HBB.out; omega))
      have h8 : (o.set g (og + 1)).length = 8 := by simp [HOL.out]
      have H8 := Lib.hid h8
      obtain ⟨p0, p1, p2, p3, p4, p5, p6, p7, hmp⟩ := eight h8
      have HMP := Lib.hid hmp
      rw [hmp] at hv6
      obtain ⟨e0, e1, e2, e3, e4, e5, e6, e7⟩ := cells8_of hv6
      clear hw6 hu6 hv6 h8 hmp cg fg r0 r1 r2 hl1 hl2
      obtain ⟨s0, s1, s2, s3, s4, s5, s6, s7⟩ := cells8_of HW6.out
      have ff : ∀ j, w6.frozen? ⟨b + 2, j, none⟩ = false := fun j => frozen_of_heap HW6.out
      have f0 := ff 0; have f1 := ff 1; have f2 := ff 2; have f3 := ff 3; have f4 := ff 4; have f5 := ff 5; have f6 := ff 6; have f7 := ff 7
      clear ff
      go_wp2
      obtain ⟨q1, q2⟩ := put8 (v0 := .int .i64 p0) (v1 := .int .i64 p1) (v2 := .int .i64 p2) (v3 := .int .i64 p3) (v4 := .int .i64 p4) (v5 := .int .i64 p5) (v6 := .int .i64 p6) (v7 := .int .i64 p7) HW6.out
      rw [← HMP.out] at q1
      refine bodyPost_ret (results_ct (fn := Tryz.f13) rfl rfl (load43 q1 H8.out)) rfl ⟨?_, HU6.out.cut q2 (fun b hb => by have := HBB.out; omega)⟩
      rw [HN2.out]; rfl
  · have hz' : (a != 0) = true := by simpa using hz
    rw [if_pos hz] at HN
    clear hz
    obtain ⟨s0, s1, s2, s3, s4, s5, s6, s7⟩ := cells8_of HY3.out
    have ff : ∀ j, w2.frozen? ⟨b + 2, j, none⟩ = false := fun j => frozen_of_heap HY3.out
    have f0 := ff 0; have f1 := ff 1; have f2 := ff 2; have f3 := ff 3; have f4 := ff 4; have f5 := ff 5; have f6 := ff 6; have f7 := ff 7
    clear ff
    go_wp2
    obtain ⟨p1, p2⟩ := put8 (v0 := .int .i64 0) (v1 := .int .i64 0) (v2 := .int .i64 0) (v3 := .int .i64 0) (v4 := .int .i64 0) (v5 := .int .i64 0) (v6 := .int .i64 0) (v7 := .int .i64 0) HY3.out
    refine bodyPost_ret (results_ct (fn := Tryz.f13) rfl rfl (load43 (o := zer8) p1 rfl)) rfl ⟨?_, HU2.out.cut p2 (fun b hb => by have := HBB.out; omega)⟩
    rw [HN.out]; rfl
end Go.Proofs.YtbonfdkgkcbkmaaGreat
end

