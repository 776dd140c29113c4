/- Walks: Below. -/
import Derived.Test.YtfaeojmmkejeiaaV8
import Derived.Maps.AppendAt
import Derived.Laws.OwnMore
set_option linter.unusedVariables false
set_option linter.unusedSimpArgs false

section
namespace Go.Proofs.Ytfaeojmmkejeiaa
set_option maxRecDepth 100000
open Go.RowKit Go.Shelf

attribute [local go_sem] Oper.semAt_some
def le8 (x y : List Int) : Bool := (List.range 8).all fun g => decide (x.getD g 0 ≤ y.getD g 0)
theorem le8_yes {x y : List Int} (h : ∀ g, g < 8 → x.getD g 0 ≤ y.getD g 0) : le8 x y = true := by
  unfold le8
  rw [List.all_eq_true]
  intro g hg
  simpa using h g (by simpa using hg)
theorem le8_no {x y : List Int} {k : Nat} (hk : k < 8) (h : y.getD k 0 < x.getD k 0) : le8 x y = false := by
  cases hb : le8 x y with
  | false => rfl
  | true =>
    unfold le8 at hb
    rw [List.all_eq_true] at hb
    have := hb k (by simpa using hk)
    simp at this
    simp only [List.getD_eq_getElem?_getD] at h
    omega
set_option maxHeartbeats 2000000 in
theorem below1_any (x y : List Int) (w : World) (hx : x.length = 8) (hy : y.length = 8) : Calls Try.prog 24 #[.agg (x.map I).toArray, .agg (y.map I).toArray] w fun e w' => e = .returned (.bool (le8 x y)) ∧ Upd0 w w' := by
  obtain ⟨w1, hw1⟩ : ∃ w1, w1 = (w.alloc (.cells (x.map I).toArray 58)).alloc (.cells (y.map I).toArray 58) := ⟨_, rfl⟩
  have HU := Lib.hid (show Upd0 w w1 by rw [hw1]; exact ((Upd.refl _ w).alloc _).alloc _)
  have HX := Lib.hid (show w1.heap[w.heap.size]? = some (.cells (x.map I).toArray 58 (0, 0)) by rw [hw1]; exact (alloc_lt (by simp)).trans (alloc_at rfl))
  have HY := Lib.hid (show w1.heap[w.heap.size + 1]? = some (.cells (y.map I).toArray 58 (0, 0)) by rw [hw1]; exact alloc_at (by simp))
  go_enter Try.func24, Try.ntmps24
  go_wp2_with (fail)
  rw [← hw1]
  clear hw1
  go_loopw [6] (fun i wr => ∃ k : Nat, k ≤ 8 ∧ i = .int .i64 k ∧ Hid (∀ g, g < k → x.getD g 0 ≤ y.getD g 0) ∧ Hid (Upd0 w1 wr)) (fun i _ => 8 - (intOf i).toNat)
  case atStart => exact ⟨0, by omega, rfl, Lib.hid (fun g hg => by omega), Lib.hid (Upd.refl _ _)⟩
  case round =>
    obtain ⟨k, hk, rfl, HL, HR⟩ := hrel
    by_cases hlt : k < 8
    · have hk8 : (k : Int) < 8 := by omega
      obtain ⟨xk, hxk⟩ : ∃ xk, xk = x.getD k 0 := ⟨_, rfl⟩
      obtain ⟨yk, hyk⟩ : ∃ yk, yk = y.getD k 0 := ⟨_, rfl⟩
      have HXK := Lib.hid (show wr.cell? ⟨w.heap.size, k, none⟩ = some (.int .i64 xk) by rw [HR.out.get.1 _ _ (lt_of_heap HX.out), cell_of_heap HX.out, hxk]; simp [List.getD, show k < x.length by omega])
      have HYK := Lib.hid (show wr.cell? ⟨w.heap.size + 1, k, none⟩ = some (.int .i64 yk) by rw [HR.out.get.1 _ _ (lt_of_heap HY.out), cell_of_heap HY.out, hyk]; simp [List.getD, show k < y.length by omega])
      have HE := Lib.hid (And.intro hxk hyk)
      have HRD := Lib.hid (HR.out.drew)
      clear hxk hyk
      go_upto_region 4 with fail
      have hA : wr.drew = wr.drew := rfl
      refine wp_region_G 6 (fun W => W = wr.drew) [false, false, false, false, false, false, false] rfl (by kernel_rfl) ?_
      refine wpG_takeT (i := 0) (v := .int .i64 k) rfl (fun L hc h => (hc.waits (n := 6) (i := 2) (by kernel_rfl) (hc.waits (n := 2) (i := 1) (by kernel_rfl) (hc.waits (n := 1) (i := 0) (by kernel_rfl) h)))) (by kernel_rfl) (fun _ _ _ h => h) hA (.inl ⟨rfl, fun w5 q1 => ?_⟩) ?_
      · go_simp
      simp only [Act.put, List.setIfInBounds_toArray, List.set]
      refine wpG_takeT (i := 1) (v := .pointer (some ⟨w.heap.size, k, none⟩)) rfl (fun L hc h => (hc.waits (n := 6) (i := 2) (by kernel_rfl) (hc.waits (n := 2) (i := 1) (by kernel_rfl) h))) (by kernel_rfl) (fun _ _ _ h => h) hA (.inl ⟨rfl, fun w5 q1 => ?_⟩) ?_
      · go_simp
      simp only [Act.put, List.setIfInBounds_toArray, List.set]
      refine wpG_takeT (i := 2) (v := .int .i64 xk) rfl (fun L hc h => (hc.waits (n := 6) (i := 2) (by kernel_rfl) h)) (by kernel_rfl) (fun _ _ _ h => h) hA (.inl ⟨rfl, fun w5 q1 => ?_⟩) ?_
      · subst q1
        have c5 : wr.drew.cell? ⟨w.heap.size, k, none⟩ = some (.int .i64 xk) := HXK.out
        go_simp
      simp only [Act.put, List.setIfInBounds_toArray, List.set]
      refine wpG_takeT (i := 3) (v := .int .i64 k) rfl (fun L hc h => (hc.waits (n := 6) (i := 5) (by kernel_rfl) (hc.waits (n := 5) (i := 4) (by kernel_rfl) (hc.waits (n := 4) (i := 3) (by kernel_rfl) h)))) (by kernel_rfl) (fun _ _ _ h => h) hA (.inl ⟨rfl, fun w5 q1 => ?_⟩) ?_
      · go_simp
      simp only [Act.put, List.setIfInBounds_toArray, List.set]
      refine wpG_takeT (i := 4) (v := .pointer (some ⟨w.heap.size + 1, k, none⟩)) rfl (fun L hc h => (hc.waits (n := 6) (i := 5) (by kernel_rfl) (hc.waits (n := 5) (i := 4) (by kernel_rfl) h))) (by kernel_rfl) (fun _ _ _ h => h) hA (.inl ⟨rfl, fun w5 q1 => ?_⟩) ?_
      · go_simp
      simp only [Act.put, List.setIfInBounds_toArray, List.set]
      refine wpG_takeT (i := 5) (v := .int .i64 yk) rfl (fun L hc h => (hc.waits (n := 6) (i := 5) (by kernel_rfl) h)) (by kernel_rfl) (fun _ _ _ h => h) hA (.inl ⟨rfl, fun w5 q1 => ?_⟩) ?_
      · subst q1
        have c5 : wr.drew.cell? ⟨w.heap.size + 1, k, none⟩ = some (.int .i64 yk) := HYK.out
        go_simp
      simp only [Act.put, List.setIfInBounds_toArray, List.set]
      refine wpG_tail_lit (k := 6) rfl rfl (by kernel_rfl) ?_
      simp only [List.drop]
      by_cases hle : yk < xk
      · go_wp2
        go_ret
        exact ⟨ret_bool (le8_no hlt (by rw [← HE.out.1, ← HE.out.2]; exact hle)).symm, HU.out.trans HRD.out⟩
      · have HLE := Lib.hid hle
        go_wp2
        go_roundw
        case rel =>
          refine ⟨k + 1, by omega, by go_num, Lib.hid (fun g hg => ?_), HRD⟩
          rcases Nat.lt_or_ge g k with h | h
          · exact HL.out g h
          · obtain rfl : g = k := by omega
            rw [← HE.out.1, ← HE.out.2]; have := HLE.out; omega
        case measure => simp [intOf]; omega
    · obtain rfl : k = 8 := by omega
      go_wp2_with (fail)
      go_ret
      exact ⟨ret_bool (le8_yes HL.out).symm, HU.out.trans HR.out⟩

def belowL : List (List Int) → List (List Int) → Bool
  | [], [] => true
  | x :: a, y :: b => le8 x y && belowL a b
  | _, _ => false
theorem belowL_len : ∀ (a b : List (List Int)), a.length ≠ b.length → belowL a b = false
  | [], [], h => by simp at h
  | [], _ :: _, _ => rfl
  | _ :: _, [], _ => rfl
  | x :: a, y :: b, h => by rw [belowL, belowL_len a b (by simpa using h), Bool.and_false]
set_option maxHeartbeats 4000000 in
theorem equalf_any {aa ba : Option Addr} {a b : List (List Int)} {ac bc : Nat} (w : World) (h : AtIn w aa a) (h' : AtIn w ba b) (ha : a.length ≤ 1000) (hb : b.length ≤ 1000) :
    Calls Try.prog 23 #[.slice aa a.length ac, .slice ba b.length bc, .func (.func 24) #[] #[]] w fun e w' => e = .returned (.bool (belowL a b)) ∧ Upd0 w w' := by
  have HA := Lib.hid h; have HB := Lib.hid h'
  clear h h'
  by_cases hl : a.length = b.length
  · have hle : ((a.length : Int) != (b.length : Int)) = false := by simp [hl]
    have HL := Lib.hid hl
    clear hl
    go_enter Try.func23, Try.ntmps23
    go_wp2_with (fail)
    clear hle
    go_loopw [17] (fun i wr => ∃ k : Nat, k ≤ a.length ∧ i = .int .i64 k ∧ Hid (belowL (a.drop k) (b.drop k) = belowL a b) ∧ Hid (Upd0 w wr)) (fun i _ => a.length - (intOf i).toNat)
    case atStart => exact ⟨0, Nat.zero_le _, rfl, Lib.hid rfl, Lib.hid (Upd.refl _ _)⟩
    case round =>
      obtain ⟨k, hk, rfl, HE, HR⟩ := hrel
      by_cases hlt : k < a.length
      · have hl2 : k < b.length := by have := HL.out; omega
        obtain ⟨x, hx⟩ : ∃ x, a[k]? = some x := ⟨_, List.getElem?_eq_getElem hlt⟩
        obtain ⟨y, hy⟩ : ∃ y, b[k]? = some y := ⟨_, List.getElem?_eq_getElem hl2⟩
        have HE2 : Hid ((le8 x y && belowL (a.drop (k + 1)) (b.drop (k + 1))) = belowL a b) := by
          have := HE.out
          rw [drop_cons' hx, drop_cons' hy, belowL] at this
          exact Lib.hid this
        obtain ⟨ab, af, o0, o1, o2, o3, o4, o5, o6, o7, haa, hmap, a0, a1, a2, a3, a4, a5, a6, a7⟩ := (HA.out.kept HR.out).at hx
        obtain ⟨bb, bf, p0, p1, p2, p3, p4, p5, p6, p7, hba, hmap2, b0, b1, b2, b3, b4, b5, b6, b7⟩ := (HB.out.kept HR.out).at hy
        have hal := lt_of_cell a0
        have hbl := lt_of_cell b0
        obtain ⟨w3, hw3⟩ : ∃ w3, w3 = (wr.alloc (.cells #[.int .i64 o0, .int .i64 o1, .int .i64 o2, .int .i64 o3, .int .i64 o4, .int .i64 o5, .int .i64 o6, .int .i64 o7] 58)).alloc (.cells #[.int .i64 p0, .int .i64 p1, .int .i64 p2, .int .i64 p3, .int .i64 p4, .int .i64 p5, .int .i64 p6, .int .i64 p7] 58) := ⟨_, rfl⟩
        have hu3 : Upd0 wr w3 := by rw [hw3]; exact ((Upd.refl _ wr).alloc _).alloc _
        have HC := Lib.hid (below1_any x y w3 (HA.out.len x (List.mem_of_getElem? hx)) (HB.out.len y (List.mem_of_getElem? hy)))
        rw [hmap, hmap2] at HC
        have HU3 := Lib.hid (HR.out.trans hu3)
        obtain ⟨lv, hlv⟩ : ∃ lv, lv = le8 x y := ⟨_, rfl⟩
        rw [← hlv] at HC HE2
        subst haa hba
        clear hx hy hmap hmap2 hu3 hlv HE
        go_wp2_with (fail)
        rw [← hw3]
        clear hw3 a0 a1 a2 a3 a4 a5 a6 a7 b0 b1 b2 b3 b4 b5 b6 b7
        refine HC.out.mono ?_
        rintro _ w4 ⟨rfl, hu4⟩
        have HU4 := Lib.hid (HU3.out.trans hu4)
        clear hu4 HC
        simp only []
        cases lv
        · have HE3 := Lib.hid (show belowL a b = false from HE2.out.symm)
          go_wp2
          go_ret
          exact ⟨ret_bool HE3.out.symm, HU4.out⟩
        · have HE3 := Lib.hid (show belowL (a.drop (k + 1)) (b.drop (k + 1)) = belowL a b by rw [← HE2.out]; rfl)
          go_wp2
          go_roundw
          case rel => exact ⟨k + 1, by omega, by go_num, HE3, HU4⟩
          case measure => simp [intOf]; omega
      · obtain rfl : k = a.length := by omega
        have HE2 := HE.out
        rw [List.drop_of_length_le (Nat.le_refl _), List.drop_of_length_le (by rw [HL.out]; exact Nat.le_refl _), belowL] at HE2
        have HE3 := Lib.hid HE2
        clear HE2 HE
        go_wp2
        go_ret
        exact ⟨ret_bool HE3.out, HR.out⟩
  · have hle : ((a.length : Int) != (b.length : Int)) = true := by simp; omega
    have HL := Lib.hid hl
    clear hl
    go_enter Try.func23, Try.ntmps23
    go_wp2
    go_ret
    exact ⟨ret_bool (belowL_len _ _ HL.out).symm, Upd.refl _ _⟩
theorem below_any {aa ba : Option Addr} {a b : List (List Int)} {ac bc : Nat} (w : World) (h : AtIn w aa a) (h' : AtIn w ba b) (ha : a.length ≤ 1000) (hb : b.length ≤ 1000) :
    Calls Try.prog 13 #[.slice aa a.length ac, .slice ba b.length bc] w fun e w' => e = .returned (.bool (belowL a b)) ∧ Upd0 w w' := by
  have HC := Lib.hid (equalf_any (ac := ac) (bc := bc) w h h' ha hb)
  clear h h'
  go_enter Try.func13, Try.ntmps13
  go_wp2_with (go_at_call 23; fail)
  refine HC.out.mono ?_
  rintro _ w2 ⟨rfl, hu2⟩
  have HU2 := Lib.hid hu2
  clear hu2
  simp only []
  go_wp2
  go_ret
  exact ⟨rfl, HU2.out⟩
end Go.Proofs.Ytfaeojmmkejeiaa
end

section
namespace Go.Proofs.Ytfaeojmmkejeiaa
set_option maxRecDepth 100000
open Go.RowKit Go.Shelf

attribute [local go_sem] Oper.semAt_some
def beginsB (l h : List Int) : Bool := decide (h.length ≤ l.length ∧ ∀ i, i < h.length → l.getD i 0 = h.getD i 0)
set_option maxHeartbeats 4000000 in
theorem begins_any {la ha : Option Addr} {l h : List Int} {lc hc : Nat} (w : World) (hl : IntsIn w la l) (hh : IntsIn w ha h) (bl : l.length ≤ 140737488351232) (bh : h.length ≤ 140737488351232) :
    Calls Try.prog 11 #[.slice la l.length lc, .slice ha h.length hc] w fun e w' => e = .returned (.bool (beginsB l h)) ∧ Upd0 w w' := by
  have HL := Lib.hid hl; have HH := Lib.hid hh
  clear hl hh
  by_cases hn : l.length < h.length
  · have hn' : (l.length : Int) < h.length := by omega
    have HB : Hid (beginsB l h = false) := Lib.hid (by simp [beginsB]; omega)
    go_enter Try.func11, Try.ntmps11
    go_wp2
    go_ret
    exact ⟨ret_bool HB.out.symm, Upd.refl _ _⟩
  · have hn' : ¬ (l.length : Int) < h.length := by omega
    go_enter Try.func11, Try.ntmps11
    go_wp2_with (fail)
    clear hn'
    go_loopw [13] (fun i wr => ∃ k : Nat, k ≤ h.length ∧ i = .int .i64 k ∧ Hid (∀ i, i < k → l.getD i 0 = h.getD i 0) ∧ Hid (Upd0 w wr)) (fun i _ => h.length - (intOf i).toNat)
    case atStart => exact ⟨0, Nat.zero_le _, rfl, Lib.hid (fun i hi => by omega), Lib.hid (Upd.refl _ _)⟩
    case round =>
      obtain ⟨k, hk, rfl, HE, HR⟩ := hrel
      by_cases hlt : k < h.length
      · have hl2 : k < l.length := by omega
        obtain ⟨x, hx⟩ : ∃ x, l[k]? = some x := ⟨_, List.getElem?_eq_getElem hl2⟩
        obtain ⟨y, hy⟩ : ∃ y, h[k]? = some y := ⟨_, List.getElem?_eq_getElem hlt⟩
        obtain ⟨ab, af, hla, hcx⟩ := (HL.out.kept HR.out).cell hx
        obtain ⟨bb, bf, hha, hcy⟩ := (HH.out.kept HR.out).cell hy
        have HX := Lib.hid hcx; have HY := Lib.hid hcy
        have HXY := Lib.hid (show l.getD k 0 = x ∧ h.getD k 0 = y by rw [List.getD_eq_getElem?_getD, List.getD_eq_getElem?_getD, hx, hy]; exact ⟨rfl, rfl⟩)
        have HRD := Lib.hid HR.out.drew
        subst hla hha
        clear hx hy hcx hcy
        have hlti : (k : Int) < h.length := by omega
        go_upto_region 6 with fail
        have hA : wr.drew = wr.drew := rfl
        refine wp_region_G 8 (fun W => W = wr.drew) [false, false, false, false, false, false, false, false, false] rfl (by kernel_rfl) ?_
        refine wpG_takeT (i := 0) (v := .slice (some ⟨ab, af, none⟩) l.length lc) rfl (fun L hc h => (hc.waits (n := 8) (i := 3) (by kernel_rfl) (hc.waits (n := 3) (i := 2) (by kernel_rfl) (hc.waits (n := 2) (i := 0) (by kernel_rfl) h)))) (by kernel_rfl) (fun _ _ _ h => h) hA (.inl ⟨rfl, fun w5 q1 => ?_⟩) ?_
        · go_simp
        simp only [Act.put, List.setIfInBounds_toArray, List.set]
        refine wpG_takeT (i := 1) (v := .int .i64 k) rfl (fun L hc h => (hc.waits (n := 8) (i := 3) (by kernel_rfl) (hc.waits (n := 3) (i := 2) (by kernel_rfl) (hc.waits (n := 2) (i := 1) (by kernel_rfl) h)))) (by kernel_rfl) (fun _ _ _ h => h) hA (.inl ⟨rfl, fun w5 q1 => ?_⟩) ?_
        · go_simp
        simp only [Act.put, List.setIfInBounds_toArray, List.set]
        refine wpG_takeT (i := 2) (v := .pointer (some ⟨ab, af + k, none⟩)) rfl (fun L hc h => (hc.waits (n := 8) (i := 3) (by kernel_rfl) (hc.waits (n := 3) (i := 2) (by kernel_rfl) h))) (by kernel_rfl) (fun _ _ _ h => h) hA (.inl ⟨rfl, fun w5 q1 => ?_⟩) ?_
        · go_simp
        simp only [Act.put, List.setIfInBounds_toArray, List.set]
        refine wpG_takeT (i := 3) (v := .int .i64 x) rfl (fun L hc h => (hc.waits (n := 8) (i := 3) (by kernel_rfl) h)) (by kernel_rfl) (fun _ _ _ h => h) hA (.inl ⟨rfl, fun w5 q1 => ?_⟩) ?_
        · subst q1
          have c5 : wr.drew.cell? ⟨ab, af + k, none⟩ = some (.int .i64 x) := HX.out
          go_simp
        simp only [Act.put, List.setIfInBounds_toArray, List.set]
        refine wpG_takeT (i := 4) (v := .slice (some ⟨bb, bf, none⟩) h.length hc) rfl (fun L hc h => (hc.waits (n := 8) (i := 7) (by kernel_rfl) (hc.waits (n := 7) (i := 6) (by kernel_rfl) (hc.waits (n := 6) (i := 4) (by kernel_rfl) h)))) (by kernel_rfl) (fun _ _ _ h => h) hA (.inl ⟨rfl, fun w5 q1 => ?_⟩) ?_
        · go_simp
        simp only [Act.put, List.setIfInBounds_toArray, List.set]
        refine wpG_takeT (i := 5) (v := .int .i64 k) rfl (fun L hc h => (hc.waits (n := 8) (i := 7) (by kernel_rfl) (hc.waits (n := 7) (i := 6) (by kernel_rfl) (hc.waits (n := 6) (i := 5) (by kernel_rfl) h)))) (by kernel_rfl) (fun _ _ _ h => h) hA (.inl ⟨rfl, fun w5 q1 => ?_⟩) ?_
        · go_simp
        simp only [Act.put, List.setIfInBounds_toArray, List.set]
        refine wpG_takeT (i := 6) (v := .pointer (some ⟨bb, bf + k, none⟩)) rfl (fun L hc h => (hc.waits (n := 8) (i := 7) (by kernel_rfl) (hc.waits (n := 7) (i := 6) (by kernel_rfl) h))) (by kernel_rfl) (fun _ _ _ h => h) hA (.inl ⟨rfl, fun w5 q1 => ?_⟩) ?_
        · go_simp
        simp only [Act.put, List.setIfInBounds_toArray, List.set]
        refine wpG_takeT (i := 7) (v := .int .i64 y) rfl (fun L hc h => (hc.waits (n := 8) (i := 7) (by kernel_rfl) h)) (by kernel_rfl) (fun _ _ _ h => h) hA (.inl ⟨rfl, fun w5 q1 => ?_⟩) ?_
        · subst q1
          have c5 : wr.drew.cell? ⟨bb, bf + k, none⟩ = some (.int .i64 y) := HY.out
          go_simp
        simp only [Act.put, List.setIfInBounds_toArray, List.set]
        refine wpG_tail_lit (k := 8) rfl rfl (by kernel_rfl) ?_
        simp only [List.drop]
        cases hne : x != y
        · have hxy : x = y := by simpa using hne
          have HQ := Lib.hid hxy
          clear hxy
          go_wp2
          go_roundw
          case rel =>
            refine ⟨k + 1, by omega, by go_num, Lib.hid (fun i hi => ?_), HRD⟩
            rcases Nat.lt_or_ge i k with hq | hq
            · exact HE.out i hq
            · obtain rfl : i = k := by omega
              rw [HXY.out.1, HXY.out.2, HQ.out]
          case measure => simp [intOf]; omega
        · have HB : Hid (beginsB l h = false) := Lib.hid (by
            simp only [beginsB, decide_eq_false_iff_not, not_and]
            intro _ hq
            have := hq k hlt
            rw [HXY.out.1, HXY.out.2] at this
            simp [this] at hne)
          go_wp2
          go_ret
          exact ⟨ret_bool HB.out.symm, HRD.out⟩
      · obtain rfl : k = h.length := by omega
        have HB : Hid (beginsB l h = true) := Lib.hid (by simp only [beginsB, decide_eq_true_eq]; exact ⟨by omega, HE.out⟩)
        go_wp2
        go_ret
        exact ⟨ret_bool HB.out.symm, HR.out⟩

def wideIns (o : OpM) : Bool := decide (50 < o.ins.length)
def wideRecs (x : InM) : Bool := decide (200 < x.recs.length)
def overB (os : List OpM) (xs : List InM) : Bool := decide (50 < os.length) || decide (20 < xs.length) || os.any wideIns || xs.any wideRecs
set_option maxHeartbeats 4000000 in
theorem over_any {oa xa : Option Addr} {os : List OpM} {xs : List InM} {oc xc : Nat} (w : World) (h : OpsIn w oa os) (hx : InsIn w xa xs) (ho : os.length ≤ 140737488351232) (hxl : xs.length ≤ 140737488351232) :
    Calls Try.prog 6 #[wkV oa os oc xa xs xc] w fun e w' => e = .returned (.bool (overB os xs)) ∧ Upd0 w w' := by
  obtain ⟨w1, hw1⟩ : ∃ w1, w1 = w.alloc (.cells #[.slice oa os.length oc, .slice xa xs.length xc] 27) := ⟨_, rfl⟩
  have HU := Lib.hid (show Upd0 w w1 by rw [hw1]; exact (Upd.refl _ w).alloc _)
  have HX1 := Lib.hid (show w1.heap[w.heap.size]? = some (.cells #[.slice oa os.length oc, .slice xa xs.length xc] 27 (0, 0)) by rw [hw1]; exact alloc_at rfl)
  have H := Lib.hid h; have HX := Lib.hid hx
  obtain ⟨c0, c1⟩ := cells2_of HX1.out
  have HOV := Lib.hid (overB.eq_1 os xs)
  obtain ⟨ov, hov⟩ : ∃ ov, ov = overB os xs := ⟨_, rfl⟩
  rw [← hov] at HOV ⊢
  clear h hx hov
  by_cases hn1 : 50 < os.length
  · have hn1' : (50 : Int) < os.length := by omega
    have HB : Hid (ov = true) := Lib.hid (by rw [HOV.out]; simp [hn1])
    go_enter Try.func6, Try.ntmps6
    go_wp2_with (fail)
    rw [← hw1]
    go_ret
    exact ⟨ret_bool HB.out.symm, HU.out⟩
  · have hn1' : ¬ (50 : Int) < os.length := by omega
    by_cases hn2 : 20 < xs.length
    · have hn2' : (20 : Int) < xs.length := by omega
      have HB : Hid (ov = true) := Lib.hid (by rw [HOV.out]; simp [hn2])
      go_enter Try.func6, Try.ntmps6
      go_wp2_with (fail)
      rw [← hw1]
      go_ret
      exact ⟨ret_bool HB.out.symm, HU.out⟩
    · have hn2' : ¬ (20 : Int) < xs.length := by omega
      have HOV2 : Hid (ov = (os.any wideIns || xs.any wideRecs)) := Lib.hid (by rw [HOV.out]; simp [hn1, hn2])
      clear HOV
      go_enter Try.func6, Try.ntmps6
      go_wp2_with (fail)
      rw [← hw1]
      clear hw1 c0 c1 hn1' hn2'
      go_loopw [22] (fun i wr => ∃ k : Nat, k ≤ os.length ∧ i = .int .i64 k ∧ Hid ((os.take k).any wideIns = false) ∧ Hid (Upd0 w1 wr)) (fun i _ => os.length - (intOf i).toNat)
      case atStart => exact ⟨0, Nat.zero_le _, rfl, Lib.hid rfl, Lib.hid (Upd.refl _ _)⟩
      case round =>
        obtain ⟨k, hk, rfl, HN, HR⟩ := hrel
        by_cases hlt : k < os.length
        · obtain ⟨o, hoe⟩ : ∃ o, os[k]? = some o := ⟨_, List.getElem?_eq_getElem hlt⟩
          obtain ⟨⟨b, f, hoa, d0, d1, d2, d3, d4⟩, _, _⟩ := (H.out.kept (HU.out.trans HR.out)).at hoe
          have HTK : Hid (os.take (k + 1) = os.take k ++ [o]) := Lib.hid (take_cons' hoe)
          have HAN := Lib.hid (fun hp => any_take (p := wideIns) hoe hp)
          have hbl := lt_of_cell d0
          have HR2 := Lib.hid (HR.out.alloc (.cells #[.int .i64 o.tag, .int .i64 o.width, .slice o.ia o.ins.length o.ic, .int .i64 o.a, .int .i64 o.b] 49))
          subst hoa
          clear hoe
          by_cases hw : 50 < o.ins.length
          · have hw' : (50 : Int) < o.ins.length := by omega
            have HB : Hid (ov = true) := Lib.hid (by rw [HOV2.out, HAN.out (by simp [wideIns, hw])]; rfl)
            clear hw
            go_wp2
            go_ret
            exact ⟨ret_bool HB.out.symm, HU.out.trans HR2.out⟩
          · have hw' : ¬ (50 : Int) < o.ins.length := by omega
            have HWN := Lib.hid (show wideIns o = false by simp [wideIns]; omega)
            clear hw
            go_wp2
            go_roundw
            case rel => exact ⟨k + 1, by omega, by go_num, Lib.hid (by rw [HTK.out, List.any_append, HN.out]; simp [HWN.out]), HR2⟩
            case measure => simp [intOf]; omega
        · obtain rfl : k = os.length := by omega
          rw [List.take_length] at HN
          have HOV3 : Hid (ov = xs.any wideRecs) := Lib.hid (by rw [HOV2.out, HN.out]; rfl)
          obtain ⟨c0, c1⟩ := cells2_of ((HR.out.block _ (lt_of_heap HX1.out) (fun e => e)).trans HX1.out)
          clear HOV2 HN
          go_wp2_with (fail)
          clear c0 c1
          obtain ⟨v1, hv1⟩ : ∃ v1, v1 = wr := ⟨_, rfl⟩
          subst hv1
          go_loopw [34] (fun i wr => ∃ k : Nat, k ≤ xs.length ∧ i = .int .i64 k ∧ Hid ((xs.take k).any wideRecs = false) ∧ Hid (Upd0 v1 wr)) (fun i _ => xs.length - (intOf i).toNat)
          case atStart => exact ⟨0, Nat.zero_le _, rfl, Lib.hid rfl, Lib.hid (Upd.refl _ _)⟩
          case round =>
            obtain ⟨k, hk, rfl, HN, HR3⟩ := hrel
            by_cases hlt : k < xs.length
            · obtain ⟨x, hxe⟩ : ∃ x, xs[k]? = some x := ⟨_, List.getElem?_eq_getElem hlt⟩
              obtain ⟨⟨b, f, hxa, d0, d1⟩, _, _⟩ := (HX.out.kept ((HU.out.trans HR.out).trans HR3.out)).at hxe
              have HTK : Hid (xs.take (k + 1) = xs.take k ++ [x]) := Lib.hid (take_cons' hxe)
              have HAN := Lib.hid (fun hp => any_take (p := wideRecs) hxe hp)
              have hbl := lt_of_cell d0
              have HR4 := Lib.hid (HR3.out.alloc (.cells #[.int .i64 x.src, .slice x.ra x.recs.length x.rc] 52))
              subst hxa
              clear hxe
              by_cases hw : 200 < x.recs.length
              · have hw' : (200 : Int) < x.recs.length := by omega
                have HB : Hid (ov = true) := Lib.hid (by rw [HOV3.out, HAN.out (by simp [wideRecs, hw])])
                clear hw
                go_wp2
                go_ret
                exact ⟨ret_bool HB.out.symm, (HU.out.trans HR.out).trans HR4.out⟩
              · have hw' : ¬ (200 : Int) < x.recs.length := by omega
                have HWN := Lib.hid (show wideRecs x = false by simp [wideRecs]; omega)
                clear hw
                go_wp2
                go_roundw
                case rel => exact ⟨k + 1, by omega, by go_num, Lib.hid (by rw [HTK.out, List.any_append, HN.out]; simp [HWN.out]), HR4⟩
                case measure => simp [intOf]; omega
            · obtain rfl : k = xs.length := by omega
              rw [List.take_length] at HN
              have HB : Hid (ov = false) := Lib.hid (by rw [HOV3.out, HN.out])
              go_wp2
              go_ret
              exact ⟨ret_bool HB.out.symm, (HU.out.trans HR.out).trans HR3.out⟩
end Go.Proofs.Ytfaeojmmkejeiaa
end

section
namespace Go.Proofs.Ytfaeojmmkejeiaa
set_option maxRecDepth 100000
open Go.RowKit

/-! ### A graph that may be -/
theorem chkWrong_each {os : List OpM} : ∀ (r : List OpM) (k : Nat) (wide : Int), os.drop k = r → chkWrong os k r wide = none → ∀ (i : Nat) (o : OpM), k ≤ i → os[i]? = some o → ∃ wd, wrongI os i o wd = 0
  | [], k, wide, hd, _, i, o, hk, hi => by
    have := congrArg List.length hd
    have h2 := (List.getElem?_eq_some_iff.1 hi).1
    simp at this
    omega
  | x :: r, k, wide, hd, h, i, o, hk, hi => by
    have ho : os[k]? = some x := by
      have := congrArg (·[0]?) hd
      simpa using this
    have hd2 : os.drop (k + 1) = r := by
      rw [drop_cons' ho] at hd
      injection hd
    unfold chkWrong at h
    split at h
    · cases h
    · rename_i h0
      by_cases e : i = k
      · subst e
        rw [ho] at hi
        injection hi with hi
        subst hi
        exact ⟨_, Classical.byContradiction h0⟩
      · exact chkWrong_each r (k + 1) _ hd2 h i o (by omega) hi
theorem chkG_each {os : List OpM} (h : (chkG os).2 = 0) : ∀ (i : Nat) (o : OpM), os[i]? = some o → ∃ wd, wrongI os i o wd = 0 := by
  unfold chkG at h
  split at h
  · simp at h
  · cases hc : chkWrong os 0 os 0 with
    | none => exact fun i o => chkWrong_each os 0 0 rfl hc i o (Nat.zero_le _)
    | some z =>
      rw [hc] at h
      exact absurd h (chkWrong_bad _ _ _ _ hc)
theorem wrongI_parts {os : List OpM} {i : Nat} {o : OpM} {wd : Int} (h : wrongI os i o wd = 0) : o.alone i = true ∧ (o.tag = 1 → dupB os i o = false) := by
  unfold wrongI at h
  split at h
  · omega
  · rename_i h1
    simp only [Bool.or_eq_true, Bool.not_eq_true', Bool.and_eq_true, not_or] at h1
    refine ⟨by cases ha : o.alone i <;> simp_all, fun ht => ?_⟩
    cases hd : dupB os i o with
    | false => rfl
    | true => exact absurd ⟨by simpa using ht, hd⟩ h1.2.2
theorem rises_up : ∀ {l : List Int} {last below up : Int}, risesB l last below = true → below ≤ up → risesB l last up = true
  | [], _, _, _, _, _ => rfl
  | k :: l, last, below, up, h, hle => by
    by_cases hz : k ≤ last ∨ below ≤ k
    · rw [risesB_no hz] at h; cases h
    · rw [risesB_yes (by omega) (by omega)] at h ⊢
      exact rises_up h hle
theorem alone_up {o : OpM} {i : Int} (h : o.alone i = true) (hi : i ≤ 8) : o.alone 8 = true := by
  simp only [OpM.alone, Bool.and_eq_true, decide_eq_true_eq] at h ⊢
  exact ⟨⟨h.1.1, rises_up h.1.2 hi⟩, h.2⟩
theorem alone_right {o : OpM} (h : o.alone 8 = true) : rightI o ⟨0, 0⟩ = 0 := by
  unfold rightI
  rw [if_pos h, if_pos]
  unfold fitsB
  simp only [OpM.alone, Bool.and_eq_true] at h
  have hk := h.2
  unfold kindB at hk
  split
  · rename_i h1
    simp only [keepsB] at h1
    by_cases h4 : o.tag = 4
    · simp [h4, CellV.none]
    · by_cases h5 : o.tag = 5
      · simp [h5] at hk
        simp [CellV.none, h5]
        omega
      · simp [h4, h5] at h1
  · simp [CellV.none]

/-! ### Running an operator over few values -/
theorem stepR_up {o : OpM} {c : CellV} {v : Int} (h : 0 ≤ c.count) : 0 ≤ (stepR o c v).1.count ∧ (stepR o c v).1.count ≤ c.count + 1 := by
  unfold stepR
  (repeat' split) <;> simp [CellV.add] <;> omega
theorem flowR_ok (o : OpM) : ∀ (l : List Int) (c : CellV), 0 ≤ c.count → c.count + l.length < 1000 → (flowR o c l).2.2 = 0
  | [], c, _, _ => rfl
  | v :: r, c, h0, hl => by
    simp only [List.length_cons] at hl
    have := stepR_up (o := o) (v := v) h0
    rw [flowR, if_neg (by omega)]
    exact flowR_ok o r _ this.1 (by omega)
theorem flowR_pre (o : OpM) : ∀ (l r : List Int) (c : CellV), (flowR o c l).1 <+: (flowR o c (l ++ r)).1
  | [], r, c => by simp [flowR]
  | v :: l, r, c => by
    rw [List.cons_append, flowR, flowR]
    split
    · exact List.prefix_refl _
    · exact List.prefix_append_right_inj _ |>.2 (flowR_pre o l r _)
theorem RunR_ok {o : OpM} {l : List Int} (h : o.alone 8 = true) (hl : l.length ≤ 40) : RunR o ⟨0, 0⟩ l = ((flowR o ⟨0, 0⟩ l).2.1, (flowR o ⟨0, 0⟩ l).1, 0) := by
  unfold RunR
  rw [if_neg (by omega)]
  unfold runR
  rw [if_neg (by rw [alone_right h]; simp), if_neg (by rw [flowR_ok o l ⟨0, 0⟩ (by simp) (by simp; omega)]; simp)]

/-! ### What comes, place by place -/
structure Grows (r s : Res) : Prop where
  pre : r.1 <+: s.1
  len : s.1.length ≤ 40
  ok : r.2.2 = 0
  ok' : s.2.2 = 0
theorem comes_grows {os : List OpM} {em em' : Int → List Int} {ks : Int} (hg : ∀ (i : Nat) (o : OpM), os[i]? = some o → o.alone 8 = true) (he : ∀ a, em a <+: em' a) (hl : ∀ a, (em' a).length ≤ 40) : ∀ f n, Grows (comesF os em ks f n) (comesF os em' ks f n)
  | 0, n => ⟨List.prefix_refl _, by simp [comesF], rfl, rfl⟩
  | f + 1, n => by
    rw [comesF, comesF]
    cases ho : os[n]? with
    | none => exact ⟨List.prefix_refl _, by simp, rfl, rfl⟩
    | some o =>
      simp only
      by_cases h1 : o.tag = 1
      · rw [if_pos h1, if_pos h1]
        exact ⟨he _, hl _, rfl, rfl⟩
      · rw [if_neg h1, if_neg h1]
        by_cases h6 : o.tag = 6
        · rw [if_pos h6, if_pos h6]
          by_cases hi : idxP (srcP os ks) o.ins < 0
          · rw [if_pos hi, if_pos hi]
            exact ⟨List.prefix_refl _, by simp, rfl, rfl⟩
          · rw [if_neg hi, if_neg hi]
            have ih := comes_grows (ks := ks) hg he hl f (o.ins.getD (idxP (srcP os ks) o.ins).toNat 0).toNat
            exact ⟨ih.pre, ih.len, ih.ok, ih.ok'⟩
        · rw [if_neg h6, if_neg h6]
          have ih := comes_grows (ks := ks) hg he hl f (o.ins.getD 0 0).toNat
          rw [if_neg (by rw [ih.ok]; simp), if_neg (by rw [ih.ok']; simp)]
          have h8 := hg n o ho
          have hle := ih.pre.length_le
          rw [RunR_ok h8 (by have := ih.len; omega), RunR_ok h8 ih.len]
          obtain ⟨t, ht⟩ := ih.pre
          refine ⟨?_, ?_, rfl, rfl⟩
          · show (flowR o ⟨0, 0⟩ _).1 <+: (flowR o ⟨0, 0⟩ _).1
            rw [← ht]
            exact flowR_pre o _ t _
          · exact Nat.le_trans (flowR_len o _ _) ih.len
theorem comes_nil {os : List OpM} {em : Int → List Int} {ks : Int} (hg : ∀ (i : Nat) (o : OpM), os[i]? = some o → o.alone 8 = true) (he : ∀ a, em a = []) : ∀ f n, (comesF os em ks f n).1 = [] ∧ (comesF os em ks f n).2.2 = 0
  | 0, n => ⟨rfl, rfl⟩
  | f + 1, n => by
    rw [comesF]
    cases ho : os[n]? with
    | none => exact ⟨rfl, rfl⟩
    | some o =>
      simp only
      by_cases h1 : o.tag = 1
      · rw [if_pos h1]; exact ⟨he _, rfl⟩
      · rw [if_neg h1]
        by_cases h6 : o.tag = 6
        · rw [if_pos h6]
          by_cases hi : idxP (srcP os ks) o.ins < 0
          · rw [if_pos hi]; exact ⟨rfl, rfl⟩
          · rw [if_neg hi]
            exact comes_nil hg he f _
        · rw [if_neg h6]
          have ih := comes_nil (ks := ks) hg he f (o.ins.getD 0 0).toNat
          rw [if_neg (by rw [ih.2]; simp), ih.1, RunR_ok (hg n o ho) (by simp)]
          exact ⟨rfl, rfl⟩

/-! ### What is emitted -/
theorem valsK_cons (r : RecV) (l : List RecV) (key : RecV) : valsK (r :: l) key = (if sameK r key then [r.val] else []) ++ valsK l key := by
  cases h : sameK r key <;> simp [valsK, h]
theorem emL_cons (r : RecV) (b : Bool) (l : List (RecV × Bool)) : emL ((r, b) :: l) = (if b then [r] else []) ++ emL l := by
  cases b <;> simp [emL]
theorem valsK_app (l m : List RecV) (key : RecV) : valsK (l ++ m) key = valsK l key ++ valsK m key := by simp [valsK]
theorem cnt_mono (l : List RecV) (r : RecV) (g : Nat) : cnt l g ≤ cnt (l ++ [r]) g := by
  rw [cnt_snoc]; split <;> omega
theorem sameK_grp {r key : RecV} (h : sameK r key = true) : grpN r = grpN key := by
  simp only [sameK, Bool.and_eq_true, beq_iff_eq] at h
  rw [grpN, grpN, h.2]
theorem part_over {o : List Int} {key : RecV} : ∀ (l pre : List RecV), o.getD (grpN key) 0 < cnt pre (grpN key) + 1 → (o.getD (grpN key) 0 < cnt pre (grpN key) ∨ o.getD (grpN key) 0 = cnt pre (grpN key)) → valsK (emL (partFrom o pre l)) key = []
  | [], pre, _, _ => rfl
  | r :: l, pre, h, h2 => by
    rw [partFrom, emL_cons, valsK_app]
    have hm := cnt_mono pre r (grpN key)
    have ih := part_over (o := o) (key := key) l (pre ++ [r]) (by omega) (by omega)
    rw [ih, List.append_nil]
    cases hs : sameK r key with
    | false => cases hb : emitB o pre r <;> simp [valsK, hs]
    | true =>
      have hb : emitB o pre r = false := by
        unfold emitB
        rw [sameK_grp hs, decide_eq_false_iff_not, cnt_snoc, if_pos (by have := sameK_grp hs; rw [grpN] at this; exact this)]
        omega
      rw [hb]
      rfl
theorem part_pre {o : List Int} {key : RecV} : ∀ (l pre : List RecV), valsK (emL (partFrom o pre l)) key <+: valsK l key
  | [], pre => List.prefix_refl _
  | r :: l, pre => by
    rw [partFrom, emL_cons, valsK_app, valsK_cons]
    cases hs : sameK r key with
    | false =>
      have : valsK (if emitB o pre r then [r] else []) key = [] := by cases emitB o pre r <;> simp [valsK, hs]
      rw [this]
      simpa using part_pre l (pre ++ [r])
    | true =>
      cases hb : emitB o pre r with
      | true =>
        have : valsK (if true = true then [r] else []) key = [r.val] := by simp [valsK, hs]
        rw [this]
        exact List.prefix_append_right_inj _ |>.2 (part_pre l (pre ++ [r]))
      | false =>
        have hb' : o.getD (grpN key) 0 < cnt (pre ++ [r]) (grpN key) := by
          unfold emitB at hb
          rw [sameK_grp hs, decide_eq_false_iff_not] at hb
          omega
        rw [part_over l (pre ++ [r]) (by omega) (.inl hb')]
        exact ⟨_, rfl⟩
theorem part_all {o : List Int} : ∀ (l pre : List RecV), (∀ r ∈ l, cnt (pre ++ l) (grpN r) ≤ o.getD (grpN r) 0) → emL (partFrom o pre l) = l
  | [], pre, _ => rfl
  | r :: l, pre, h => by
    have hmono : ∀ (m : List RecV) (q : List RecV) (g : Nat), cnt q g ≤ cnt (q ++ m) g := by
      intro m
      induction m with
      | nil => intro q g; simp
      | cons x m ih => intro q g; have := ih (q ++ [x]) g; have h2 := cnt_mono q x g; rw [List.append_assoc] at this; exact Int.le_trans h2 this
    have hb : emitB o pre r = true := by
      unfold emitB
      rw [decide_eq_true_eq]
      have h1 := h r (by simp)
      have h2 := hmono l (pre ++ [r]) (grpN r)
      rw [List.append_assoc] at h2
      exact Int.le_trans h2 h1
    rw [partFrom, emL_cons, hb, part_all l (pre ++ [r]) (fun x hx => by have := h x (by simp [hx]); rw [List.append_assoc]; exact this)]
    rfl
theorem part_none {o : List Int} (ho : ∀ g, o.getD g 0 ≤ 0) : ∀ (l pre : List RecV), emL (partFrom o pre l) = []
  | [], pre => rfl
  | r :: l, pre => by
    have hb : emitB o pre r = false := by
      unfold emitB
      rw [decide_eq_false_iff_not, cnt_snoc, if_pos (show r.key.toNat % 8 = grpN r from rfl)]
      have := ho (grpN r)
      have := (cnt_le pre (grpN r)).1
      omega
    rw [partFrom, emL_cons, hb, part_none ho l]
    rfl
end Go.Proofs.Ytfaeojmmkejeiaa
end

section
namespace Go.Proofs.Ytfaeojmmkejeiaa
set_option maxRecDepth 100000
open Go.RowKit

theorem totT_get (l : List RecV) {g : Nat} (h : g < 8) : (totT l).getD g 0 = cnt l g := by
  rw [List.getD_eq_getElem?_getD, totT_at l h]; rfl
theorem grpN_lt (r : RecV) : grpN r < 8 := Nat.mod_lt _ (by omega)
theorem chkOff_in {x : InM} {o : List Int} (h : chkOff x o = 0) : chkIn x = 0 ∧ offB o (totT x.recs) = true := by
  unfold chkOff at h
  split at h
  · rename_i h1; exact absurd h h1
  · rename_i h1
    refine ⟨by omega, ?_⟩
    split at h
    · rename_i h2; exact h2
    · omega
theorem chkOff_mk {x : InM} {o : List Int} (h : chkIn x = 0) (h2 : offB o (totT x.recs) = true) : chkOff x o = 0 := by
  unfold chkOff
  rw [if_neg (by omega), if_pos h2]
theorem off_whole {x : InM} (h : chkIn x = 0) : chkOff x (totT x.recs) = 0 :=
  chkOff_mk h (offB_yes fun g hg => by rw [totT_get _ hg]; have := cnt_le x.recs g; omega)
theorem zer8_get (g : Nat) : zer8.getD g 0 = 0 := by
  match g with
  | 0 | 1 | 2 | 3 | 4 | 5 | 6 | 7 => rfl
  | _ + 8 => rfl
theorem off_none {x : InM} (h : chkIn x = 0) : chkOff x zer8 = 0 :=
  chkOff_mk h (offB_yes fun g hg => by rw [totT_get _ hg, zer8_get]; have := cnt_le x.recs g; omega)
theorem pre_whole {x : InM} (h : chkIn x = 0) : preX x (totT x.recs) = x.recs := by
  unfold preX
  rw [if_pos (off_whole h), preL, partL]
  exact part_all _ _ (fun r hr => by rw [totT_get _ (grpN_lt r)]; exact Int.le_refl _)
theorem pre_none {x : InM} (h : chkIn x = 0) : preX x zer8 = [] := by
  unfold preX
  rw [if_pos (off_none h), preL, partL]
  exact part_none (fun g => by rw [zer8_get]; omega) _ _
theorem pre_some {x : InM} {o : List Int} (h : chkOff x o = 0) (key : RecV) : valsK (preX x o) key <+: valsK x.recs key := by
  unfold preX
  rw [if_pos h, preL, partL]
  exact part_pre _ _

theorem emV_away {s : Int} {key : RecV} : ∀ (xs : List InM) (ats : List (List Int)), (∀ x ∈ xs, x.src ≠ s) → emV xs ats s key = []
  | [], ats, _ => emV_nil _ _ _
  | x :: xs, [], _ => rfl
  | x :: xs, o :: ats, h => by
    rw [emV, emV_away xs ats (fun y hy => h y (by simp [hy])), List.append_nil, emOf, if_pos (by simpa using h x (by simp))]
theorem emV_grow {s : Int} {key : RecV} : ∀ (xs : List InM) (ats : List (List Int)), (xs.map (·.src)).Nodup → offsOk xs ats = true → ats.length = xs.length → (∀ x ∈ xs, chkIn x = 0) →
    emV xs ats s key <+: emV xs (wholeAt xs) s key ∧ (emV xs (wholeAt xs) s key).length ≤ 40
  | [], ats, _, _, _, _ => by rw [emV_nil, emV_nil]; exact ⟨List.prefix_refl _, by simp⟩
  | x :: xs, [], _, _, h, _ => by simp at h
  | x :: xs, o :: ats, hn, ho, hl, hc => by
    rw [List.map_cons, List.nodup_cons] at hn
    rw [offsOk, Bool.and_eq_true, beq_iff_eq] at ho
    have ih := emV_grow (s := s) (key := key) xs ats hn.2 ho.2 (by simpa using hl) (fun y hy => hc y (by simp [hy]))
    have hw : wholeAt (x :: xs) = totT x.recs :: wholeAt xs := rfl
    rw [hw, emV, emV]
    by_cases hs : x.src = s
    · have hne : ∀ y ∈ xs, y.src ≠ s := fun y hy e => hn.1 (by rw [hs, ← e]; exact List.mem_map.2 ⟨y, hy, rfl⟩)
      rw [emV_away xs _ hne, emV_away xs _ hne, List.append_nil, List.append_nil, emOf, emOf, if_neg (by simp [hs]), if_neg (by simp [hs]), pre_whole (hc x (by simp))]
      have h40 := (chkIn_zero (hc x (by simp))).1
      exact ⟨pre_some ho.1 key, Nat.le_trans (valsK_len _ _) h40⟩
    · rw [emOf, emOf, if_pos (by simpa using hs), if_pos (by simpa using hs)]
      simpa using ih
theorem emV_zero {s : Int} {key : RecV} : ∀ (xs : List InM), (∀ x ∈ xs, chkIn x = 0) → emV xs (zeroAt xs) s key = []
  | [], _ => emV_nil _ _ _
  | x :: xs, h => by
    have hz : zeroAt (x :: xs) = zer8 :: zeroAt xs := rfl
    rw [hz, emV, emV_zero xs (fun y hy => h y (by simp [hy])), emOf, pre_none (h x (by simp))]
    split <;> rfl
theorem offs_whole : ∀ (xs : List InM), (∀ x ∈ xs, chkIn x = 0) → offsOk xs (wholeAt xs) = true
  | [], _ => rfl
  | x :: xs, h => by
    have hw : wholeAt (x :: xs) = totT x.recs :: wholeAt xs := rfl
    rw [hw, offsOk, off_whole (h x (by simp)), offs_whole xs (fun y hy => h y (by simp [hy]))]
    rfl
theorem offs_zero : ∀ (xs : List InM), (∀ x ∈ xs, chkIn x = 0) → offsOk xs (zeroAt xs) = true
  | [], _ => rfl
  | x :: xs, h => by
    have hz : zeroAt (x :: xs) = zer8 :: zeroAt xs := rfl
    rw [hz, offsOk, off_none (h x (by simp)), offs_zero xs (fun y hy => h y (by simp [hy]))]
    rfl
theorem below_whole : ∀ (xs : List InM) (ats : List (List Int)), offsOk xs ats = true → ats.length = xs.length → belowL ats (wholeAt xs) = true
  | [], [], _, _ => rfl
  | [], _ :: _, _, h => by simp at h
  | _ :: _, [], _, h => by simp at h
  | x :: xs, o :: ats, ho, hl => by
    rw [offsOk, Bool.and_eq_true, beq_iff_eq] at ho
    have hw : wholeAt (x :: xs) = totT x.recs :: wholeAt xs := rfl
    rw [hw, belowL, below_whole xs ats ho.2 (by simpa using hl), Bool.and_true]
    exact le8_yes fun g hg => (offB_all (chkOff_in ho.1).2 g hg).2
theorem below_zero : ∀ (xs : List InM) (ats : List (List Int)), offsOk xs ats = true → ats.length = xs.length → belowL (zeroAt xs) ats = true
  | [], [], _, _ => rfl
  | [], _ :: _, _, h => by simp at h
  | _ :: _, [], _, h => by simp at h
  | x :: xs, o :: ats, ho, hl => by
    rw [offsOk, Bool.and_eq_true, beq_iff_eq] at ho
    have hz : zeroAt (x :: xs) = zer8 :: zeroAt xs := rfl
    rw [hz, belowL, below_zero xs ats ho.2 (by simpa using hl), Bool.and_true]
    exact le8_yes fun g hg => by rw [zer8_get]; exact (offB_all (chkOff_in ho.1).2 g hg).1

theorem want_nodup {os : List OpM} (h : (chkG os).2 = 0) : ∀ k, (wantI (os.take k)).Nodup
  | 0 => by simp [wantI]
  | k + 1 => by
    have ih := want_nodup h k
    cases ho : os[k]? with
    | none =>
      have : os.take (k + 1) = os.take k := by
        have hk := List.getElem?_eq_none_iff.1 ho
        rw [List.take_of_length_le (by omega), List.take_of_length_le hk]
      rw [this]; exact ih
    | some o =>
      rw [take_cons' ho, wantI_snoc]
      obtain ⟨wd, hwd⟩ := chkG_each h k o ho
      have hd := (wrongI_parts hwd).2
      split
      · rename_i hs
        have ht : o.tag = 1 := by simpa [isSrc] using hs
        have hdup := hd ht
        rw [List.nodup_append]
        refine ⟨ih, by simp, fun a ha b hb e => ?_⟩
        simp only [List.mem_singleton] at hb
        subst hb
        simp only [wantI, List.mem_map, List.mem_filter] at ha
        obtain ⟨x, ⟨hx1, hx2⟩, hx3⟩ := ha
        have : dupB os k o = true := by
          unfold dupB
          rw [List.any_eq_true]
          refine ⟨x, hx1, ?_⟩
          simp only [isSrc] at hx2
          simp [hx2, hx3, e]
        rw [hdup] at this
        cases this
      · exact ih
theorem chkW_nodup {os : List OpM} {xs : List InM} (h : chkW os xs = 0) : (xs.map (·.src)).Nodup := by
  have hg := chkW_g h
  have hn := want_nodup hg os.length
  rw [List.take_length] at hn
  unfold chkW at h
  rw [if_neg (by omega)] at h
  split at h
  · omega
  · split at h
    · rename_i he
      rw [he, sortI]
      exact (List.mergeSort_perm _ _).nodup_iff.2 hn
    · omega
theorem chkG_alone {os : List OpM} (h : (chkG os).2 = 0) : ∀ (i : Nat) (o : OpM), os[i]? = some o → o.alone 8 = true := fun i o ho => by
  obtain ⟨wd, hwd⟩ := chkG_each h i o ho
  have h8 := (chkG_wf h).2.1
  have hi := (List.getElem?_eq_some_iff.1 ho).1
  exact alone_up (wrongI_parts hwd).1 (by omega)
theorem chkAt_offs {os : List OpM} {xs : List InM} {ats : List (List Int)} (h : chkAt os xs ats = 0) : offsOk xs ats = true := by
  obtain ⟨h1, h2⟩ := chkAt_w h
  unfold chkAt at h
  rw [if_neg (by omega), if_neg (by omega)] at h
  split at h
  · rename_i h3; exact h3
  · omega
theorem chkAt_mk {os : List OpM} {xs : List InM} {ats : List (List Int)} (h : chkW os xs = 0) (hl : ats.length = xs.length) (ho : offsOk xs ats = true) : chkAt os xs ats = 0 := by
  unfold chkAt
  rw [if_neg (by omega), if_neg (by omega), if_pos ho]

/-- Nothing comes with an error. -/
theorem values_err {os : List OpM} {xs : List InM} {ats : List (List Int)} {n : Int} {key : RecV} (h : (valuesR os xs ats n key).2 ≠ 0) : (valuesR os xs ats n key).1 = [] := by
  unfold valuesR at h ⊢
  split
  · rfl
  · rename_i h1
    rw [if_neg h1] at h
    split
    · rfl
    · rename_i h2
      rw [if_neg h2] at h
      unfold doesV at h ⊢
      split
      · rfl
      · rename_i h3
        rw [if_neg h3] at h
        have h0 : chkAt os xs ats = 0 := by omega
        obtain ⟨hw, hl⟩ := chkAt_w h0
        have hg := comes_grows (ks := key.src) (em := fun s => emV xs ats s key) (em' := fun s => emV xs (wholeAt xs) s key) (chkG_alone (chkW_g hw))
          (fun a => (emV_grow xs ats (chkW_nodup hw) (chkAt_offs h0) hl (chkW_in hw)).1) (fun a => (emV_grow xs ats (chkW_nodup hw) (chkAt_offs h0) hl (chkW_in hw)).2) (n.toNat + 1) n.toNat
        exact absurd hg.ok h
/-- P13.5. -/
theorem grows_law {os : List OpM} {xs : List InM} {ats : List (List Int)} {n : Int} {key : RecV} (h : (valuesR os xs ats n key).2 = 0) :
    chkW os xs = 0 ∧ (valuesR os xs (wholeAt xs) n key).2 = 0 ∧ (valuesR os xs ats n key).1 <+: (valuesR os xs (wholeAt xs) n key).1 ∧ valuesR os xs (zeroAt xs) n key = ([], 0) ∧ belowL ats (wholeAt xs) = true ∧ belowL (zeroAt xs) ats = true ∧ (valuesR os xs (wholeAt xs) n key).1.length ≤ 40 := by
  unfold valuesR at h
  split at h
  · rename_i h1; exact absurd h h1
  · rename_i h1
    split at h
    · simp at h
    · rename_i h2
      unfold doesV at h
      split at h
      · rename_i h3; exact absurd h h3
      · rename_i h3
        have h0 : chkAt os xs ats = 0 := by omega
        obtain ⟨hw, hl⟩ := chkAt_w h0
        have hof := chkAt_offs h0
        have hin := chkW_in hw
        have hal := chkG_alone (chkW_g hw)
        have hg := comes_grows (ks := key.src) (em := fun s => emV xs ats s key) (em' := fun s => emV xs (wholeAt xs) s key) hal
          (fun a => (emV_grow xs ats (chkW_nodup hw) hof hl hin).1) (fun a => (emV_grow xs ats (chkW_nodup hw) hof hl hin).2) (n.toNat + 1) n.toNat
        have hz := comes_nil (ks := key.src) (em := fun s => emV xs (zeroAt xs) s key) hal (fun a => emV_zero xs hin) (n.toNat + 1) n.toNat
        have hcw : chkAt os xs (wholeAt xs) = 0 := chkAt_mk hw (by simp [wholeAt]) (offs_whole xs hin)
        have hcz : chkAt os xs (zeroAt xs) = 0 := chkAt_mk hw (by simp [zeroAt]) (offs_zero xs hin)
        have e1 : valuesR os xs ats n key = ((comesV os xs ats key n.toNat).1, (comesV os xs ats key n.toNat).2.2) := by
          unfold valuesR doesV
          rw [if_neg h1, if_neg h2, if_neg h3]
        have e2 : valuesR os xs (wholeAt xs) n key = ((comesV os xs (wholeAt xs) key n.toNat).1, (comesV os xs (wholeAt xs) key n.toNat).2.2) := by
          unfold valuesR doesV
          rw [if_neg (by omega), if_neg h2, if_neg h3]
        have e3 : valuesR os xs (zeroAt xs) n key = ((comesV os xs (zeroAt xs) key n.toNat).1, (comesV os xs (zeroAt xs) key n.toNat).2.2) := by
          unfold valuesR doesV
          rw [if_neg (by omega), if_neg h2, if_neg h3]
        rw [e1, e2, e3]
        exact ⟨hw, hg.ok', hg.pre, by rw [show comesV os xs (zeroAt xs) key n.toNat = comesF os (fun s => emV xs (zeroAt xs) s key) key.src (n.toNat + 1) n.toNat from rfl, hz.1, hz.2], below_whole xs ats hof hl, below_zero xs ats hof hl, hg.len⟩
theorem begins_pre {l h : List Int} (hp : h <+: l) : beginsB l h = true := by
  obtain ⟨t, rfl⟩ := hp
  simp only [beginsB, decide_eq_true_eq]
  refine ⟨by simp, fun i hi => ?_⟩
  rw [List.getD_eq_getElem?_getD, List.getD_eq_getElem?_getD, List.getElem?_append_left hi]
end Go.Proofs.Ytfaeojmmkejeiaa
end

section
namespace Go.Proofs.Ytfaeojmmkejeiaa
set_option maxRecDepth 100000
open Go.RowKit Go.Shelf

attribute [local go_sem] Oper.semAt_some
def wkO (b : Nat) : List OpM := [⟨1, 1, none, 0, [], 0, 0⟩, ⟨4, 1, some ⟨b, 0, none⟩, 1, [0], 0, 0⟩, ⟨7, 1, some ⟨b + 1, 0, none⟩, 1, [1], 0, 0⟩]
def wkX (b : Nat) : List InM := [⟨0, some ⟨b + 3, 0, none⟩, 3, [⟨0, 1, 2⟩, ⟨0, 9, 5⟩, ⟨0, 1, 3⟩]⟩]
theorem wk_chk (b : Nat) : chkW (wkO b) (wkX b) = 0 := by
  have h1 : (chkG (wkO b)).2 = 0 := rfl
  have h2 : (wkX b).any badIn = false := rfl
  have h3 : sortI (wantI (wkO b)) = [0] := by
    show sortI [0] = [0]
    simp [sortI]
  unfold chkW
  rw [h1, h2, h3]
  rfl
theorem wk_val (b : Nat) : valuesR (wkO b) (wkX b) (wholeAt (wkX b)) 2 ⟨0, 1, 0⟩ = ([2, 5], 0) := by
  have h1 : chkAt (wkO b) (wkX b) (wholeAt (wkX b)) = 0 := by
    unfold chkAt
    rw [wk_chk]
    rfl
  have h2 : emV (wkX b) (wholeAt (wkX b)) 0 ⟨0, 1, 0⟩ = [2, 3] := by kernel_rfl
  have h3 : RunR ⟨4, 1, some ⟨b, 0, none⟩, 1, [0], 0, 0⟩ ⟨0, 0⟩ [2, 3] = (⟨2, 5⟩, [2, 5], 0) := by kernel_rfl
  have h4 : RunR ⟨7, 1, some ⟨b + 1, 0, none⟩, 1, [1], 0, 0⟩ ⟨0, 0⟩ [2, 5] = (⟨0, 0⟩, [2, 5], 0) := by kernel_rfl
  have h5 : comesV (wkO b) (wkX b) (wholeAt (wkX b)) ⟨0, 1, 0⟩ 2 = ([2, 5], ⟨0, 0⟩, 0) := by kernel_rfl
  unfold valuesR doesV
  rw [h1, if_neg (by decide), if_neg (by show ¬ ((2 : Int) < 0 ∨ ((3 : Nat) : Int) ≤ 2); decide), if_neg (by decide)]
  show ((comesV (wkO b) (wkX b) (wholeAt (wkX b)) ⟨0, 1, 0⟩ 2).1, (comesV (wkO b) (wkX b) (wholeAt (wkX b)) ⟨0, 1, 0⟩ 2).2.2) = _
  rw [h5]
theorem flat_at {s : Nat} : ∀ {xs : List (List Value)} {i : Nat} {x : List Value}, (∀ y ∈ xs, y.length = s) → xs[i]? = some x → ∀ t u, x[t]? = some u → xs.flatten[i * s + t]? = some u
  | [], _, _, _, h, _, _, _ => by simp at h
  | y :: l, 0, x, hl, h, t, u, hu => by
    simp at h; subst h
    rw [List.flatten_cons, List.getElem?_append_left (by have := (List.getElem?_eq_some_iff.1 hu).1; omega)]
    simpa using hu
  | y :: l, i + 1, x, hl, h, t, u, hu => by
    have h3 : y.length = s := hl y (by simp)
    rw [List.flatten_cons, List.getElem?_append_right (by rw [h3, Nat.succ_mul]; omega), h3, show (i + 1) * s + t - s = i * s + t by rw [Nat.succ_mul]; omega]
    exact flat_at (fun z hz => hl z (by simp [hz])) (by simpa using h) t u hu
theorem row_flat {s : Nat} {w : World} {g : Nat} {ty : TypeId} {xs : List (List Value)} (h : w.heap[g]? = some (.cells xs.flatten.toArray ty (0, 0))) (hl : ∀ y ∈ xs, y.length = s) : Row s w (some ⟨g, 0, none⟩) xs := fun i x hx =>
  ⟨hl x (List.mem_of_getElem? hx), g, 0, rfl, fun t u hu => by
    rw [Nat.zero_add, cell_of_heap h]
    simpa using flat_at hl hx t u hu⟩
set_option maxHeartbeats 4000000 in
theorem wakes_any (w : World) : Calls Try.prog 5 #[] w fun e w' => e = .returned (.bool true) ∧ Upd0 w w' := by
  obtain ⟨b, hb⟩ : ∃ b, b = w.heap.size := ⟨_, rfl⟩
  obtain ⟨w1, hw1⟩ : ∃ w1, w1 = (((((w.alloc (.cells #[.int .i64 0] 3)).alloc (.cells #[.int .i64 1] 3)).alloc (.cells #[.int .i64 1, .int .i64 1, .slice none 0 0, .int .i64 0, .int .i64 0, .int .i64 4, .int .i64 1, .slice (some ⟨b, 0, none⟩) 1 1, .int .i64 0, .int .i64 0, .int .i64 7, .int .i64 1, .slice (some ⟨b + 1, 0, none⟩) 1 1, .int .i64 0, .int .i64 0] 49)).alloc (.cells #[.int .i64 0, .int .i64 1, .int .i64 2, .int .i64 0, .int .i64 9, .int .i64 5, .int .i64 0, .int .i64 1, .int .i64 3] 29)).alloc (.cells #[.int .i64 0, .slice (some ⟨b + 1 + 1 + 1, 0, none⟩) 3 3] 52)).alloc (.cells #[.slice (some ⟨b + 1 + 1, 0, none⟩) 3 3, .slice (some ⟨b + 1 + 1 + 1 + 1, 0, none⟩) 1 1] 27) := ⟨_, rfl⟩
  have HU := Lib.hid (show Upd0 w w1 by rw [hw1]; exact ((((((Upd.refl _ w).alloc _).alloc _).alloc _).alloc _).alloc _).alloc _)
  have h0 : w1.heap[b]? = some (.cells #[.int .i64 0] 3 (0, 0)) := by rw [hw1, hb]; exact (alloc_lt (by simp <;> omega)).trans ((alloc_lt (by simp <;> omega)).trans ((alloc_lt (by simp <;> omega)).trans ((alloc_lt (by simp <;> omega)).trans ((alloc_lt (by simp)).trans (alloc_at rfl)))))
  have h1 : w1.heap[b + 1]? = some (.cells #[.int .i64 1] 3 (0, 0)) := by rw [hw1, hb]; exact (alloc_lt (by simp <;> omega)).trans ((alloc_lt (by simp <;> omega)).trans ((alloc_lt (by simp <;> omega)).trans ((alloc_lt (by simp)).trans (alloc_at (by simp)))))
  have h2 : w1.heap[b + 1 + 1]? = some (.cells #[.int .i64 1, .int .i64 1, .slice none 0 0, .int .i64 0, .int .i64 0, .int .i64 4, .int .i64 1, .slice (some ⟨b, 0, none⟩) 1 1, .int .i64 0, .int .i64 0, .int .i64 7, .int .i64 1, .slice (some ⟨b + 1, 0, none⟩) 1 1, .int .i64 0, .int .i64 0] 49 (0, 0)) := by rw [hw1, hb]; exact (alloc_lt (by simp <;> omega)).trans ((alloc_lt (by simp <;> omega)).trans ((alloc_lt (by simp)).trans (alloc_at (by simp))))
  have h3 : w1.heap[b + 1 + 1 + 1]? = some (.cells #[.int .i64 0, .int .i64 1, .int .i64 2, .int .i64 0, .int .i64 9, .int .i64 5, .int .i64 0, .int .i64 1, .int .i64 3] 29 (0, 0)) := by rw [hw1, hb]; exact (alloc_lt (by simp <;> omega)).trans ((alloc_lt (by simp)).trans (alloc_at (by simp)))
  have h4 : w1.heap[b + 1 + 1 + 1 + 1]? = some (.cells #[.int .i64 0, .slice (some ⟨b + 1 + 1 + 1, 0, none⟩) 3 3] 52 (0, 0)) := by rw [hw1, hb]; exact (alloc_lt (by simp)).trans (alloc_at (by simp))
  have HX := Lib.hid (show w1.heap[b + 1 + 1 + 1 + 1 + 1]? = some (.cells #[.slice (some ⟨b + 1 + 1, 0, none⟩) 3 3, .slice (some ⟨b + 1 + 1 + 1 + 1, 0, none⟩) 1 1] 27 (0, 0)) by rw [hw1, hb]; exact alloc_at (by simp))
  have hi0 : IntsIn w1 (some ⟨b, 0, none⟩) [0] := row_flat (ty := 3) h0 (by simp)
  have hi1 : IntsIn w1 (some ⟨b + 1, 0, none⟩) [1] := row_flat (ty := 3) h1 (by simp)
  have HW := Lib.hid (show WkIn w1 (some ⟨b + 1 + 1, 0, none⟩) (wkO b) 3 (some ⟨b + 1 + 1 + 1 + 1, 0, none⟩) (wkX b) from
    ⟨⟨row_flat (ty := 49) h2 (by simp [wkO, OpM.cells]), fun o ho => by
      simp only [wkO, List.mem_cons, List.mem_nil_iff, or_false] at ho
      rcases ho with rfl | rfl | rfl
      · exact ⟨Row.nil _ _ _, by simp⟩
      · exact ⟨hi0, by simp⟩
      · exact ⟨hi1, by simp⟩⟩, by simp [wkO], by simp [wkO], by unfold maxLen; omega,
     ⟨row_flat (ty := 52) h4 (by simp [wkX, InM.cells]), fun x hx => by
      simp only [wkX, List.mem_cons, List.mem_nil_iff, or_false] at hx
      subst hx
      exact ⟨row_flat (ty := 29) h3 (by simp [RecV.cells]), by simp⟩⟩, by simp [wkX]⟩)
  obtain ⟨c0, c1⟩ := cells2_of HX.out
  clear h0 h1 h2 h3 h4 hi0 hi1
  go_enter Try.func5, Try.ntmps5
  go_upto_region 2 with fail
  rw [← hb, ← hw1]
  clear hw1 hb
  go_wp2_with (go_at_call 7; fail)
  refine (whole_any (xc := 1) w1 HW.out).mono ?_
  rintro _ w2 ⟨v, rfl, hv, hu2⟩
  rw [wk_chk] at hv ⊢
  rcases hv with ⟨hz, _⟩ | ⟨_, g, hg, rfl, hB⟩
  · exact absurd rfl hz
  have HX2 := Lib.hid ((hu2.block _ (lt_of_heap HX.out) (fun e => e)).trans HX.out)
  have HV := Lib.hid (values_any (xc := 1) (ac := 1) 2 ⟨0, 1, 0⟩ w2 (HW.out.kept hu2) hB.in' (by simp [wholeAt, wkX]) (fun o ho => by
      simp only [wkO, List.mem_cons, List.mem_nil_iff, or_false] at ho
      rcases ho with rfl | rfl | rfl <;> simp))
  have HU2 := Lib.hid (HU.out.trans hu2)
  rw [wk_val] at HV
  clear c0 c1 hu2 hB HX HU
  obtain ⟨c0, c1⟩ := cells2_of HX2.out
  simp only []
  go_wp2_with (go_at_call 8; fail)
  refine HV.out.mono ?_
  rintro _ w5 ⟨a5, c5, rfl, ho5, hu5⟩
  obtain ⟨bb, ff, hba, hq0⟩ := (OwnI.in' ho5).cell (i := 0) rfl
  obtain ⟨bb', ff', hba', hq1⟩ := (OwnI.in' ho5).cell (i := 1) rfl
  rw [hba] at hba'
  injection hba' with hba'
  injection hba' with e1 e2
  subst e1 e2
  subst hba
  have HU5 := Lib.hid (HU2.out.trans hu5)
  clear hu5 ho5 c0 c1 HV
  rw [Nat.add_zero] at hq0
  simp only []
  go_wp2
  go_ret
  exact ⟨rfl, HU5.out⟩
end Go.Proofs.Ytfaeojmmkejeiaa
end

section
namespace Go.Proofs.Ytfaeojmmkejeiaa
set_option maxRecDepth 100000
open Go.RowKit Go.Shelf

attribute [local go_sem] Oper.semAt_some
theorem cells4_of {w : World} {b : Nat} {x0 x1 x2 x3 : Value} {t : TypeId} (h : w.heap[b]? = some (.cells #[x0, x1, x2, x3] t (0, 0))) : w.cell? ⟨b, 0, none⟩ = some x0 ∧ w.cell? ⟨b, 1, none⟩ = some x1 ∧ w.cell? ⟨b, 2, none⟩ = some x2 ∧ w.cell? ⟨b, 3, none⟩ = some x3 := by simp [World.cell?, h]
theorem over_bounds {os : List OpM} {xs : List InM} (h : overB os xs = false) : os.length ≤ 50 ∧ xs.length ≤ 20 := by
  unfold overB at h
  simp only [Bool.or_eq_false_iff, decide_eq_false_iff_not] at h
  exact ⟨by omega, by omega⟩
theorem AtAns.in' {w w' : World} {n : Nat} {ats : List (List Int)} {v : Value} (h : AtAns w w' n 0 ats v) : ∃ g, v = .slice (some ⟨g, 0, none⟩) n n ∧ AtIn w' (some ⟨g, 0, none⟩) ats := by
  rcases h with ⟨h, _⟩ | ⟨_, g, _, h2, h3⟩
  · exact absurd rfl h
  · exact ⟨g, h2, h3.in'⟩
set_option maxHeartbeats 8000000 in
theorem grows_any {oa xa aa : Option Addr} {os : List OpM} {xs : List InM} {ats : List (List Int)} {oc xc ac : Nat} {n : Int} {key : RecV} (w : World) (h : OpsIn w oa os) (hx : InsIn w xa xs) (ho : os.length ≤ 140737488351232) (hxl : xs.length ≤ 140737488351232) (hoc : os.length ≤ oc) (hom : oc ≤ maxLen) (ha : AtIn w aa ats) (hoa : ∀ o ∈ os, o.a ≤ 9223372036854775807) :
    Calls Try.prog 4 #[wkV oa os oc xa xs xc, .slice aa ats.length ac, .agg #[.int .i64 n, .int .i64 key.src, .int .i64 key.key, .int .i64 key.val]] w fun e w' => e = .returned (.bool true) ∧ Upd0 w w' := by
  obtain ⟨w1, hw1⟩ : ∃ w1, w1 = (w.alloc (.cells #[.slice oa os.length oc, .slice xa xs.length xc] 27)).alloc (.cells #[.int .i64 n, .int .i64 key.src, .int .i64 key.key, .int .i64 key.val] 31) := ⟨_, rfl⟩
  have hu1 : Upd0 w w1 := by rw [hw1]; exact ((Upd.refl _ w).alloc _).alloc _
  have HX := Lib.hid (show w1.heap[w.heap.size]? = some (.cells #[.slice oa os.length oc, .slice xa xs.length xc] 27 (0, 0)) by rw [hw1]; exact (alloc_lt (by simp)).trans (alloc_at rfl))
  have HK := Lib.hid (show w1.heap[w.heap.size + 1]? = some (.cells #[.int .i64 n, .int .i64 key.src, .int .i64 key.key, .int .i64 key.val] 31 (0, 0)) by rw [hw1]; exact alloc_at (by simp))
  have HW := Lib.hid (wakes_any w1)
  have HG1 := Lib.hid hu1
  have H := Lib.hid (h.kept hu1); have HI := Lib.hid (hx.kept hu1); have HA := Lib.hid (ha.kept hu1); have HOA := Lib.hid hoa
  clear h hx ha hoa hu1
  go_enter Try.func4, Try.ntmps4
  go_wp2_with (go_at_call 5; fail)
  rw [← hw1]
  clear hw1
  refine HW.out.mono ?_
  rintro _ w2 ⟨rfl, hu2⟩
  have HX2 := Lib.hid ((hu2.block _ (lt_of_heap HX.out) (fun e => e)).trans HX.out)
  have HK2 := Lib.hid ((hu2.block _ (lt_of_heap HK.out) (fun e => e)).trans HK.out)
  have HOV := Lib.hid (over_any (oc := oc) (xc := xc) w2 (H.out.kept hu2) (HI.out.kept hu2) ho hxl)
  have HU2 := Lib.hid hu2
  have HF2 := Lib.hid (HG1.out.trans hu2)
  clear hu2 HW HX HK
  obtain ⟨c0, c1⟩ := cells2_of HX2.out
  obtain ⟨ov, hov⟩ : ∃ ov, ov = overB os xs := ⟨_, rfl⟩
  rw [← hov] at HOV
  have HOVE := Lib.hid hov
  clear hov
  simp only []
  go_wp2_with (go_at_call 6; fail)
  refine HOV.out.mono ?_
  rintro _ w3 ⟨rfl, hu3⟩
  have HX3 := Lib.hid ((hu3.block _ (lt_of_heap HX2.out) (fun e => e)).trans HX2.out)
  have HK3 := Lib.hid ((hu3.block _ (lt_of_heap HK2.out) (fun e => e)).trans HK2.out)
  have HU3 := Lib.hid (HU2.out.trans hu3)
  have HF3 := Lib.hid (HF2.out.trans hu3)
  clear hu3 HOV HX2 HK2 c0 c1
  simp only []
  cases ov with
  | true =>
    go_wp2
    go_ret
    exact ⟨rfl, HF3.out⟩
  | false =>
    by_cases hal : 50 < ats.length
    · have hal' : (50 : Int) < ats.length := by omega
      go_wp2
      go_ret
      exact ⟨rfl, HF3.out⟩
    · have hal' : ¬ (50 : Int) < ats.length := by omega
      obtain ⟨hob, hxb⟩ := over_bounds HOVE.out.symm
      have HWK := Lib.hid (show WkIn w3 oa os oc xa xs from ⟨H.out.kept HU3.out, hob, hoc, hom, HI.out.kept HU3.out, hxb⟩)
      have HA3 := Lib.hid (HA.out.kept HU3.out)
      have HV := Lib.hid (values_any (xc := xc) (ac := ac) n key w3 HWK.out HA3.out (by omega) HOA.out)
      obtain ⟨l, hl⟩ : ∃ l, l = valuesR os xs ats n key := ⟨_, rfl⟩
      rw [← hl] at HV
      have HL := Lib.hid hl
      obtain ⟨l, e⟩ := l
      clear hl
      obtain ⟨c0, c1⟩ := cells2_of HX3.out
      obtain ⟨k0, k1, k2, k3⟩ := cells4_of HK3.out
      go_wp2_with (go_at_call 8; fail)
      refine HV.out.mono ?_
      rintro _ w4 ⟨a4, c4, rfl, ho4, hu4⟩
      have HF4 := Lib.hid (HF3.out.trans hu4)
      have HX4 := Lib.hid ((hu4.block _ (lt_of_heap HX3.out) (fun e => e)).trans HX3.out)
      have HK4 := Lib.hid ((hu4.block _ (lt_of_heap HK3.out) (fun e => e)).trans HK3.out)
      have HO4 := Lib.hid ho4; have HWK4 := Lib.hid (HWK.out.kept hu4); have HA4 := Lib.hid (HA3.out.kept hu4)
      clear c0 c1 k0 k1 k2 k3 ho4 hu4 HV HX3 HK3
      simp only []
      by_cases he : e = 0
      · subst he
        have hlaw := grows_law (os := os) (xs := xs) (ats := ats) (n := n) (key := key) (by rw [← HL.out])
        rw [← HL.out] at hlaw
        obtain ⟨hcw, hwe, hpre, hze, hbw, hbz, hlb⟩ := hlaw
        have HWH := Lib.hid (whole_any (xc := xc) w4 HWK4.out)
        rw [hcw] at HWH
        have HPRE := Lib.hid hpre; have HZE := Lib.hid hze; have HBW := Lib.hid hbw; have HBZ := Lib.hid hbz; have HCW := Lib.hid hcw
        obtain ⟨vw, hvw⟩ : ∃ vw, vw = valuesR os xs (wholeAt xs) n key := ⟨_, rfl⟩
        rw [← hvw] at hwe HPRE hlb
        have HVW := Lib.hid hvw
        obtain ⟨lw, ew⟩ := vw
        simp only at hwe hlb
        subst hwe
        clear hpre hze hbw hbz hcw hvw
        obtain ⟨c0, c1⟩ := cells2_of HX4.out
        go_wp2_with (go_at_call 7; fail)
        refine HWH.out.mono ?_
        rintro _ w5 ⟨v5, rfl, hv5, hu5⟩
        obtain ⟨g5, rfl, hg5⟩ := hv5.in'
        have HF5 := Lib.hid (HF4.out.trans hu5)
        have HX5 := Lib.hid ((hu5.block _ (lt_of_heap HX4.out) (fun e => e)).trans HX4.out)
        have HK5 := Lib.hid ((hu5.block _ (lt_of_heap HK4.out) (fun e => e)).trans HK4.out)
        have HO5 := Lib.hid (ownsRow_any HO4.out hu5 (fun _ _ e => e)); have HWK5 := Lib.hid (HWK4.out.kept hu5); have HA5 := Lib.hid (HA4.out.kept hu5); have HG5 := Lib.hid hg5
        have HNO := Lib.hid (none_any (xc := xc) w5 HWK5.out)
        rw [HCW.out] at HNO
        clear c0 c1 hv5 hg5 hu5 HWH HX4 HK4 HO4 HWK4 HA4
        obtain ⟨c0, c1⟩ := cells2_of HX5.out
        simp only []
        go_wp2_with (go_at_call 12; fail)
        refine HNO.out.mono ?_
        rintro _ w6 ⟨v6, rfl, hv6, hu6⟩
        obtain ⟨g6, rfl, hg6⟩ := hv6.in'
        have HF6 := Lib.hid (HF5.out.trans hu6)
        have HX6 := Lib.hid ((hu6.block _ (lt_of_heap HX5.out) (fun e => e)).trans HX5.out)
        have HK6 := Lib.hid ((hu6.block _ (lt_of_heap HK5.out) (fun e => e)).trans HK5.out)
        have HO6 := Lib.hid (ownsRow_any HO5.out hu6 (fun _ _ e => e)); have HWK6 := Lib.hid (HWK5.out.kept hu6); have HA6 := Lib.hid (HA5.out.kept hu6); have HG6 := Lib.hid (HG5.out.kept hu6); have HN6 := Lib.hid hg6
        have hwl : (wholeAt xs).length = xs.length := by simp [wholeAt]
        have hzl : (zeroAt xs).length = xs.length := by simp [zeroAt]
        have HB1 := Lib.hid (below_any (ac := ac) (bc := xs.length) w6 HA6.out HG6.out (by omega) (by omega))
        rw [HBW.out, hwl] at HB1
        clear c0 c1 hv6 hg6 hu6 HNO HX5 HK5 HO5 HWK5 HA5 HG5
        simp only []
        go_wp2_with (go_at_call 13; fail)
        refine HB1.out.mono ?_
        rintro _ w7 ⟨rfl, hu7⟩
        have HF7 := Lib.hid (HF6.out.trans hu7)
        have HX7 := Lib.hid ((hu7.block _ (lt_of_heap HX6.out) (fun e => e)).trans HX6.out)
        have HK7 := Lib.hid ((hu7.block _ (lt_of_heap HK6.out) (fun e => e)).trans HK6.out)
        have HO7 := Lib.hid (ownsRow_any HO6.out hu7 (fun _ _ e => e)); have HWK7 := Lib.hid (HWK6.out.kept hu7); have HA7 := Lib.hid (HA6.out.kept hu7); have HG7 := Lib.hid (HG6.out.kept hu7); have HN7 := Lib.hid (HN6.out.kept hu7)
        have HB2 := Lib.hid (below_any (ac := xs.length) (bc := ac) w7 HN7.out HA7.out (by omega) (by omega))
        rw [HBZ.out, hzl] at HB2
        clear hu7 HB1 HX6 HK6 HO6 HWK6 HA6 HG6 HN6
        simp only []
        go_wp2_with (go_at_call 13; fail)
        refine HB2.out.mono ?_
        rintro _ w8 ⟨rfl, hu8⟩
        have HF8 := Lib.hid (HF7.out.trans hu8)
        have HX8 := Lib.hid ((hu8.block _ (lt_of_heap HX7.out) (fun e => e)).trans HX7.out)
        have HK8 := Lib.hid ((hu8.block _ (lt_of_heap HK7.out) (fun e => e)).trans HK7.out)
        have HO8 := Lib.hid (ownsRow_any HO7.out hu8 (fun _ _ e => e)); have HWK8 := Lib.hid (HWK7.out.kept hu8); have HG8 := Lib.hid (HG7.out.kept hu8); have HN8 := Lib.hid (HN7.out.kept hu8)
        have HV8 := Lib.hid (values_any (xc := xc) (ac := xs.length) n key w8 HWK8.out HG8.out (by omega) HOA.out)
        rw [← HVW.out, hwl] at HV8
        clear hu8 HB2 HX7 HK7 HO7 HWK7 HA7 HG7 HN7
        obtain ⟨c0, c1⟩ := cells2_of HX8.out
        obtain ⟨k0, k1, k2, k3⟩ := cells4_of HK8.out
        simp only []
        go_wp2_with (go_at_call 8; fail)
        refine HV8.out.mono ?_
        rintro _ w9 ⟨a9, c9, rfl, ho9, hu9⟩
        have HF9 := Lib.hid (HF8.out.trans hu9)
        have HX9 := Lib.hid ((hu9.block _ (lt_of_heap HX8.out) (fun e => e)).trans HX8.out)
        have HK9 := Lib.hid ((hu9.block _ (lt_of_heap HK8.out) (fun e => e)).trans HK8.out)
        have HO9 := Lib.hid (ownsRow_any HO8.out hu9 (fun _ _ e => e)); have HWK9 := Lib.hid (HWK8.out.kept hu9); have HN9 := Lib.hid (HN8.out.kept hu9); have HP9 := Lib.hid ho9
        have HV9 := Lib.hid (values_any (xc := xc) (ac := xs.length) n key w9 HWK9.out HN9.out (by omega) HOA.out)
        rw [HZE.out, hzl] at HV9
        clear c0 c1 k0 k1 k2 k3 hu9 ho9 HV8 HX8 HK8 HO8 HWK8 HG8 HN8
        obtain ⟨c0, c1⟩ := cells2_of HX9.out
        obtain ⟨k0, k1, k2, k3⟩ := cells4_of HK9.out
        simp only []
        go_wp2_with (go_at_call 8; fail)
        refine HV9.out.mono ?_
        rintro _ w10 ⟨a10, c10, rfl, _, hu10⟩
        have HF10 := Lib.hid (HF9.out.trans hu10)
        have hpl := HPRE.out.length_le
        have HBG := Lib.hid (begins_any (lc := c9) (hc := c4) w10 (OwnI.in' (ownsRow_any HP9.out hu10 (fun _ _ e => e))) (OwnI.in' (ownsRow_any HO9.out hu10 (fun _ _ e => e))) (by omega) (by omega))
        rw [begins_pre HPRE.out] at HBG
        clear c0 c1 k0 k1 k2 k3 hu10 HV9
        simp only []
        go_wp2_with (go_at_call 11; fail)
        refine HBG.out.mono ?_
        rintro _ w11 ⟨rfl, hu11⟩
        have HF11 := Lib.hid (HF10.out.trans hu11)
        clear hu11
        simp only []
        go_wp2
        go_ret
        exact ⟨rfl, HF11.out⟩
      · have he' : (e != 0) = true := by simpa using he
        have hln : l = [] := by
          have := values_err (os := os) (xs := xs) (ats := ats) (n := n) (key := key) (by rw [← HL.out]; exact he)
          rw [← HL.out] at this
          exact this
        subst hln
        clear he
        go_wp2
        go_ret
        exact ⟨rfl, HF4.out⟩
end Go.Proofs.Ytfaeojmmkejeiaa
end

section
namespace Go.Proofs.Ytfaeojmmkejeiaa
set_option maxRecDepth 100000
open Go.RowKit Go.Shelf

theorem run_append_none' {P : Program} {w : World} (base : Nat) (t ty e : TypeId) (i : TypeInfo) (size c : Nat) (ht : P.underlying t = some (.slice e)) (hi : P.info? e = some i)
    (v : Value) (n : Nat) (xs : List Value) (hown : w.ownsRow base e size v n xs) :
    (Builtin.append_ #[t, t] ty #[v, .slice none 0 c]).run P w = .ok v w := by
  rcases hown.2 with ⟨rfl, rfl⟩ | ⟨g, cap, cur, rfl, _, _, hnc, _⟩
  · simp [Builtin.append_, run_underlying ht, sizeOf, typeInfo, hi, Builtin.lenOf, Builtin.firstCells]
  · simp [Builtin.append_, run_underlying ht, sizeOf, typeInfo, hi, Builtin.lenOf, Builtin.firstCells, hnc, storeCells]
theorem flat_len {s : Nat} : ∀ {xs : List (List Value)}, (∀ y ∈ xs, y.length = s) → xs.flatten.length = xs.length * s
  | [], _ => by simp
  | y :: l, h => by
    rw [List.flatten_cons, List.length_append, h y (by simp), flat_len (fun z hz => h z (by simp [hz])), List.length_cons, Nat.succ_mul]; omega
theorem row_news {s : Nat} {w : World} {b o : Nat} {xs : List (List Value)} (hs : 0 < s) (h : Row s w (some ⟨b, o, none⟩) xs) : ∀ j u, xs.flatten[j]? = some u → w.cell? ((⟨b, o, none⟩ : Addr).add j) = some u := by
  intro j u hu
  have hl : ∀ y ∈ xs, y.length = s := fun y hy => by
    obtain ⟨i, hi⟩ := List.getElem?_of_mem hy
    exact (h i y hi).1
  have hjl := (List.getElem?_eq_some_iff.1 hu).1
  rw [flat_len hl] at hjl
  have hi : j / s < xs.length := (Nat.div_lt_iff_lt_mul hs).2 hjl
  have ht : j % s < s := Nat.mod_lt _ hs
  have hx := List.getElem?_eq_getElem hi
  obtain ⟨hxl, b', o', e, hc⟩ := h _ _ hx
  have hu2 := List.getElem?_eq_getElem (l := xs[j / s]) (i := j % s) (by omega)
  have h3 := flat_at hl hx _ _ hu2
  have hj : j / s * s + j % s = j := by rw [Nat.mul_comm]; exact Nat.div_add_mod j s
  rw [hj, hu] at h3
  injection h3 with h3
  injection e with e
  injection e with e1 e2
  subst e1 e2
  have := hc _ _ hu2
  rw [hj, ← h3] at this
  have e4 : (⟨b, o, none⟩ : Addr).add j = ⟨b, o + j, none⟩ := by unfold Addr.add; split <;> first | rfl | simp_all
  rw [e4]
  exact this
theorem wp_appR {P : Program} {o : Oper} {a : Act} {K : Act → World → Prop} {Q : Exit → Act → World → Prop} {w : World} (s x : Operand) (t : TypeId)
    (ho : o.op = .call { callee := .builtin .append, args := #[s, x], argTypes := #[t, t] })
    (base : Nat) (e : TypeId) (i : TypeInfo) (z : Value) (size bytes : Nat) (ht : P.underlying t = some (.slice e)) (hi : P.info? e = some i) (hz : i.zero = some z)
    (hsize : i.size = size) (hby : i.bytes = bytes) (hzs : z.cells.size = size) (hsz : 0 < size)
    (v : Value) (n : Nat) (vs : List Value) (hs : a.eval s = v) (hown : w.ownsRow base e size v n vs)
    (ax : Option Addr) (m c : Nat) (els : List (List Value)) (hx : a.eval x = .slice ax m c) (hrow : Row size w ax els) (hm : els.length = m) (h1 : ∀ u ∈ els.flatten, u.oneCell' = true)
    (h63 : n + m ≤ maxLen) (hbytes : (n + m) * bytes ≤ 140737488355328) (hbase : base ≤ w.heap.size)
    (h : ∀ v' w', w'.ownsRow base e size v' (n + m) (vs ++ els.flatten) → Upd (fun k => v.ownBlock = some k) w w' → K (a.put o.dst v') w') : o.wp P a w K Q := by
  have hl : ∀ y ∈ els, y.length = size := fun y hy => by
    obtain ⟨i, hi⟩ := List.getElem?_of_mem hy
    exact (hrow i y hi).1
  cases ax with
  | none =>
    have he : els = [] := by
      match els, hrow with
      | [], _ => rfl
      | y :: l, hrow =>
        obtain ⟨_, b, f, e, _⟩ := hrow 0 y rfl
        cases e
    subst he
    have hm0 : m = 0 := by simpa using hm.symm
    subst hm0
    have hr := run_append_none' (P := P) (w := w) base t o.type e i size c ht hi v n vs hown
    exact Lib.wp_append_run w s x t t ho v _ hs hx v w hr (h v w (by simpa using hown) (Upd.refl _ _))
  | some ad =>
    have hnews : ∀ j u, els.flatten[j]? = some u → w.cell? (ad.add j) = some u := by
      match els, hrow with
      | [], _ => intro j u hu; simp at hu
      | y :: l, hrow =>
        obtain ⟨_, b, f, e, _⟩ := hrow 0 y rfl
        injection e with e
        subst e
        exact row_news hsz hrow
    obtain ⟨v', w', hr, g1, g2, _, _⟩ := run_append_own_at (P := P) w base t o.type e i z size bytes ht hi hz hsize hby hzs hsz v n vs hown ad m c els.flatten (by rw [flat_len hl, hm]) hnews h1 h63 hbytes hbase
    exact Lib.wp_append_run w s x t t ho v _ hs hx v' w' hr (h v' w' g1 (Upd.of_grown g2 (fun k hk => hk)))
theorem wpList_appR {P : Program} {ops : Array Oper} {rest : List Oper} {o : Oper} {a : Act} {Q : Exit → Act → World → Prop} {w : World} (hgd : o.guard = none) (s x : Operand) (t : TypeId)
    (ho : o.op = .call { callee := .builtin .append, args := #[s, x], argTypes := #[t, t] })
    (base : Nat) (e : TypeId) (i : TypeInfo) (z : Value) (size bytes : Nat) (ht : P.underlying t = some (.slice e)) (hi : P.info? e = some i) (hz : i.zero = some z)
    (hsize : i.size = size) (hby : i.bytes = bytes) (hzs : z.cells.size = size) (hsz : 0 < size)
    (v : Value) (n : Nat) (vs : List Value) (hs : a.eval s = v) (hown : w.ownsRow base e size v n vs)
    (ax : Option Addr) (m c : Nat) (els : List (List Value)) (hx : a.eval x = .slice ax m c) (hrow : Row size w ax els) (hm : els.length = m) (h1 : ∀ u ∈ els.flatten, u.oneCell' = true)
    (h63 : n + m ≤ maxLen) (hbytes : (n + m) * bytes ≤ 140737488355328) (hbase : base ≤ w.heap.size)
    (h : ∀ v' w', w'.ownsRow base e size v' (n + m) (vs ++ els.flatten) → Upd (fun k => v.ownBlock = some k) w w' → wpList P ops Q rest (a.put o.dst v') w') : wpList P ops Q (o :: rest) a w :=
  wpList_plain hgd fun _ hK => wp_appR s x t ho base e i z size bytes ht hi hz hsize hby hzs hsz v n vs hs hown ax m c els hx hrow hm h1 h63 hbytes hbase fun v' w' h2 h3 => hK _ _ (h v' w' h2 h3)
theorem own_empty (W : World) {B : Nat} (e : TypeId) (s : Nat) (hb : B ≤ W.heap.size) : (W.alloc (.cells #[] e)).ownsRow B e s (.slice (some ⟨W.heap.size, 0, none⟩) 0 0) 0 [] :=
  ⟨by simp, .inr ⟨W.heap.size, 0, _, rfl, hb, alloc_at rfl, Nat.le_refl _, by unfold maxLen; omega, by simp, by simp⟩⟩
end Go.Proofs.Ytfaeojmmkejeiaa
end

section
namespace Go.Proofs.Ytfaeojmmkejeiaa
set_option maxRecDepth 100000
open Go.RowKit Go.Shelf

attribute [local go_sem] Oper.semAt_some
theorem Try.info49p : (Try.prog.info? 49).map (fun i => (i.zero, i.size, i.bytes)) = some (some (.agg #[.int .i64 0, .int .i64 0, .slice none 0 0, .int .i64 0, .int .i64 0]), 5, 56) := by kernel_rfl
/-- An operator without where its inputs lie. -/
def OpM.core (o : OpM) : Int × Int × List Int × Int × Int := (o.tag, o.width, o.ins, o.a, o.b)
structure CpAt (w : World) (b3 k : Nat) (os os' : List OpM) (a : Option Addr) (c : Nat) (W : World) : Prop where
  box : W.heap[b3]? = some (.cells #[.slice a k c] 24 (0, 0))
  row : W.ownsRow (b3 + 1) 49 5 (.slice a k c) k (os'.flatMap OpM.cells)
  each : ∀ o ∈ os', OwnI W (b3 + 1) 3 (.slice o.ia o.ins.length o.ic) o.ins
  like : os'.map OpM.core = (os.take k).map OpM.core
  upd : Upd0 w W
  low : w.heap.size ≤ b3
theorem CpAt.upd0 {w : World} {b3 k : Nat} {os os' : List OpM} {a : Option Addr} {c : Nat} {W W' : World} (h : CpAt w b3 k os os' a c W) (hu : Upd0 W W') : CpAt w b3 k os os' a c W' :=
  ⟨(hu.block _ (lt_of_heap h.box) (fun e => e)).trans h.box, ownsRow_any h.row hu (fun _ _ e => e), fun o ho => ownsRow_any (h.each o ho) hu (fun _ _ e => e), h.like, h.upd.trans hu, h.low⟩
theorem Try.size24 : (Try.prog.info? 24).map (·.size) = some 1 := by kernel_rfl
theorem load24 {W : World} {t : Nat} {u : Value} (h : W.heap[t]? = some (.cells #[u] 24 (0, 0))) : (loadVar 24 ⟨t, 0, none⟩).run Try.prog W = .ok (.agg #[u]) W :=
  run_loadVar_mid (P := Try.prog) _ t 0 24 [_] _ (rangeAt_block h) Try.underlying24 rfl Try.size24
theorem flat1 (l : List Int) : (l.map fun z => [Value.int .i64 z]).flatten = l.map I := by
  induction l with
  | nil => rfl
  | cons z l ih => rw [List.map_cons, List.flatten_cons, ih]; rfl
theorem appI {w : World} {B n : Nat} {e : TypeId} {v : Value} {l : List Int} (h : w.ownsRow B e 1 v (0 + l.length) ([] ++ (l.map fun z => [Value.int .i64 z]).flatten)) : ∃ a c, v = .slice a l.length c ∧ OwnI w B e (.slice a l.length c) l := by
  rw [Nat.zero_add, List.nil_append, flat1] at h
  obtain ⟨a, c, rfl⟩ := rowV h
  exact ⟨a, c, rfl, h⟩
theorem one1 (l : List Int) : ∀ u ∈ (l.map fun z => [Value.int .i64 z]).flatten, u.oneCell' = true := by
  rw [flat1]
  intro u hu
  obtain ⟨z, _, rfl⟩ := List.mem_map.1 hu
  rfl
theorem CpAt.snoc {w W W' : World} {b3 k : Nat} {os os' : List OpM} {o o2 : OpM} {a : Option Addr} {c g cap : Nat} (h : CpAt w b3 k os os' a c W) (ho : os[k]? = some o) (h2 : OwnI W (b3 + 1) 3 (.slice o2.ia o2.ins.length o2.ic) o2.ins) (hc : o2.core = o.core)
    (hown : W'.ownsRow (b3 + 1) 49 5 (.slice (some ⟨g, 0, none⟩) (k + 1) cap) (k + 1) (os'.flatMap OpM.cells ++ o2.cells)) (hu : Upd (fun j => (Value.slice a k c).ownBlock = some j) W W') :
    CpAt w b3 (k + 1) os (os' ++ [o2]) (some ⟨g, 0, none⟩) cap (W'.setCell ⟨b3, 0, none⟩ (.slice (some ⟨g, 0, none⟩) (k + 1) cap)) := by
  have hg : b3 + 1 ≤ g := (World.ownsRow.lt hown g rfl).1
  have hbx := (hu.block _ (lt_of_heap h.box) (fun e => by have := (World.ownsRow.lt h.row _ e).1; omega)).trans h.box
  have hne : ∀ {e : TypeId} {s n : Nat} {v : Value} {vs : List Value} (q : W'.ownsRow (b3 + 1) e s v n vs), (W'.setCell ⟨b3, 0, none⟩ (.slice (some ⟨g, 0, none⟩) (k + 1) cap)).ownsRow (b3 + 1) e s v n vs := fun q =>
    ownsRow_heap q (fun j hj => set_ne (by have := (World.ownsRow.lt q j hj).1; show j ≠ b3; omega))
  refine ⟨?_, hne ?_, fun y hy => hne ?_, ?_, ?_, h.low⟩
  · have := blk_set (i := 0) (v := .slice (some ⟨g, 0, none⟩) (k + 1) cap) hbx
    simpa using this
  · rw [List.flatMap_append]
    simpa using hown
  · rw [List.mem_append] at hy
    rcases hy with hy | hy
    · exact ownsRow_any (h.each y hy) hu (types_apart (h.each y hy) h.row (by decide))
    · have e : y = o2 := by simpa using hy
      subst e
      exact ownsRow_any h2 hu (types_apart h2 h.row (by decide))
  · rw [take_cons' ho, List.map_append, List.map_append, h.like]
    simp [hc]
  · refine (h.upd.cut hu (fun j hj => by have := (World.ownsRow.lt h.row j hj).1; have := h.low; omega)).cut (upd_own _ _ _ _) (fun j hj => by have := h.low; omega)
theorem CpAt.snoc2 {w W W' : World} {b3 k : Nat} {os os' : List OpM} {o : OpM} {a a5 : Option Addr} {c c5 g cap : Nat} (h : CpAt w b3 k os os' a c W) (ho : os[k]? = some o) (h2 : OwnI W (b3 + 1) 3 (.slice a5 o.ins.length c5) o.ins)
    (hown : W'.ownsRow (b3 + 1) 49 5 (.slice (some ⟨g, 0, none⟩) (k + 1) cap) (k + 1) (os'.flatMap OpM.cells ++ [.int .i64 o.tag, .int .i64 o.width, .slice a5 o.ins.length c5, .int .i64 o.a, .int .i64 o.b])) (hu : Upd (fun j => (Value.slice a k c).ownBlock = some j) W W') :
    CpAt w b3 (k + 1) os (os' ++ [⟨o.tag, o.width, a5, c5, o.ins, o.a, o.b⟩]) (some ⟨g, 0, none⟩) cap (W'.setCell ⟨b3, 0, none⟩ (.slice (some ⟨g, 0, none⟩) (k + 1) cap)) :=
  h.snoc (o2 := ⟨o.tag, o.width, a5, c5, o.ins, o.a, o.b⟩) ho h2 rfl hown hu
set_option maxHeartbeats 8000000 in
theorem copy_any {oa : Option Addr} {os : List OpM} {oc : Nat} (w : World) (h : OpsIn w oa os) (ho50 : os.length ≤ 50) (hi50 : ∀ o ∈ os, o.ins.length ≤ 50) :
    Calls Try.prog 21 #[.agg #[.slice oa os.length oc]] w fun e w' => ∃ (a : Option Addr) (c : Nat) (os' : List OpM), e = .returned (.agg #[.slice a os.length c]) ∧ w'.ownsRow w.heap.size 49 5 (.slice a os.length c) os.length (os'.flatMap OpM.cells) ∧ (∀ o ∈ os', OwnI w' w.heap.size 3 (.slice o.ia o.ins.length o.ic) o.ins) ∧ os'.map OpM.core = os.map OpM.core ∧ Upd0 w w' := by
  obtain ⟨wb, hwb⟩ : ∃ wb, wb = ((w.alloc (.cells #[.slice oa os.length oc] 24)).alloc (.cells #[.slice none 0 0] 24)).alloc (.cells #[.slice none 0 0] 24) := ⟨_, rfl⟩
  have hub : Upd0 w wb := by rw [hwb]; exact (((Upd.refl _ w).alloc _).alloc _).alloc _
  have HX1 := Lib.hid (show wb.heap[w.heap.size]? = some (.cells #[.slice oa os.length oc] 24 (0, 0)) by rw [hwb]; exact (alloc_lt (by simp <;> omega)).trans ((alloc_lt (by simp)).trans (alloc_at rfl)))
  have HX2 := Lib.hid (show wb.heap[w.heap.size + 1]? = some (.cells #[.slice none 0 0] 24 (0, 0)) by rw [hwb]; exact (alloc_lt (by simp <;> omega)).trans (alloc_at (by simp)))
  have HX3 := Lib.hid (show wb.heap[w.heap.size + 1 + 1]? = some (.cells #[.slice none 0 0] 24 (0, 0)) by rw [hwb]; exact alloc_at (by simp))
  have HU := Lib.hid hub
  have H := Lib.hid h; have HI := Lib.hid hi50
  have HC0 := Lib.hid (show CpAt w (w.heap.size + 1 + 1) 0 os [] none 0 wb from ⟨HX3.out, World.ownsRow_nil _ _ _ _, fun o ho => by simp at ho, by simp, hub, by omega⟩)
  have c0 := cells1_of HX1.out
  clear h hi50 hub
  go_enter Try.func21, Try.ntmps21
  go_wp2_with (fail)
  rw [← hwb]
  clear hwb c0
  obtain ⟨b3, hb3⟩ : ∃ b3, b3 = w.heap.size + 1 + 1 := ⟨_, rfl⟩
  rw [← hb3] at HC0 ⊢
  have hb2 : w.heap.size + 1 ≠ b3 := by omega
  have HB3 := Lib.hid hb3
  clear hb3
  go_loopw [9] (fun i wr => ∃ (k : Nat) (os' : List OpM) (a : Option Addr) (c : Nat), k ≤ os.length ∧ i = .int .i64 k ∧ Hid (CpAt w b3 k os os' a c wr) ∧ Hid (wr.heap[w.heap.size + 1]? = some (.cells #[.slice none 0 0] 24 (0, 0)))) (fun i _ => os.length - (intOf i).toNat)
  case atStart => exact ⟨0, [], none, 0, Nat.zero_le _, rfl, HC0, HX2⟩
  case round =>
    obtain ⟨k, os', a, c, hk, rfl, HC, HZ⟩ := hrel
    by_cases hlt : k < os.length
    · obtain ⟨o, hoe⟩ : ∃ o, os[k]? = some o := ⟨_, List.getElem?_eq_getElem hlt⟩
      obtain ⟨⟨b, f, hoa, d0, d1, d2, d3, d4⟩, hin, hil⟩ := (H.out.kept HC.out.upd).at hoe
      have HTK : Hid (os.take (k + 1) = os.take k ++ [o]) := Lib.hid (take_cons' hoe)
      have hi5 := HI.out o (List.mem_of_getElem? hoe)
      have hbl := lt_of_cell d0
      have hbx := lt_of_heap HC.out.box
      obtain ⟨w3, hw3⟩ : ∃ w3, w3 = wr.alloc (.cells #[.int .i64 o.tag, .int .i64 o.width, .slice o.ia o.ins.length o.ic, .int .i64 o.a, .int .i64 o.b] 49) := ⟨_, rfl⟩
      have hu3 : Upd0 wr w3 := by rw [hw3]; exact (Upd.refl _ wr).alloc _
      have hsz : w3.heap.size = wr.heap.size + 1 := by rw [hw3]; simp
      obtain ⟨w4, hw4⟩ : ∃ w4, w4 = w3.alloc (.cells #[] 3) := ⟨_, rfl⟩
      have hu4 : Upd0 wr w4 := by rw [hw4]; exact hu3.alloc _
      have HE4 := Lib.hid (show w4.ownsRow (wr.heap.size + 1) 3 1 (.slice (some ⟨wr.heap.size + 1, 0, none⟩) 0 0) 0 [] by rw [hw4, ← hsz]; exact own_empty w3 3 1 (Nat.le_refl _))
      have HX4 := Lib.hid (show w4.heap[wr.heap.size]? = some (.cells #[.int .i64 o.tag, .int .i64 o.width, .slice o.ia o.ins.length o.ic, .int .i64 o.a, .int .i64 o.b] 49 (0, 0)) by rw [hw4, hw3]; exact (alloc_lt (by simp)).trans (alloc_at rfl))
      have HIN4 := Lib.hid (hin.kept hu4)
      have HC4 := Lib.hid (HC.out.upd0 hu4)
      have HZ4 := Lib.hid ((hu4.block _ (lt_of_heap HZ.out) (fun e => e)).trans HZ.out)
      have HS4 := Lib.hid (show wr.heap.size + 1 ≤ w4.heap.size by rw [hw4]; simp; omega)
      subst hoa
      obtain ⟨e0, e1, e2, e3, e4⟩ := cells5_of HX4.out
      have HOE := Lib.hid hoe; have HUW4 := Lib.hid hu4
      clear hoe hin hu3 hu4 HC4 HZ4
      go_upto_region 6 with (at_builtin; obtain ⟨i0, hi, hz0, hs, hb⟩ := info_parts Try.info3p; rw [← hw3, ← hw4]; refine wpList_appR rfl (.tmp 13) (.tmp 15) 32 rfl (wr.heap.size + 1) 3 i0 (.int .i64 0) 1 8 Try.underlying32 hi hz0 hs hb rfl (by decide) (.slice (some ⟨wr.heap.size + 1, 0, none⟩) 0 0) 0 [] rfl HE4.out o.ia o.ins.length o.ic (o.ins.map fun z => [.int .i64 z]) rfl HIN4.out (by simp) (one1 _) (by unfold maxLen; omega) (by omega) HS4.out ?_; clear hi hz0 hs hb; intro v5 w5 hown5 hu5; obtain ⟨a5, c5, rfl, hi5⟩ := appI (n := 0) hown5; have HX5 := Lib.hid ((hu5.block _ (lt_of_heap HX4.out) (fun e => by simp [Value.ownBlock] at e)).trans HX4.out); have f5 := frozen_of_heap (n := 2) HX5.out; obtain ⟨q0, q1, q2, q3, q4⟩ := cells5_of HX5.out; have HU5 := Lib.hid hu5; have HI5 := Lib.hid hi5; clear hown5 hu5 hi5)
      obtain ⟨w6, hw6⟩ : ∃ w6, w6 = w5.setCell ⟨wr.heap.size, 2, none⟩ (.slice a5 o.ins.length c5) := ⟨_, rfl⟩
      rw [← hw6]
      have hx6 : w6.heap[wr.heap.size]? = some (.cells #[.int .i64 o.tag, .int .i64 o.width, .slice a5 o.ins.length c5, .int .i64 o.a, .int .i64 o.b] 49 (0, 0)) := by
        rw [hw6]
        have := blk_set (i := 2) (v := .slice a5 o.ins.length c5) HX5.out
        simpa using this
      have hu6 : Upd0 wr w6 := by
        rw [hw6]
        exact ((HUW4.out.cut HU5.out (fun j hj => by simp [Value.ownBlock] at hj; omega)).cut (upd_own _ _ _ _) (fun j hj => by omega))
      have HI6 := Lib.hid (show OwnI w6 (b3 + 1) 3 (.slice a5 o.ins.length c5) o.ins by
        rw [hw6]
        exact ownsRow_low (ownsRow_heap HI5.out (fun j hj => set_ne (by have := (World.ownsRow.lt HI5.out j hj).1; show j ≠ wr.heap.size; omega))) (by omega))
      have HC6 := Lib.hid (HC.out.upd0 hu6)
      have HZ6 := Lib.hid ((hu6.block _ (lt_of_heap HZ.out) (fun e => e)).trans HZ.out)
      have hs6 : b3 + 1 ≤ w6.heap.size := by have := hu6.size; omega
      clear hw6 hu6 e0 e1 e2 e3 e4 q0 q1 q2 q3 q4 f5 HX5 HI5 HU5 hw3 hw4
      obtain ⟨e0, e1, e2, e3, e4⟩ := cells5_of hx6
      have x0 := cells1_of HC6.out.box
      go_wp2_with (at_builtin; obtain ⟨i0, hi, hz0, hs, hb⟩ := info_parts Try.info49p; refine wpList_app1 w6 rfl (.tmp 19) (.tmp 21) 22 rfl (b3 + 1) 49 i0 (.agg #[.int .i64 0, .int .i64 0, .slice none 0 0, .int .i64 0, .int .i64 0]) 5 56 Try.underlying22 hi hz0 hs hb rfl (by decide) (.slice a k c) k (os'.flatMap OpM.cells) rfl HC6.out.row [.int .i64 o.tag, .int .i64 o.width, .slice a5 o.ins.length c5, .int .i64 o.a, .int .i64 o.b] 49 rfl rfl (by simp [Value.oneCell']) (by unfold maxLen; omega) (by omega) hs6 ?_; clear hi hz0 hs hb; intro g cap w8 hown hu8 _ _; have hb8 := (hu8.block _ (lt_of_heap HC6.out.box) (fun e => by have := (World.ownsRow.lt HC6.out.row _ e).1; omega)).trans HC6.out.box; have x8 := cells1_of hb8; have fx8 : w8.frozen? ⟨b3, 0, none⟩ = false := frozen_of_heap hb8; have HZ8 := Lib.hid ((hu8.block _ (lt_of_heap HZ6.out) (fun e => by have := (World.ownsRow.lt HC6.out.row _ e).1; have := HB3.out; omega)).trans HZ6.out); have HC8 := Lib.hid (HC6.out.snoc2 HOE.out HI6.out hown hu8); clear hown hu8 hb8)
      go_roundw
      case rel =>
        exact ⟨k + 1, _, _, _, by omega, by go_num, HC8, Lib.hid ((set_ne (by show w.heap.size + 1 ≠ b3; exact hb2)).trans HZ8.out)⟩
      case measure => simp [intOf]; omega
    · obtain rfl : k = os.length := by omega
      have HL := HC.out.like
      rw [List.take_length] at HL
      have HLL := Lib.hid HL
      obtain ⟨z0⟩ : ∃ _ : Unit, True := ⟨(), trivial⟩
      have c0 := cells1_of HZ.out
      have fz0 : wr.frozen? ⟨w.heap.size + 1, 0, none⟩ = false := frozen_of_heap HZ.out
      have x0 := cells1_of HC.out.box
      clear HL
      go_wp2_with (fail)
      have hzz := blk_set (i := 0) (v := .slice a os.length c) HZ.out
      have hu9 : Upd (fun j => j = w.heap.size + 1) wr (wr.setCell ⟨w.heap.size + 1, 0, none⟩ (.slice a os.length c)) := upd_own _ _ _ _
      have hd : ∀ {e : TypeId} {s n : Nat} {v : Value} {vs : List Value} (q : wr.ownsRow (b3 + 1) e s v n vs), (wr.setCell ⟨w.heap.size + 1, 0, none⟩ (.slice a os.length c)).ownsRow w.heap.size e s v n vs := fun q =>
        ownsRow_low (ownsRow_any q hu9 (fun j hj e => by have := (World.ownsRow.lt q j hj).1; have := HB3.out; omega)) (by have := HB3.out; omega)
      refine bodyPost_ret (results_c (fn := Try.f21) rfl rfl (load24 (by simpa using hzz))) rfl ⟨a, c, os', rfl, hd HC.out.row, fun o ho => hd (HC.out.each o ho), HLL.out, HC.out.upd.cut hu9 (fun j hj => by omega)⟩
end Go.Proofs.Ytfaeojmmkejeiaa
end

section
namespace Go.Proofs.Ytfaeojmmkejeiaa
set_option maxRecDepth 100000
open Go.RowKit Go.Shelf

attribute [local go_sem] Oper.semAt_some
theorem Try.info52p : (Try.prog.info? 52).map (fun i => (i.zero, i.size, i.bytes)) = some (some (.agg #[.int .i64 0, .slice none 0 0]), 2, 32) := by kernel_rfl
theorem Try.size27 : (Try.prog.info? 27).map (·.size) = some 2 := by kernel_rfl
theorem load27 {W : World} {t : Nat} {u v : Value} (h : W.heap[t]? = some (.cells #[u, v] 27 (0, 0))) : (loadVar 27 ⟨t, 0, none⟩).run Try.prog W = .ok (.agg #[u, v]) W :=
  run_loadVar_mid (P := Try.prog) _ t 0 27 [_, _] _ (rangeAt_block h) Try.underlying27 rfl Try.size27
/-- An input without where its records lie. -/
def InM.core (x : InM) : Int × List RecV := (x.src, x.recs)
structure CqAt (w : World) (b3 k : Nat) (gv : Value) (xs xs' : List InM) (a : Option Addr) (c : Nat) (W : World) : Prop where
  box : W.heap[b3]? = some (.cells #[gv, .slice a k c] 27 (0, 0))
  row : W.ownsRow (b3 + 1) 52 2 (.slice a k c) k (xs'.flatMap InM.cells)
  each : ∀ x ∈ xs', OwnR W (b3 + 1) (.slice x.ra x.recs.length x.rc) x.recs
  like : xs'.map InM.core = (xs.take k).map InM.core
  upd : Upd0 w W
  low : w.heap.size ≤ b3
theorem CqAt.upd0 {w : World} {b3 k : Nat} {gv : Value} {xs xs' : List InM} {a : Option Addr} {c : Nat} {W W' : World} (h : CqAt w b3 k gv xs xs' a c W) (hu : Upd0 W W') : CqAt w b3 k gv xs xs' a c W' :=
  ⟨(hu.block _ (lt_of_heap h.box) (fun e => e)).trans h.box, ownsRow_any h.row hu (fun _ _ e => e), fun o ho => ownsRow_any (h.each o ho) hu (fun _ _ e => e), h.like, h.upd.trans hu, h.low⟩
theorem CqAt.snoc2 {w W W' : World} {b3 k : Nat} {gv : Value} {xs xs' : List InM} {x : InM} {a a5 : Option Addr} {c c5 g cap : Nat} (h : CqAt w b3 k gv xs xs' a c W) (ho : xs[k]? = some x) (h2 : OwnR W (b3 + 1) (.slice a5 x.recs.length c5) x.recs)
    (hown : W'.ownsRow (b3 + 1) 52 2 (.slice (some ⟨g, 0, none⟩) (k + 1) cap) (k + 1) (xs'.flatMap InM.cells ++ [.int .i64 x.src, .slice a5 x.recs.length c5])) (hu : Upd (fun j => (Value.slice a k c).ownBlock = some j) W W') :
    CqAt w b3 (k + 1) gv xs (xs' ++ [⟨x.src, a5, c5, x.recs⟩]) (some ⟨g, 0, none⟩) cap (W'.setCell ⟨b3, 1, none⟩ (.slice (some ⟨g, 0, none⟩) (k + 1) cap)) := by
  have hg : b3 + 1 ≤ g := (World.ownsRow.lt hown g rfl).1
  have hbx := (hu.block _ (lt_of_heap h.box) (fun e => by have := (World.ownsRow.lt h.row _ e).1; omega)).trans h.box
  have hne : ∀ {e : TypeId} {s n : Nat} {v : Value} {vs : List Value} (q : W'.ownsRow (b3 + 1) e s v n vs), (W'.setCell ⟨b3, 1, none⟩ (.slice (some ⟨g, 0, none⟩) (k + 1) cap)).ownsRow (b3 + 1) e s v n vs := fun q =>
    ownsRow_heap q (fun j hj => set_ne (by have := (World.ownsRow.lt q j hj).1; show j ≠ b3; omega))
  refine ⟨?_, hne ?_, fun y hy => hne ?_, ?_, ?_, h.low⟩
  · have := blk_set (i := 1) (v := .slice (some ⟨g, 0, none⟩) (k + 1) cap) hbx
    simpa using this
  · rw [List.flatMap_append]
    simpa [InM.cells] using hown
  · rw [List.mem_append] at hy
    rcases hy with hy | hy
    · exact ownsRow_any (h.each y hy) hu (types_apart (h.each y hy) h.row (by decide))
    · have e : y = ⟨x.src, a5, c5, x.recs⟩ := by simpa using hy
      subst e
      exact ownsRow_any h2 hu (types_apart h2 h.row (by decide))
  · rw [take_cons' ho, List.map_append, List.map_append, h.like]
    rfl
  · refine (h.upd.cut hu (fun j hj => by have := (World.ownsRow.lt h.row j hj).1; have := h.low; omega)).cut (upd_own _ _ _ _) (fun j hj => by have := h.low; omega)
theorem appRec {w : World} {B : Nat} {v : Value} {l : List RecV} (h : w.ownsRow B 29 3 v (0 + l.length) ([] ++ (l.map RecV.cells).flatten)) : ∃ a c, v = .slice a l.length c ∧ OwnR w B (.slice a l.length c) l := by
  rw [Nat.zero_add, List.nil_append, ← List.flatMap_def] at h
  obtain ⟨a, c, rfl⟩ := rowV h
  exact ⟨a, c, rfl, h⟩
theorem one3 (l : List RecV) : ∀ u ∈ (l.map RecV.cells).flatten, u.oneCell' = true := by
  intro u hu
  rw [← List.flatMap_def] at hu
  obtain ⟨r, _, hr⟩ := List.mem_flatMap.1 hu
  simp only [RecV.cells, List.mem_cons, List.mem_nil_iff, or_false] at hr
  rcases hr with rfl | rfl | rfl <;> rfl
/-- A work of one's own. -/
structure OwnWk (W : World) (B : Nat) (ga : Option Addr) (os' : List OpM) (gc : Nat) (xa : Option Addr) (xs' : List InM) (xc : Nat) : Prop where
  ops : W.ownsRow B 49 5 (.slice ga os'.length gc) os'.length (os'.flatMap OpM.cells)
  ins : ∀ o ∈ os', OwnI W B 3 (.slice o.ia o.ins.length o.ic) o.ins
  row : W.ownsRow B 52 2 (.slice xa xs'.length xc) xs'.length (xs'.flatMap InM.cells)
  recs : ∀ x ∈ xs', OwnR W B (.slice x.ra x.recs.length x.rc) x.recs
set_option maxHeartbeats 8000000 in
theorem copied_any {oa xa : Option Addr} {os : List OpM} {xs : List InM} {oc xc : Nat} (w : World) (h : OpsIn w oa os) (hx : InsIn w xa xs) (ho50 : os.length ≤ 50) (hi50 : ∀ o ∈ os, o.ins.length ≤ 50) (hx20 : xs.length ≤ 20) (hr200 : ∀ x ∈ xs, x.recs.length ≤ 200) :
    Calls Try.prog 10 #[wkV oa os oc xa xs xc] w fun e w' => ∃ (ga : Option Addr) (gc : Nat) (os' : List OpM) (a : Option Addr) (c : Nat) (xs' : List InM), e = .returned (wkV ga os' gc a xs' c) ∧ OwnWk w' w.heap.size ga os' gc a xs' c ∧ os'.map OpM.core = os.map OpM.core ∧ xs'.map InM.core = xs.map InM.core ∧ Upd0 w w' := by
  obtain ⟨wb, hwb⟩ : ∃ wb, wb = (w.alloc (.cells #[.slice oa os.length oc, .slice xa xs.length xc] 27)).alloc (.cells #[.slice none 0 0, .slice none 0 0] 27) := ⟨_, rfl⟩
  have hub : Upd0 w wb := by rw [hwb]; exact ((Upd.refl _ w).alloc _).alloc _
  have HX1 := Lib.hid (show wb.heap[w.heap.size]? = some (.cells #[.slice oa os.length oc, .slice xa xs.length xc] 27 (0, 0)) by rw [hwb]; exact (alloc_lt (by simp)).trans (alloc_at rfl))
  have HX2 := Lib.hid (show wb.heap[w.heap.size + 1]? = some (.cells #[.slice none 0 0, .slice none 0 0] 27 (0, 0)) by rw [hwb]; exact alloc_at (by simp))
  have HU := Lib.hid hub
  have HCO := Lib.hid (copy_any (oc := oc) wb (h.kept hub) ho50 hi50)
  have HI := Lib.hid hx; have HR := Lib.hid hr200
  obtain ⟨c0, c1⟩ := cells2_of HX1.out
  clear h hx hi50 hr200 hub
  go_enter Try.func10, Try.ntmps10
  go_wp2_with (go_at_call 21; fail)
  rw [← hwb]
  clear hwb c0 c1
  refine HCO.out.mono ?_
  rintro _ w2 ⟨ga, gc, os', rfl, hg1, hg2, hg3, hu2⟩
  have HG1 := Lib.hid hg1; have HG2 := Lib.hid hg2; have HG3 := Lib.hid hg3
  have HY1 := Lib.hid ((hu2.block _ (lt_of_heap HX1.out) (fun e => e)).trans HX1.out)
  have HY2 := Lib.hid ((hu2.block _ (lt_of_heap HX2.out) (fun e => e)).trans HX2.out)
  have HU2 := Lib.hid (HU.out.trans hu2)
  have hl1 := lt_of_heap HY1.out
  obtain ⟨c0, c1⟩ := cells2_of HY1.out
  obtain ⟨w3, hw3⟩ : ∃ w3, w3 = w2.alloc (.cells #[.slice ga os.length gc, .slice none 0 0] 27) := ⟨_, rfl⟩
  obtain ⟨b3, hb3⟩ : ∃ b3, b3 = w2.heap.size := ⟨_, rfl⟩
  have hu3 : Upd0 w2 w3 := by rw [hw3]; exact (Upd.refl _ w2).alloc _
  have HC0 := Lib.hid (show CqAt w2 b3 0 (.slice ga os.length gc) xs [] none 0 w3 from ⟨by rw [hw3]; exact alloc_at hb3, World.ownsRow_nil _ _ _ _, fun o ho => by simp at ho, by simp, hu3, by omega⟩)
  have HY3 := Lib.hid ((hu3.block _ (lt_of_heap HY2.out) (fun e => e)).trans HY2.out)
  have HB3 := Lib.hid (show w.heap.size + 1 < b3 by have := lt_of_heap HY2.out; omega)
  clear hg1 hg2 hg3 hu2 hu3 HCO
  simp only []
  go_upto_region 3 with fail
  rw [← hw3, ← hb3]
  clear hw3 hb3 c0 c1
  have hb2 : w.heap.size + 1 ≠ b3 := by have := HB3.out; omega
  go_loopw [13] (fun i wr => ∃ (k : Nat) (xs' : List InM) (a : Option Addr) (c : Nat), k ≤ xs.length ∧ i = .int .i64 k ∧ Hid (CqAt w2 b3 k (.slice ga os.length gc) xs xs' a c wr) ∧ Hid (wr.heap[w.heap.size + 1]? = some (.cells #[.slice none 0 0, .slice none 0 0] 27 (0, 0)))) (fun i _ => xs.length - (intOf i).toNat)
  case atStart => exact ⟨0, [], none, 0, Nat.zero_le _, rfl, HC0, HY3⟩
  case round =>
    obtain ⟨k, xs', a, c, hk, rfl, HC, HZ⟩ := hrel
    by_cases hlt : k < xs.length
    · obtain ⟨x, hoe⟩ : ∃ x, xs[k]? = some x := ⟨_, List.getElem?_eq_getElem hlt⟩
      obtain ⟨⟨b, f, hoa, d0, d1⟩, hin, hil⟩ := (HI.out.kept (HU2.out.trans HC.out.upd)).at hoe
      have hi5 := HR.out x (List.mem_of_getElem? hoe)
      have hbl := lt_of_cell d0
      have hbx := lt_of_heap HC.out.box
      obtain ⟨w3, hw3⟩ : ∃ w3, w3 = wr.alloc (.cells #[.int .i64 x.src, .slice x.ra x.recs.length x.rc] 52) := ⟨_, rfl⟩
      have hu3 : Upd0 wr w3 := by rw [hw3]; exact (Upd.refl _ wr).alloc _
      have hsz : w3.heap.size = wr.heap.size + 1 := by rw [hw3]; simp
      obtain ⟨w4, hw4⟩ : ∃ w4, w4 = w3.alloc (.cells #[] 29) := ⟨_, rfl⟩
      have hu4 : Upd0 wr w4 := by rw [hw4]; exact hu3.alloc _
      have HE4 := Lib.hid (show w4.ownsRow (wr.heap.size + 1) 29 3 (.slice (some ⟨wr.heap.size + 1, 0, none⟩) 0 0) 0 [] by rw [hw4, ← hsz]; exact own_empty w3 29 3 (Nat.le_refl _))
      have HX4 := Lib.hid (show w4.heap[wr.heap.size]? = some (.cells #[.int .i64 x.src, .slice x.ra x.recs.length x.rc] 52 (0, 0)) by rw [hw4, hw3]; exact (alloc_lt (by simp)).trans (alloc_at rfl))
      have HIN4 := Lib.hid (hin.kept hu4)
      have HS4 := Lib.hid (show wr.heap.size + 1 ≤ w4.heap.size by rw [hw4]; simp; omega)
      subst hoa
      obtain ⟨e0, e1⟩ := cells2_of HX4.out
      have HOE := Lib.hid hoe; have HUW4 := Lib.hid hu4
      clear hoe hin hu3 hu4
      go_upto_region 6 with (at_builtin; obtain ⟨i0, hi, hz0, hs, hb⟩ := info_parts Try.info29p; rw [← hw3, ← hw4]; refine wpList_appR rfl (.tmp 17) (.tmp 19) 50 rfl (wr.heap.size + 1) 29 i0 (.agg #[.int .i64 0, .int .i64 0, .int .i64 0]) 3 24 Try.underlying50 hi hz0 hs hb rfl (by decide) (.slice (some ⟨wr.heap.size + 1, 0, none⟩) 0 0) 0 [] rfl HE4.out x.ra x.recs.length x.rc (x.recs.map RecV.cells) rfl HIN4.out (by simp) (one3 _) (by unfold maxLen; omega) (by omega) HS4.out ?_; clear hi hz0 hs hb; intro v5 w5 hown5 hu5; obtain ⟨a5, c5, rfl, hi5⟩ := appRec hown5; have HX5 := Lib.hid ((hu5.block _ (lt_of_heap HX4.out) (fun e => by simp [Value.ownBlock] at e)).trans HX4.out); have f5 := frozen_of_heap (n := 1) HX5.out; obtain ⟨q0, q1⟩ := cells2_of HX5.out; have HU5 := Lib.hid hu5; have HI5 := Lib.hid hi5; clear hown5 hu5 hi5)
      obtain ⟨w6, hw6⟩ : ∃ w6, w6 = w5.setCell ⟨wr.heap.size, 1, none⟩ (.slice a5 x.recs.length c5) := ⟨_, rfl⟩
      rw [← hw6]
      have hx6 : w6.heap[wr.heap.size]? = some (.cells #[.int .i64 x.src, .slice a5 x.recs.length c5] 52 (0, 0)) := by
        rw [hw6]
        have := blk_set (i := 1) (v := .slice a5 x.recs.length c5) HX5.out
        simpa using this
      have hu6 : Upd0 wr w6 := by
        rw [hw6]
        exact ((HUW4.out.cut HU5.out (fun j hj => by simp [Value.ownBlock] at hj; omega)).cut (upd_own _ _ _ _) (fun j hj => by omega))
      have HI6 := Lib.hid (show OwnR w6 (b3 + 1) (.slice a5 x.recs.length c5) x.recs by
        rw [hw6]
        exact ownsRow_low (ownsRow_heap HI5.out (fun j hj => set_ne (by have := (World.ownsRow.lt HI5.out j hj).1; show j ≠ wr.heap.size; omega))) (by omega))
      have HC6 := Lib.hid (HC.out.upd0 hu6)
      have HZ6 := Lib.hid ((hu6.block _ (lt_of_heap HZ.out) (fun e => e)).trans HZ.out)
      have hs6 : b3 + 1 ≤ w6.heap.size := by have := hu6.size; omega
      clear hw6 hu6 e0 e1 q0 q1 f5 HX5 HI5 HU5 hw3 hw4
      obtain ⟨e0, e1⟩ := cells2_of hx6
      obtain ⟨x0, x1⟩ := cells2_of HC6.out.box
      go_wp2_with (at_builtin; obtain ⟨i0, hi, hz0, hs, hb⟩ := info_parts Try.info52p; refine wpList_app1 w6 rfl (.tmp 23) (.tmp 25) 25 rfl (b3 + 1) 52 i0 (.agg #[.int .i64 0, .slice none 0 0]) 2 32 Try.underlying25 hi hz0 hs hb rfl (by decide) (.slice a k c) k (xs'.flatMap InM.cells) rfl HC6.out.row [.int .i64 x.src, .slice a5 x.recs.length c5] 52 rfl rfl (by simp [Value.oneCell']) (by unfold maxLen; omega) (by omega) hs6 ?_; clear hi hz0 hs hb; intro g cap w8 hown hu8 _ _; have hb8 := (hu8.block _ (lt_of_heap HC6.out.box) (fun e => by have := (World.ownsRow.lt HC6.out.row _ e).1; omega)).trans HC6.out.box; obtain ⟨y8, x8⟩ := cells2_of hb8; have fx8 : w8.frozen? ⟨b3, 1, none⟩ = false := frozen_of_heap hb8; have HZ8 := Lib.hid ((hu8.block _ (lt_of_heap HZ6.out) (fun e => by have := (World.ownsRow.lt HC6.out.row _ e).1; have := HB3.out; omega)).trans HZ6.out); have HC8 := Lib.hid (HC6.out.snoc2 HOE.out HI6.out hown hu8); clear hown hu8 hb8)
      go_roundw
      case rel =>
        exact ⟨k + 1, _, _, _, by omega, by go_num, HC8, Lib.hid ((set_ne (by show w.heap.size + 1 ≠ b3; exact hb2)).trans HZ8.out)⟩
      case measure => simp [intOf]; omega
    · obtain rfl : k = xs.length := by omega
      have HL := HC.out.like
      rw [List.take_length] at HL
      have HLL := Lib.hid HL
      have hol : os'.length = os.length := by have := congrArg List.length HG3.out; simpa using this
      have hxl' : xs'.length = xs.length := by have := congrArg List.length HL; simpa using this
      have HOL := Lib.hid (And.intro hol hxl')
      obtain ⟨z0, z1⟩ := cells2_of HZ.out
      have fz0 : wr.frozen? ⟨w.heap.size + 1, 0, none⟩ = false := frozen_of_heap HZ.out
      have fz1 : wr.frozen? ⟨w.heap.size + 1, 1, none⟩ = false := frozen_of_heap HZ.out
      obtain ⟨x0, x1⟩ := cells2_of HC.out.box
      clear HL hol hxl'
      go_wp2_with (fail)
      obtain ⟨p1, p2⟩ := put2 (u := .slice ga os.length gc) (v := .slice a xs.length c) HZ.out
      have hd : ∀ {e : TypeId} {s n : Nat} {v : Value} {vs : List Value} (B : Nat) (hB : w.heap.size + 1 < B) (q : wr.ownsRow B e s v n vs), ((wr.setCell ⟨w.heap.size + 1, 0, none⟩ (.slice ga os.length gc)).setCell ⟨w.heap.size + 1, 1, none⟩ (.slice a xs.length c)).ownsRow w.heap.size e s v n vs := fun B hB q =>
        ownsRow_low (ownsRow_any q p2 (fun j hj e => by have := (World.ownsRow.lt q j hj).1; omega)) (by omega)
      have hB0 : w.heap.size + 1 < wb.heap.size := lt_of_heap HX2.out
      have hB1 : w.heap.size + 1 < b3 + 1 := by have := HB3.out; omega
      have hk2 : ∀ {e : TypeId} {s n : Nat} {v : Value} {vs : List Value} (q : w2.ownsRow wb.heap.size e s v n vs), wr.ownsRow wb.heap.size e s v n vs := fun q => ownsRow_any q HC.out.upd (fun _ _ e => e)
      refine bodyPost_ret (results_c (fn := Try.f10) rfl rfl (load27 p1)) rfl ⟨ga, gc, os', a, c, xs', ?_, ?_, HG3.out, HLL.out, (HU2.out.trans HC.out.upd).cut p2 (fun j hj => by omega)⟩
      · rw [wkV, HOL.out.1, HOL.out.2]
      · refine ⟨?_, fun o ho => hd _ hB0 (hk2 (HG2.out o ho)), ?_, fun x hx => hd _ hB1 (HC.out.each x hx)⟩
        · rw [HOL.out.1]; exact hd _ hB0 (hk2 HG1.out)
        · rw [HOL.out.2]; exact hd _ hB1 HC.out.row
end Go.Proofs.Ytfaeojmmkejeiaa
end

section
namespace Go.Proofs.Ytfaeojmmkejeiaa
set_option maxRecDepth 100000
open Go.RowKit

/-- An operator without its width and where its inputs lie. -/
def strip (o : OpM) : OpM := ⟨o.tag, 0, none, 0, o.ins, o.a, o.b⟩
theorem srcT_strip (os : List OpM) : srcT (os.map strip) = srcT os := by
  unfold srcT
  rw [List.foldl_map]
  rfl
theorem srcs_strip (os : List OpM) (i : Nat) : srcs (os.map strip) i = srcs os i := by unfold srcs; rw [srcT_strip]
theorem srcs_like {os os2 : List OpM} (h : os2.map strip = os.map strip) (i : Nat) : srcs os2 i = srcs os i := by rw [← srcs_strip os2, h, srcs_strip]
theorem srcP_like {os os2 : List OpM} (h : os2.map strip = os.map strip) (ks : Int) : srcP os2 ks = srcP os ks := by
  funext k
  unfold srcP
  rw [srcs_like h]
theorem like_at {os os2 : List OpM} (h : os2.map strip = os.map strip) {i : Nat} {o2 : OpM} (ho : os2[i]? = some o2) : ∃ o, os[i]? = some o ∧ strip o2 = strip o := by
  have h1 : (os2.map strip)[i]? = some (strip o2) := by rw [List.getElem?_map, ho]; rfl
  rw [h, List.getElem?_map, Option.map_eq_some_iff] at h1
  obtain ⟨o, h2, h3⟩ := h1
  exact ⟨o, h2, h3.symm⟩
theorem strip_eq {o o2 : OpM} (h : strip o2 = strip o) : o2.tag = o.tag ∧ o2.ins = o.ins ∧ o2.a = o.a ∧ o2.b = o.b := by
  simp only [strip, OpM.mk.injEq] at h
  exact ⟨h.1, h.2.2.2.2.1, h.2.2.2.2.2.1, h.2.2.2.2.2.2⟩
theorem alone_like {o o2 : OpM} {i : Int} (h : strip o2 = strip o) (hw : 1 ≤ o2.width ∧ o2.width ≤ 2) (ha : o.alone i = true) : o2.alone i = true := by
  obtain ⟨h1, h2, h3, h4⟩ := strip_eq h
  simp only [OpM.alone, Bool.and_eq_true, decide_eq_true_eq] at ha ⊢
  rw [h1, h2, h3, h4]
  exact ⟨⟨⟨by omega, by omega⟩, ha.1.2⟩, ha.2⟩
theorem tagAt_like {os os2 : List OpM} (h : os2.map strip = os.map strip) (k : Int) : tagAt os2 k = tagAt os k := by
  have e : ∀ l : List OpM, (l.map strip)[k.toNat]? = (l[k.toNat]?).map strip := fun l => List.getElem?_map ..
  have h2 := e os2
  rw [h, e os] at h2
  unfold tagAt
  cases h3 : os[k.toNat]? <;> cases h4 : os2[k.toNat]? <;> rw [h3, h4] at h2 <;> simp at h2 ⊢
  exact (strip_eq h2.symm).1
theorem dup_like {os os2 : List OpM} (h : os2.map strip = os.map strip) {o o2 : OpM} (ho : strip o2 = strip o) (i : Nat) : dupB os2 i o2 = dupB os i o := by
  have e : ∀ (l : List OpM) (x : OpM), dupB (l.map strip) i (strip x) = dupB l i x := fun l x => by
    unfold dupB
    rw [← List.map_take, List.any_map]
    rfl
  rw [← e os2, h, ho, e]
theorem wrong_like {os os2 : List OpM} (h : os2.map strip = os.map strip) {i : Nat} {o o2 : OpM} {wd wd2 : Int} (ho : strip o2 = strip o) (hw : 1 ≤ o2.width ∧ o2.width ≤ 2) (h0 : wrongI os i o wd = 0) (hwd : wd2 ≤ 16) : wrongI os2 i o2 wd2 = 0 := by
  obtain ⟨t1, t2, t3, t4⟩ := strip_eq ho
  have ha := alone_like ho hw (wrongI_parts h0).1
  have hs : sinkB os2 o2 = sinkB os o := by
    unfold sinkB
    rw [t2]
    congr 1
    funext k
    rw [tagAt_like h]
  have hm : meetN os2 o2.ins = meetN os o.ins := by
    unfold meetN
    rw [t2]
    congr 2
    funext k
    rw [srcs_like h]
  unfold wrongI at h0 ⊢
  rw [ha, hs, dup_like h ho, t1, hm, srcs_like h]
  have ha0 := (wrongI_parts (os := os) (i := i) (o := o) (wd := wd) (by unfold wrongI; exact h0)).1
  rw [ha0] at h0
  split at h0
  · omega
  · rename_i h1
    rw [if_neg h1]
    split at h0
    · omega
    · rename_i h2
      rw [if_neg h2, if_neg (by omega)]
theorem chkWrong_like {os os2 : List OpM} (h : os2.map strip = os.map strip) (hw : ∀ o ∈ os2, 1 ≤ o.width ∧ o.width ≤ 2) (he : ∀ (i : Nat) (o : OpM), os[i]? = some o → ∃ wd, wrongI os i o wd = 0) (h8 : os2.length ≤ 8) :
    ∀ (r : List OpM) (k : Nat) (wide : Int), os2.drop k = r → wide ≤ 2 * k → chkWrong os2 k r wide = none
  | [], _, _, _, _ => rfl
  | x :: r, k, wide, hd, hwd => by
    have ho : os2[k]? = some x := by
      have := congrArg (·[0]?) hd
      simpa using this
    have hk := (List.getElem?_eq_some_iff.1 ho).1
    have hd2 : os2.drop (k + 1) = r := by
      rw [drop_cons' ho] at hd
      injection hd
    obtain ⟨o, ho1, ho2⟩ := like_at h ho
    obtain ⟨wd, hwz⟩ := he k o ho1
    have hx := hw x (List.mem_of_getElem? ho)
    unfold chkWrong
    rw [wrong_like h ho2 hx hwz (wd2 := wide + x.width) (by omega), if_neg (by simp)]
    exact chkWrong_like h hw he h8 r (k + 1) _ hd2 (by omega)
theorem readL_like {os os2 : List OpM} (h : os2.map strip = os.map strip) : readL os2 = readL os := by
  have e : ∀ l : List OpM, readL (l.map strip) = readL l := fun l => by
    unfold readL
    rw [List.flatMap_map]
    rfl
  rw [← e os2, h, e]
theorem chkUnread_strip (rl : List Int) : ∀ (l : List OpM) (k : Nat), chkUnread rl k (l.map strip) = chkUnread rl k l
  | [], _ => rfl
  | o :: l, k => by
    rw [List.map_cons, chkUnread, chkUnread, chkUnread_strip rl l]
    rfl
theorem chkG_like {os os2 : List OpM} (h : os2.map strip = os.map strip) (hw : ∀ o ∈ os2, 1 ≤ o.width ∧ o.width ≤ 2) (h0 : (chkG os).2 = 0) : (chkG os2).2 = 0 := by
  have hl : os2.length = os.length := by have := congrArg List.length h; simpa using this
  have he := chkG_each h0
  have hb := chkG_wf h0
  have hn := chkWrong_like h hw he (by omega) os2 0 0 rfl (by simp)
  have hn0 : chkWrong os 0 os 0 = none := by
    cases hc : chkWrong os 0 os 0 with
    | none => rfl
    | some z =>
      unfold chkG at h0
      rw [if_neg (by omega), hc] at h0
      exact absurd h0 (chkWrong_bad _ _ _ _ hc)
  unfold chkG at h0 ⊢
  rw [if_neg (by omega), hn0] at h0
  rw [if_neg (by omega), hn, readL_like h, ← chkUnread_strip, h, chkUnread_strip]
  exact h0
theorem wantI_like {os os2 : List OpM} (h : os2.map strip = os.map strip) : wantI os2 = wantI os := by
  have e : ∀ l : List OpM, wantI (l.map strip) = wantI l := fun l => by
    unfold wantI
    rw [List.filter_map, List.map_map]
    rfl
  rw [← e os2, h, e]
theorem stepR_like {o o2 : OpM} (h : strip o2 = strip o) (c : CellV) (v : Int) : stepR o2 c v = stepR o c v := by
  obtain ⟨t1, t2, t3, t4⟩ := strip_eq h
  unfold stepR
  rw [t1, t3, t4]
theorem flowR_like {o o2 : OpM} (h : strip o2 = strip o) : ∀ (l : List Int) (c : CellV), flowR o2 c l = flowR o c l
  | [], c => rfl
  | v :: r, c => by rw [flowR, flowR, stepR_like h, flowR_like h r]
theorem comes_like {os os2 : List OpM} {em : Int → List Int} {ks : Int} (h : os2.map strip = os.map strip) (h1 : ∀ (i : Nat) (o : OpM), os[i]? = some o → o.alone 8 = true) (h2 : ∀ (i : Nat) (o : OpM), os2[i]? = some o → o.alone 8 = true) (hl : ∀ a, (em a).length ≤ 40) :
    ∀ f n, comesF os2 em ks f n = comesF os em ks f n
  | 0, n => rfl
  | f + 1, n => by
    rw [comesF, comesF]
    cases ho : os2[n]? with
    | none =>
      have : os[n]? = none := by
        have hl2 : os2.length = os.length := by have := congrArg List.length h; simpa using this
        rw [List.getElem?_eq_none_iff] at ho ⊢
        omega
      rw [this]
    | some o2 =>
      obtain ⟨o, ho1, ho2⟩ := like_at h ho
      obtain ⟨t1, t2, t3, t4⟩ := strip_eq ho2
      rw [ho1]
      simp only
      rw [t1, t2, t3, srcP_like h]
      have ih := comes_like (ks := ks) h h1 h2 hl f
      rw [ih, ih]
      have hg := (comes_grows (ks := ks) h1 (fun a => List.prefix_refl (em a)) hl f (o.ins.getD 0 0).toNat).len
      rw [RunR_ok (h1 n o ho1) hg, RunR_ok (h2 n o2 ho) hg, flowR_like ho2]

/-! ### The records of a key alone -/
def filtK (key : RecV) (l : List RecV) : List RecV := l.filter fun r => sameK r key
/-- An input with a key's records alone. -/
def coreK (key : RecV) (x : InM) : Int × List RecV := (x.src, filtK key x.recs)
theorem valsK_filt (key : RecV) (l : List RecV) : valsK (filtK key l) key = valsK l key := by
  unfold valsK filtK
  rw [List.filter_filter]
  simp
theorem chkIn_filt {x x2 : InM} {key : RecV} (h : x2.core = coreK key x) (h0 : chkIn x = 0) : chkIn x2 = 0 := by
  simp only [InM.core, coreK, Prod.mk.injEq] at h
  obtain ⟨h1, h2, h3, h4⟩ := chkIn_zero h0
  have hl : x2.recs.length ≤ x.recs.length := by rw [h.2]; exact List.length_filter_le _ _
  have hb : x.recs.any (badRec x.src) = false := by
    unfold chkIn at h0
    split at h0
    · omega
    · rename_i hn
      cases hc : x.recs.any (badRec x.src) with
      | false => rfl
      | true => exact absurd (.inr (.inr (.inr hc))) hn
  have hb2 : x2.recs.any (badRec x2.src) = false := by
    rw [h.1, h.2, List.any_eq_false]
    intro r hr
    have := (List.mem_filter.1 (show r ∈ x.recs.filter (fun r => sameK r key) from hr)).1
    rw [List.any_eq_false] at hb
    exact hb r this
  unfold chkIn
  rw [if_neg]
  rw [hb2, h.1]
  simp
  omega
theorem emV_filt {s : Int} {key : RecV} : ∀ (xs xs2 : List InM), xs2.map InM.core = xs.map (coreK key) → (∀ x ∈ xs, chkIn x = 0) → (∀ x ∈ xs2, chkIn x = 0) → emV xs2 (wholeAt xs2) s key = emV xs (wholeAt xs) s key
  | [], [], _, _, _ => rfl
  | [], _ :: _, h, _, _ => by simp at h
  | _ :: _, [], h, _, _ => by simp at h
  | x :: xs, x2 :: xs2, h, h1, h2 => by
    rw [List.map_cons, List.map_cons, List.cons.injEq] at h
    have ih := emV_filt (s := s) (key := key) xs xs2 h.2 (fun y hy => h1 y (by simp [hy])) (fun y hy => h2 y (by simp [hy]))
    have hw : ∀ (y : InM) (l : List InM), wholeAt (y :: l) = totT y.recs :: wholeAt l := fun _ _ => rfl
    rw [hw, hw, emV, emV, ih, emOf, emOf, pre_whole (h1 x (by simp)), pre_whole (h2 x2 (by simp))]
    have hc := h.1
    simp only [InM.core, coreK, Prod.mk.injEq] at hc
    rw [hc.1, hc.2, valsK_filt]
theorem src_filt {key : RecV} {xs xs2 : List InM} (h : xs2.map InM.core = xs.map (coreK key)) : xs2.map (·.src) = xs.map (·.src) := by
  have := congrArg (List.map Prod.fst) h
  rw [List.map_map, List.map_map] at this
  exact this
theorem chkIn_filts {key : RecV} {xs xs2 : List InM} (h : xs2.map InM.core = xs.map (coreK key)) (h1 : ∀ x ∈ xs, chkIn x = 0) : ∀ x ∈ xs2, chkIn x = 0 := by
  intro x2 hx2
  obtain ⟨i, hi⟩ := List.getElem?_of_mem hx2
  have h3 : (xs2.map InM.core)[i]? = some x2.core := by rw [List.getElem?_map, hi]; rfl
  rw [h, List.getElem?_map, Option.map_eq_some_iff] at h3
  obtain ⟨x, h4, h5⟩ := h3
  exact chkIn_filt h5.symm (h1 x (List.mem_of_getElem? h4))

theorem alone_err (os : List OpM) (xs : List InM) (ats : List (List Int)) (n : Int) (key : RecV) : (valuesR os xs ats n key).2 = (cellR os xs ats n key).2 := by
  unfold valuesR cellR doesV doesC
  (repeat' split) <;> rfl
/-- P13.5, the other half. -/
theorem alone_law {os os2 : List OpM} {xs xs2 : List InM} {n : Int} {key : RecV} (ho : os2.map strip = os.map strip) (hw : ∀ o ∈ os2, 1 ≤ o.width ∧ o.width ≤ 2) (hx : xs2.map InM.core = xs.map (coreK key)) (h0 : chkW os xs = 0)
    (hv : (valuesR os xs (wholeAt xs) n key).2 = 0) :
    chkW os2 xs2 = 0 ∧ valuesR os2 xs2 (wholeAt xs2) n key = valuesR os xs (wholeAt xs) n key ∧ cellR os2 xs2 (wholeAt xs2) n key = cellR os xs (wholeAt xs) n key ∧ (valuesR os xs (wholeAt xs) n key).1.length ≤ 40 := by
  have hg := chkW_g h0
  have hg2 := chkG_like ho hw hg
  have hin := chkW_in h0
  have hin2 := chkIn_filts hx hin
  have hw2 : chkW os2 xs2 = 0 := by
    unfold chkW at h0 ⊢
    rw [if_neg (by omega)] at h0
    rw [if_neg (by omega), if_neg, src_filt hx, wantI_like ho]
    · split at h0
      · omega
      · exact h0
    · rw [Bool.not_eq_true, List.any_eq_false]
      intro x hx2
      simp [badIn, hin2 x hx2]
  have e1 : chkAt os xs (wholeAt xs) = 0 := chkAt_mk h0 (by simp [wholeAt]) (offs_whole xs hin)
  have e2 : chkAt os2 xs2 (wholeAt xs2) = 0 := chkAt_mk hw2 (by simp [wholeAt]) (offs_whole xs2 hin2)
  have hl : os2.length = os.length := by have := congrArg List.length ho; simpa using this
  have hlen : ∀ a, (emV xs (wholeAt xs) a key).length ≤ 40 := fun a => (emV_grow xs (wholeAt xs) (chkW_nodup h0) (offs_whole xs hin) (by simp [wholeAt]) hin).2
  have hem : (fun s => emV xs2 (wholeAt xs2) s key) = fun s => emV xs (wholeAt xs) s key := by
    funext s
    exact emV_filt xs xs2 hx hin hin2
  have hc : comesV os2 xs2 (wholeAt xs2) key n.toNat = comesV os xs (wholeAt xs) key n.toNat := by
    unfold comesV
    rw [hem]
    exact comes_like ho (chkG_alone hg) (chkG_alone hg2) hlen _ _
  refine ⟨hw2, ?_, ?_, ?_⟩
  · unfold valuesR doesV
    rw [e1, e2, hl, hc]
  · unfold cellR doesC
    rw [e1, e2, hl, hc]
  · unfold valuesR doesV
    rw [if_neg (by omega)]
    split
    · simp
    · split
      · simp
      · exact (comes_grows (ks := key.src) (chkG_alone hg) (fun a => List.prefix_refl _) hlen _ _).len
end Go.Proofs.Ytfaeojmmkejeiaa
end

section
namespace Go.Proofs.Ytfaeojmmkejeiaa
set_option maxRecDepth 100000
open Go.RowKit Go.Shelf

theorem Row.of_ownS {s : Nat} {w : World} {B : Nat} {e : TypeId} {a : Option Addr} {n c : Nat} {els : List (List Value)} (hs : 0 < s) (h : w.ownsRow B e s (.slice a n c) n els.flatten) (hl : ∀ y ∈ els, y.length = s) (hn : els.length = n) : Row s w a els := by
  intro i x hx
  have hxl := hl x (List.mem_of_getElem? hx)
  have hx0 : x[0]? = some (x[0]'(by omega)) := List.getElem?_eq_getElem (by omega)
  have hfl : els.flatten.length = n * s := by rw [flat_len hl, hn]
  obtain ⟨g, e1, _⟩ := row_cell h hfl (flat_at hl hx 0 _ hx0)
  refine ⟨hxl, g, 0, e1, fun t u hu => ?_⟩
  obtain ⟨g', e2, hc⟩ := row_cell h hfl (flat_at hl hx t u hu)
  rw [e1] at e2
  injection e2 with e2
  injection e2 with e2
  subst e2
  rw [Nat.zero_add]
  exact hc
theorem own_cap {w : World} {B : Nat} {e : TypeId} {s : Nat} {a : Option Addr} {n c : Nat} {vs : List Value} (h : w.ownsRow B e s (.slice a n c) n vs) : n ≤ c ∧ c ≤ maxLen := by
  rcases h.2 with ⟨h1, h2⟩ | ⟨g, cap, cur, h1, _, _, h3, h4, _⟩
  · injection h1 with _ h5 h6
    subst h6; subst h2
    exact ⟨Nat.le_refl _, by unfold maxLen; omega⟩
  · injection h1 with _ _ h6
    subst h6
    exact ⟨h3, h4⟩
theorem own_addr {w : World} {B : Nat} {e : TypeId} {s : Nat} {a : Option Addr} {n c : Nat} {vs : List Value} (h : w.ownsRow B e s (.slice a n c) n vs) (hn : 0 < n) : ∃ g, a = some ⟨g, 0, none⟩ ∧ B ≤ g := by
  rcases h.2 with ⟨_, h2⟩ | ⟨g, cap, cur, h1, hb, _⟩
  · omega
  · injection h1 with h1
    exact ⟨g, h1, hb⟩
theorem OwnWk.wk {W : World} {B : Nat} {ga : Option Addr} {os : List OpM} {gc : Nat} {xa : Option Addr} {xs : List InM} {xc : Nat} (h : OwnWk W B ga os gc xa xs xc) (ho : os.length ≤ 50) (hx : xs.length ≤ 20) (hi : ∀ o ∈ os, o.ins.length ≤ 50) (hr : ∀ x ∈ xs, x.recs.length ≤ 200) : WkIn W ga os gc xa xs :=
  ⟨⟨Row.of_ownS (by omega) (by rw [← List.flatMap_def]; exact h.ops) (fun y hy => by obtain ⟨o, _, rfl⟩ := List.mem_map.1 hy; rfl) (by simp), fun o hoo => ⟨OwnI.in' (h.ins o hoo), by have := hi o hoo; omega⟩⟩, ho, (own_cap h.ops).1, (own_cap h.ops).2,
   ⟨Row.of_ownS (by omega) (by rw [← List.flatMap_def]; exact h.row) (fun y hy => by obtain ⟨o, _, rfl⟩ := List.mem_map.1 hy; rfl) (by simp), fun x hxx => ⟨OwnR.in' (h.recs x hxx) rfl, by have := hr x hxx; omega⟩⟩, hx⟩
theorem OwnWk.kept {W W' : World} {B : Nat} {ga : Option Addr} {os : List OpM} {gc : Nat} {xa : Option Addr} {xs : List InM} {xc : Nat} (h : OwnWk W B ga os gc xa xs xc) (hu : Upd0 W W') : OwnWk W' B ga os gc xa xs xc :=
  ⟨ownsRow_any h.ops hu (fun _ _ e => e), fun o ho => ownsRow_any (h.ins o ho) hu (fun _ _ e => e), ownsRow_any h.row hu (fun _ _ e => e), fun o ho => ownsRow_any (h.recs o ho) hu (fun _ _ e => e)⟩
theorem flat_set5 {v : Int} : ∀ {os : List OpM} {i : Nat} {o : OpM}, os[i]? = some o → (os.flatMap OpM.cells).set (i * 5 + 1) (.int .i64 v) = (os.set i { o with width := v }).flatMap OpM.cells
  | [], _, _, h => by simp at h
  | x :: l, 0, o, h => by
    simp at h; subst h
    rfl
  | x :: l, i + 1, o, h => by
    rw [List.flatMap_cons, List.set_cons_succ, List.flatMap_cons, List.set_append_right _ _ (by simp [OpM.cells]; omega), show (i + 1) * 5 + 1 - x.cells.length = i * 5 + 1 by simp [OpM.cells]; omega]
    rw [flat_set5 (os := l) (by simpa using h)]
theorem flat_set2 {ra : Option Addr} {rc : Nat} {recs : List RecV} : ∀ {xs : List InM} {i : Nat} {x : InM}, xs[i]? = some x → (xs.flatMap InM.cells).set (i * 2 + 1) (.slice ra recs.length rc) = (xs.set i ⟨x.src, ra, rc, recs⟩).flatMap InM.cells
  | [], _, _, h => by simp at h
  | x :: l, 0, o, h => by
    simp at h; subst h
    rfl
  | x :: l, i + 1, o, h => by
    rw [List.flatMap_cons, List.set_cons_succ, List.flatMap_cons, List.set_append_right _ _ (by simp [InM.cells]; omega), show (i + 1) * 2 + 1 - x.cells.length = i * 2 + 1 by simp [InM.cells]; omega]
    rw [flat_set2 (xs := l) (by simpa using h)]
theorem mem_set' {α : Type} {l : List α} {i : Nat} {x y : α} (h : y ∈ l.set i x) : y ∈ l ∨ y = x := by
  rcases List.mem_or_eq_of_mem_set h with h | h
  · exact .inl h
  · exact .inr h
theorem List.set_getElem?_self' {α : Type} {l : List α} {k : Nat} {x : α} (h : l[k]? = some x) : l.set k x = l := by
  obtain ⟨h1, h2⟩ := List.getElem?_eq_some_iff.1 h
  rw [← h2]
  exact List.set_getElem_self h1
theorem OwnWk.width {W : World} {B g : Nat} {os : List OpM} {gc : Nat} {xa : Option Addr} {xs : List InM} {xc i : Nat} {o : OpM} {v : Int} (h : OwnWk W B (some ⟨g, 0, none⟩) os gc xa xs xc) (ho : os[i]? = some o) :
    OwnWk (W.setCell ⟨g, i * 5 + 1, none⟩ (.int .i64 v)) B (some ⟨g, 0, none⟩) (os.set i { o with width := v }) gc xa xs xc := by
  have h49 : ∃ cur, W.heap[g]? = some (.cells cur 49 (0, 0)) := ownsRow_at h.ops rfl
  obtain ⟨cur, hcur⟩ := h49
  have hne : ∀ {e : TypeId} {s n : Nat} {u : Value} {vs : List Value}, e ≠ 49 → W.ownsRow B e s u n vs → (W.setCell ⟨g, i * 5 + 1, none⟩ (.int .i64 v)).ownsRow B e s u n vs := fun he q =>
    ownsRow_heap q (fun j hj => set_ne (fun e => by
      obtain ⟨cur', hcur'⟩ := ownsRow_at q hj
      have e' : j = g := e
      subst e'
      rw [hcur] at hcur'
      injection hcur' with hcur'
      injection hcur' with _ hcur'
      exact he hcur'.symm))
  refine ⟨?_, fun y hy => ?_, hne (by decide) h.row, fun x hx => hne (by decide) (h.recs x hx)⟩
  · have := (h.ops.stored (i * 5 + 1) (.int .i64 v)).1
    rw [flat_set5 ho] at this
    rw [List.length_set]
    exact this
  · rcases mem_set' hy with hy | rfl
    · exact hne (by decide) (h.ins y hy)
    · exact hne (by decide) (h.ins o (List.mem_of_getElem? ho))
theorem OwnWk.put {W : World} {B g : Nat} {ga : Option Addr} {os : List OpM} {gc : Nat} {xs : List InM} {xc i : Nat} {x : InM} {ra : Option Addr} {rc : Nat} {recs : List RecV} (h : OwnWk W B ga os gc (some ⟨g, 0, none⟩) xs xc) (hx : xs[i]? = some x) (hr : OwnR W B (.slice ra recs.length rc) recs) :
    OwnWk (W.setCell ⟨g, i * 2 + 1, none⟩ (.slice ra recs.length rc)) B ga os gc (some ⟨g, 0, none⟩) (xs.set i ⟨x.src, ra, rc, recs⟩) xc := by
  have h49 : ∃ cur, W.heap[g]? = some (.cells cur 52 (0, 0)) := ownsRow_at h.row rfl
  obtain ⟨cur, hcur⟩ := h49
  have hne : ∀ {e : TypeId} {s n : Nat} {u : Value} {vs : List Value}, e ≠ 52 → W.ownsRow B e s u n vs → (W.setCell ⟨g, i * 2 + 1, none⟩ (.slice ra recs.length rc)).ownsRow B e s u n vs := fun he q =>
    ownsRow_heap q (fun j hj => set_ne (fun e => by
      obtain ⟨cur', hcur'⟩ := ownsRow_at q hj
      have e' : j = g := e
      subst e'
      rw [hcur] at hcur'
      injection hcur' with hcur'
      injection hcur' with _ hcur'
      exact he hcur'.symm))
  refine ⟨hne (by decide) h.ops, fun o ho => hne (by decide) (h.ins o ho), ?_, fun y hy => ?_⟩
  · have := (h.row.stored (i * 2 + 1) (.slice ra recs.length rc)).1
    rw [flat_set2 hx] at this
    rw [List.length_set]
    exact this
  · rcases mem_set' hy with hy | rfl
    · exact hne (by decide) (h.recs y hy)
    · exact hne (by decide) hr
theorem own_cell5 {w : World} {B : Nat} {a : Option Addr} {n c : Nat} {os : List OpM} (h : w.ownsRow B 49 5 (.slice a n c) n (os.flatMap OpM.cells)) {i : Nat} {o : OpM} (ho : os[i]? = some o) : ∃ g, a = some ⟨g, 0, none⟩ ∧ w.cell? ⟨g, i * 5 + 1, none⟩ = some (.int .i64 o.width) ∧ w.frozen? ⟨g, i * 5 + 1, none⟩ = false := by
  have hl : ∀ y ∈ os.map OpM.cells, y.length = 5 := fun y hy => by obtain ⟨o, _, rfl⟩ := List.mem_map.1 hy; rfl
  have hx : (os.map OpM.cells)[i]? = some o.cells := by rw [List.getElem?_map, ho]; rfl
  have h1 := flat_at hl hx 1 _ rfl
  rw [← List.flatMap_def] at h1
  obtain ⟨g, e, hc⟩ := row_cell h h.1 h1
  subst e
  obtain ⟨cur, hcur⟩ := ownsRow_at h rfl
  exact ⟨g, rfl, hc, frozen_of_heap hcur⟩
theorem own_cell2 {w : World} {B : Nat} {a : Option Addr} {n c : Nat} {xs : List InM} (h : w.ownsRow B 52 2 (.slice a n c) n (xs.flatMap InM.cells)) {i : Nat} {x : InM} (ho : xs[i]? = some x) : ∃ g, a = some ⟨g, 0, none⟩ ∧ w.cell? ⟨g, i * 2, none⟩ = some (.int .i64 x.src) ∧ w.cell? ⟨g, i * 2 + 1, none⟩ = some (.slice x.ra x.recs.length x.rc) ∧ w.frozen? ⟨g, i * 2 + 1, none⟩ = false := by
  have hl : ∀ y ∈ xs.map InM.cells, y.length = 2 := fun y hy => by obtain ⟨o, _, rfl⟩ := List.mem_map.1 hy; rfl
  have hx : (xs.map InM.cells)[i]? = some x.cells := by rw [List.getElem?_map, ho]; rfl
  have h0 := flat_at hl hx 0 _ rfl
  have h1 := flat_at hl hx 1 _ rfl
  rw [← List.flatMap_def] at h0 h1
  obtain ⟨g, e, hc0⟩ := row_cell h h.1 h0
  subst e
  obtain ⟨g', e, hc⟩ := row_cell h h.1 h1
  injection e with e
  injection e with e
  subst e
  obtain ⟨cur, hcur⟩ := ownsRow_at h rfl
  exact ⟨g, rfl, hc0, hc, frozen_of_heap hcur⟩
/-- What holds while the widths are set. -/
structure WdAt (wA : World) (B bx on xn k : Nat) (ga xa : Option Addr) (gc xc : Nat) (os' os2 : List OpM) (xs : List InM) (W : World) : Prop where
  own : OwnWk W B ga os2 gc xa xs xc
  box : W.heap[bx]? = some (.cells #[.slice ga on gc, .slice xa xn xc] 27 (0, 0))
  like : os2.map strip = os'.map strip
  len : os2.length = on
  wid : ∀ (j : Nat) (o : OpM), j < k → os2[j]? = some o → 1 ≤ o.width ∧ o.width ≤ 2
  upd : Upd0 wA W
  low : wA.heap.size ≤ B
theorem WdAt.kept {wA : World} {B bx on xn k : Nat} {ga xa : Option Addr} {gc xc : Nat} {os' os2 : List OpM} {xs : List InM} {W W' : World} (h : WdAt wA B bx on xn k ga xa gc xc os' os2 xs W) (hu : Upd0 W W') : WdAt wA B bx on xn k ga xa gc xc os' os2 xs W' :=
  ⟨h.own.kept hu, (hu.block _ (lt_of_heap h.box) (fun e => e)).trans h.box, h.like, h.len, h.wid, h.upd.trans hu, h.low⟩
theorem WdAt.set {wA : World} {B bx on xn k g : Nat} {xa : Option Addr} {gc xc : Nat} {os' os2 : List OpM} {xs : List InM} {W : World} {o : OpM} {v : Int} (h : WdAt wA B bx on xn k (some ⟨g, 0, none⟩) xa gc xc os' os2 xs W) (ho : os2[k]? = some o) :
    WdAt wA B bx on xn k (some ⟨g, 0, none⟩) xa gc xc os' (os2.set k { o with width := v }) xs (W.setCell ⟨g, k * 5 + 1, none⟩ (.int .i64 v)) ∧ (os2.set k { o with width := v })[k]? = some { o with width := v } := by
  have hk := (List.getElem?_eq_some_iff.1 ho).1
  have hgb : B ≤ g := (World.ownsRow.lt h.own.ops g rfl).1
  obtain ⟨cur, hcur⟩ := ownsRow_at h.own.ops rfl
  refine ⟨⟨h.own.width ho, ?_, ?_, by rw [List.length_set]; exact h.len, fun j y hj hy => ?_, h.upd.cut (upd_own _ _ _ _) (fun j hj => by have := h.low; omega), h.low⟩, List.getElem?_set_self hk⟩
  · refine (set_ne (fun e => ?_)).trans h.box
    have e' : bx = g := e
    subst e'
    have hb := h.box
    rw [hcur] at hb
    injection hb with hb
    injection hb with _ hb
    exact absurd hb (by decide)
  · rw [← h.like, List.map_set]
    have : (os2.map strip)[k]? = some (strip o) := by rw [List.getElem?_map, ho]; rfl
    exact List.set_getElem?_self' this
  · rw [List.getElem?_set_ne (by omega)] at hy
    exact h.wid j y hj hy
theorem WdAt.next {wA : World} {B bx on xn k : Nat} {ga xa : Option Addr} {gc xc : Nat} {os' os2 : List OpM} {xs : List InM} {W : World} {o : OpM} (h : WdAt wA B bx on xn k ga xa gc xc os' os2 xs W) (ho : os2[k]? = some o) (hw : 1 ≤ o.width ∧ o.width ≤ 2) : WdAt wA B bx on xn (k + 1) ga xa gc xc os' os2 xs W :=
  ⟨h.own, h.box, h.like, h.len, fun j y hj hy => by
    rcases Nat.lt_or_ge j k with hq | hq
    · exact h.wid j y hq hy
    · obtain rfl : j = k := by omega
      rw [ho] at hy
      injection hy with hy
      subst hy
      exact hw, h.upd, h.low⟩
/-- What holds while the records are filtered. -/
structure FtAt (wA : World) (B bx on xn k : Nat) (ga xa : Option Addr) (gc xc : Nat) (key : RecV) (os2 : List OpM) (xs' xs2 : List InM) (W : World) : Prop where
  own : OwnWk W B ga os2 gc xa xs2 xc
  box : W.heap[bx]? = some (.cells #[.slice ga on gc, .slice xa xn xc] 27 (0, 0))
  like : xs2.map InM.core = (xs'.take k).map (coreK key) ++ (xs'.drop k).map InM.core
  len : xs2.length = xn
  upd : Upd0 wA W
  low : wA.heap.size ≤ B
theorem FtAt.kept {wA : World} {B bx on xn k : Nat} {ga xa : Option Addr} {gc xc : Nat} {key : RecV} {os2 : List OpM} {xs' xs2 : List InM} {W W' : World} (h : FtAt wA B bx on xn k ga xa gc xc key os2 xs' xs2 W) (hu : Upd0 W W') : FtAt wA B bx on xn k ga xa gc xc key os2 xs' xs2 W' :=
  ⟨h.own.kept hu, (hu.block _ (lt_of_heap h.box) (fun e => e)).trans h.box, h.like, h.len, h.upd.trans hu, h.low⟩
theorem FtAt.at {wA : World} {B bx on xn k : Nat} {ga xa : Option Addr} {gc xc : Nat} {key : RecV} {os2 : List OpM} {xs' xs2 : List InM} {W : World} (h : FtAt wA B bx on xn k ga xa gc xc key os2 xs' xs2 W) {x x2 : InM} (hx : xs'[k]? = some x) (hx2 : xs2[k]? = some x2) : x2.src = x.src ∧ x2.recs = x.recs := by
  have hk := (List.getElem?_eq_some_iff.1 hx).1
  have h1 : (xs2.map InM.core)[k]? = some x2.core := by rw [List.getElem?_map, hx2]; rfl
  rw [h.like, List.getElem?_append_right (by simp; omega), List.length_map, List.length_take, Nat.min_eq_left (by omega), Nat.sub_self, List.getElem?_map, List.getElem?_drop, Nat.add_zero, hx] at h1
  simp only [Option.map_some, Option.some.injEq, InM.core, Prod.mk.injEq] at h1
  exact ⟨h1.1.symm, h1.2.symm⟩
theorem FtAt.put {wA : World} {B bx on xn k g : Nat} {ga : Option Addr} {gc xc : Nat} {key : RecV} {os2 : List OpM} {xs' xs2 : List InM} {W : World} {x x2 : InM} {ra : Option Addr} {rc : Nat} (h : FtAt wA B bx on xn k ga (some ⟨g, 0, none⟩) gc xc key os2 xs' xs2 W) (hx : xs'[k]? = some x) (hx2 : xs2[k]? = some x2)
    (hr : OwnR W B (.slice ra (filtK key x.recs).length rc) (filtK key x.recs)) :
    FtAt wA B bx on xn (k + 1) ga (some ⟨g, 0, none⟩) gc xc key os2 xs' (xs2.set k ⟨x2.src, ra, rc, filtK key x.recs⟩) (W.setCell ⟨g, k * 2 + 1, none⟩ (.slice ra (filtK key x.recs).length rc)) := by
  have hgb : B ≤ g := (World.ownsRow.lt h.own.row g rfl).1
  have hk := (List.getElem?_eq_some_iff.1 hx).1
  obtain ⟨cur, hcur⟩ := ownsRow_at h.own.row rfl
  refine ⟨h.own.put hx2 hr, ?_, ?_, by rw [List.length_set]; exact h.len, h.upd.cut (upd_own _ _ _ _) (fun j hj => by have := h.low; omega), h.low⟩
  · refine (set_ne (fun e => ?_)).trans h.box
    have e' : bx = g := e
    subst e'
    have hb := h.box
    rw [hcur] at hb
    injection hb with hb
    injection hb with _ hb
    exact absurd hb (by decide)
  · rw [List.map_set, h.like, take_cons' hx, drop_cons' hx, List.set_append_right _ _ (by simp; omega), List.length_map, List.length_take, Nat.min_eq_left (by omega), Nat.sub_self, List.map_cons, List.set_cons_zero, List.map_append, List.append_assoc]
    simp only [InM.core, coreK, List.map_cons, List.map_nil, List.cons_append, List.nil_append]
    rw [(h.at hx hx2).1]
end Go.Proofs.Ytfaeojmmkejeiaa
end

