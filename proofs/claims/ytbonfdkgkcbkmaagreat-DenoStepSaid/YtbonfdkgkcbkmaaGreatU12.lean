/- Walks: records sorted by their keys. -/
import Derived.Test.YtbonfdkgkcbkmaaGreatU1
import Derived.Test.YtbonfdkgkcbkmaaGreatU4
import Derived.Test.YtbonfdkgkcbkmaaGreatU5
import Derived.Test.YtbonfdkgkcbkmaaGreatU8
import Derived.Test.YtbonfdkgkcbkmaaGreatU10
import Derived.Test.YtbonfdkgkcbkmaaGreatU11
import Derived.Sort.Statements
import Derived.Shelf.GgSortFunc.InsertionK
set_option linter.unusedVariables false
set_option linter.unusedSimpArgs false

section
namespace Go.Proofs.YtbonfdkgkcbkmaaGreat
set_option maxRecDepth 100000
open Go.RowKit Go.Shelf Go.Sort

/-- Nothing but new blocks, and draws. -/
def UpdD (w w' : World) : Prop := Upd0 w w' ∧ w.drawn ≤ w'.drawn
theorem UpdD.grow {w w' : World} (h : UpdD w w') : ∃ q vs, w' = grow (w.drewN q) vs := by
  obtain ⟨hu, hd⟩ := h
  refine ⟨w'.drawn - w.drawn, w'.heap.extract w.heap.size w'.heap.size, ?_⟩
  have hh : w'.heap = w.heap ++ w'.heap.extract w.heap.size w'.heap.size := by
    apply Array.ext_getElem?
    intro i
    rw [Array.getElem?_append]
    split
    · rename_i hi
      exact hu.block i hi (fun e => e)
    · rename_i hi
      rw [Array.getElem?_extract]
      split
      · congr 1; omega
      · rw [Array.getElem?_eq_none (by omega)]
  have h1 : ∀ (a b : World), a.heap = b.heap → a.tape = b.tape → a.drawn = b.drawn → a.os = b.os → a.output = b.output → a = b := fun a b h1 h2 h3 h4 h5 => by
    cases a; cases b; simp_all
  have hn : ∀ (n : Nat) (v : World), (v.drewN n).heap = v.heap ∧ (v.drewN n).tape = v.tape ∧ (v.drewN n).drawn = v.drawn + n ∧ (v.drewN n).os = v.os ∧ (v.drewN n).output = v.output := fun n v => by
    simp [World.drewN]
  obtain ⟨k1, k2, k3, k4, k5⟩ := hn (w'.drawn - w.drawn) w
  refine h1 _ _ ?_ ?_ ?_ ?_ ?_
  · show w'.heap = (w.drewN (w'.drawn - w.drawn)).heap ++ w'.heap.extract w.heap.size w'.heap.size
    rw [k1]; exact hh
  · show w'.tape = (w.drewN (w'.drawn - w.drawn)).tape
    rw [k2]; exact hu.tape
  · show w'.drawn = (w.drewN (w'.drawn - w.drawn)).drawn
    rw [k3]; omega
  · show w'.os = (w.drewN (w'.drawn - w.drawn)).os
    rw [k4]; exact hu.os
  · show w'.output = (w.drewN (w'.drawn - w.drawn)).output
    rw [k5]; exact hu.output
theorem compare2_any (a b : RecV) (w : World) : Calls Tryz.prog 133 #[.agg #[.int .i64 a.src, .int .i64 a.key, .int .i64 a.val], .agg #[.int .i64 b.src, .int .i64 b.key, .int .i64 b.val]] w fun e w' => e = .returned (.int .i64 (cmpR a b)) ∧ UpdD w w' := by
  obtain ⟨a0, a1, a2⟩ := a
  obtain ⟨b0, b1, b2⟩ := b
  simp only [cmpR]
  obtain ⟨wb, hwb⟩ : ∃ wb, wb = (w.alloc (.cells #[.int .i64 a0, .int .i64 a1, .int .i64 a2] 36)).alloc (.cells #[.int .i64 b0, .int .i64 b1, .int .i64 b2] 36) := ⟨_, rfl⟩
  have HU := Lib.hid (show UpdD w wb from ⟨by rw [hwb]; exact ((Upd.refl _ w).alloc _).alloc _, by rw [hwb]; exact Nat.le_refl _⟩)
  have HX1 := Lib.hid (show wb.heap[w.heap.size]? = some (.cells #[.int .i64 a0, .int .i64 a1, .int .i64 a2] 36 (0, 0)) by rw [hwb]; exact (alloc_lt (by simp)).trans (alloc_at rfl))
  have HX2 := Lib.hid (show wb.heap[w.heap.size + 1]? = some (.cells #[.int .i64 b0, .int .i64 b1, .int .i64 b2] 36 (0, 0)) by rw [hwb]; exact alloc_at (by simp))
  go_enter Tryz.func133, Tryz.ntmps133
  go_wp2
  rw [← hwb]
  clear hwb
  have hA : UpdD wb wb.drew := ⟨(Upd.refl _ _).drew, Nat.le_succ _⟩
  refine wp_region_G 10 (fun W => UpdD wb W) [false, false, false, false, false, false, false, false, false, false, false, false, false] rfl (by kernel_rfl) ?_
  generalize wb.drew = wd at hA ⊢
  refine wpG_takeT (i := 0) (v := .pointer (some ⟨w.heap.size, 0, none⟩)) rfl (fun L hc h => (hc.waits (n := 10) (i := 4) (by kernel_rfl) (hc.waits (n := 4) (i := 1) (by kernel_rfl) (hc.waits (n := 1) (i := 0) (by kernel_rfl) h)))) (by kernel_rfl) (fun _ _ _ h => h) hA (.inl ⟨rfl, fun w5 q1 => ?_⟩) ?_
  · go_simp
  simp only [Act.put, List.setIfInBounds_toArray, List.set]
  refine wpG_takeT (i := 1) (v := .int .i64 a0) rfl (fun L hc h => (hc.waits (n := 10) (i := 4) (by kernel_rfl) (hc.waits (n := 4) (i := 1) (by kernel_rfl) h))) (by kernel_rfl) (fun _ _ _ h => h) hA (.inl ⟨rfl, fun w5 q1 => ?_⟩) ?_
  · obtain ⟨c0, c1, c2⟩ := cells3_of ((q1.1.block _ (lt_of_heap HX1.out) (fun e => e)).trans HX1.out)
    go_simp
  simp only [Act.put, List.setIfInBounds_toArray, List.set]
  refine wpG_takeT (i := 2) (v := .pointer (some ⟨w.heap.size + 1, 0, none⟩)) rfl (fun L hc h => (hc.waits (n := 10) (i := 4) (by kernel_rfl) (hc.waits (n := 4) (i := 3) (by kernel_rfl) (hc.waits (n := 3) (i := 2) (by kernel_rfl) h)))) (by kernel_rfl) (fun _ _ _ h => h) hA (.inl ⟨rfl, fun w5 q1 => ?_⟩) ?_
  · go_simp
  simp only [Act.put, List.setIfInBounds_toArray, List.set]
  refine wpG_takeT (i := 3) (v := .int .i64 b0) rfl (fun L hc h => (hc.waits (n := 10) (i := 4) (by kernel_rfl) (hc.waits (n := 4) (i := 3) (by kernel_rfl) h))) (by kernel_rfl) (fun _ _ _ h => h) hA (.inl ⟨rfl, fun w5 q1 => ?_⟩) ?_
  · obtain ⟨c0, c1, c2⟩ := cells3_of ((q1.1.block _ (lt_of_heap HX2.out) (fun e => e)).trans HX2.out)
    go_simp
  simp only [Act.put, List.setIfInBounds_toArray, List.set]
  refine wpG_takeT (i := 5) (v := .pointer (some ⟨w.heap.size, 1, none⟩)) rfl (fun L hc h => (hc.waits (n := 10) (i := 9) (by kernel_rfl) (hc.waits (n := 9) (i := 6) (by kernel_rfl) (hc.waits (n := 6) (i := 5) (by kernel_rfl) h)))) (by kernel_rfl) (fun _ _ _ h => h) hA (.inl ⟨rfl, fun w5 q1 => ?_⟩) ?_
  · go_simp
  simp only [Act.put, List.setIfInBounds_toArray, List.set]
  refine wpG_takeT (i := 6) (v := .int .i64 a1) rfl (fun L hc h => (hc.waits (n := 10) (i := 9) (by kernel_rfl) (hc.waits (n := 9) (i := 6) (by kernel_rfl) h))) (by kernel_rfl) (fun _ _ _ h => h) hA (.inl ⟨rfl, fun w5 q1 => ?_⟩) ?_
  · obtain ⟨c0, c1, c2⟩ := cells3_of ((q1.1.block _ (lt_of_heap HX1.out) (fun e => e)).trans HX1.out)
    go_simp
  simp only [Act.put, List.setIfInBounds_toArray, List.set]
  refine wpG_takeT (i := 7) (v := .pointer (some ⟨w.heap.size + 1, 1, none⟩)) rfl (fun L hc h => (hc.waits (n := 10) (i := 9) (by kernel_rfl) (hc.waits (n := 9) (i := 8) (by kernel_rfl) (hc.waits (n := 8) (i := 7) (by kernel_rfl) h)))) (by kernel_rfl) (fun _ _ _ h => h) hA (.inl ⟨rfl, fun w5 q1 => ?_⟩) ?_
  · go_simp
  simp only [Act.put, List.setIfInBounds_toArray, List.set]
  refine wpG_takeT (i := 8) (v := .int .i64 b1) rfl (fun L hc h => (hc.waits (n := 10) (i := 9) (by kernel_rfl) (hc.waits (n := 9) (i := 8) (by kernel_rfl) h))) (by kernel_rfl) (fun _ _ _ h => h) hA (.inl ⟨rfl, fun w5 q1 => ?_⟩) ?_
  · obtain ⟨c0, c1, c2⟩ := cells3_of ((q1.1.block _ (lt_of_heap HX2.out) (fun e => e)).trans HX2.out)
    go_simp
  simp only [Act.put, List.setIfInBounds_toArray, List.set]
  refine wpG_doIf (i := 4) rfl (by kernel_rfl) rfl (fun K hK => ?_)
  have HKK := Lib.hid hK
  clear hK
  go_step
  refine (cmp_any a0 b0 _).mono ?_
  rintro e w6 ⟨rfl, rfl⟩
  simp only []
  refine HKK.out _ _ hA ?_
  clear HKK
  simp only [Act.put, List.setIfInBounds_toArray, List.set]
  refine wpG_doIf (i := 9) rfl (by kernel_rfl) rfl (fun K hK => ?_)
  have HKK := Lib.hid hK
  clear hK
  go_step
  refine (cmp_any a1 b1 _).mono ?_
  rintro e w6 ⟨rfl, rfl⟩
  simp only []
  refine HKK.out _ _ hA ?_
  clear HKK
  simp only [Act.put, List.setIfInBounds_toArray, List.set]
  refine wpG_tail_lit (k := 10) rfl rfl (by kernel_rfl) ?_
  simp only [List.drop]
  go_wp2_with (go_at_call 212; fail)
  refine (or_any (a := some ⟨wd.heap.size, 0, none⟩) (l := [cmpI a0 b0, cmpI a1 b1]) (c := 2) _ (IntsIn.of_block (t := 3) (alloc_at rfl)) (by simp)).mono ?_
  rintro e w6 ⟨rfl, rfl⟩
  go_wp2
  go_ret
  exact ⟨rfl, HU.out.1.trans (hA.1.alloc _), Nat.le_trans HU.out.2 hA.2⟩
instance : Inhabited RecV := ⟨⟨0, 0, 0⟩⟩
theorem cellsR_len (r : RecV) : r.cells.length = 3 := rfl
theorem cellsR_one (r : RecV) : ∀ v ∈ r.cells, v.oneCell' = true := by
  intro v hv
  simp only [RecV.cells, List.mem_cons, List.mem_nil_iff, or_false] at hv
  rcases hv with rfl | rfl | rfl <;> rfl
def ltR (x y : RecV) : Prop := x.src < y.src ∨ (x.src = y.src ∧ x.key < y.key)
theorem ltOf_cmpR (x y : RecV) : ltOf cmpR x y = true ↔ ltR x y := by
  unfold ltOf ltR
  simp only [cmpR, orI, cmpI]
  (repeat' split) <;> simp at * <;> omega
theorem swoR : SWO (ltOf cmpR) where
  irrefl x := by
    cases h : ltOf cmpR x x with
    | false => rfl
    | true => have := (ltOf_cmpR x x).1 h; unfold ltR at this; omega
  trans x y z h1 h2 := by
    have h1 := (ltOf_cmpR x y).1 h1; have h2 := (ltOf_cmpR y z).1 h2
    exact (ltOf_cmpR x z).2 (by unfold ltR at *; omega)
  ntrans x y z h1 h2 := by
    have h1 : ¬ ltR x y := fun e => by rw [(ltOf_cmpR x y).2 e] at h1; cases h1
    have h2 : ¬ ltR y z := fun e => by rw [(ltOf_cmpR y z).2 e] at h2; cases h2
    cases h : ltOf cmpR x z with
    | false => rfl
    | true => have := (ltOf_cmpR x z).1 h; unfold ltR at *; omega
theorem callCmpR : ∀ args w, (callFunc 133 args).run Tryz.prog w = .ok (.enter 133 args) w := enters_of Tryz.func133 (by kernel_rfl) rfl
theorem cmpLaysR (blk off size : Nat) (w : World) : CmpLays Tryz.prog 133 #[] RecV.cells 3 cmpR blk off size w := fun m os dk _ x y => by
  refine (compare2_any x y (sortWorldK RecV.cells 3 w blk off m dk os)).mono ?_
  rintro e w' ⟨rfl, h⟩
  exact ⟨rfl, h.grow⟩
theorem get!_of' {l : List Value} {c : Nat} {v : Value} (h : l[c]? = some v) : l[c]! = v := by
  rw [List.getElem!_eq_getElem?_getD, h]; rfl
theorem flat3_get (l : List RecV) {t : Nat} (ht : t < l.length * 3) : ∃ r, l[t / 3]? = some r ∧ (flat3 l)[t]? = some ((r.cells)[t % 3]!) := by
  have h1 : t / 3 < l.length := by omega
  refine ⟨l[t / 3], List.getElem?_eq_getElem h1, ?_⟩
  have e : flat3 l = (l.map RecV.cells).flatten := by rw [flat3, List.flatMap_def]
  rw [e, flat_getElem (s := 3) (by omega) t (fun y hy => by obtain ⟨r, _, rfl⟩ := List.mem_map.1 hy; rfl), List.getElem?_map, List.getElem?_eq_getElem h1]
  have h2 : t % 3 < (l[t / 3]).cells.length := by rw [cellsR_len]; omega
  show (l[t / 3]).cells[t % 3]? = _
  rw [List.getElem?_eq_getElem h2]
  rw [List.getElem!_eq_getElem?_getD, List.getElem?_eq_getElem h2]; rfl
theorem holdsR_of {w : World} {B g c : Nat} {l : List RecV} (h : w.ownsRow B 36 3 (.slice (some ⟨g, 0, none⟩) l.length c) l.length (flat3 l)) : HoldsK RecV.cells 3 w g 0 l.toArray := by
  intro t ht
  rw [size_flatK] at ht
  rw [get_flatK _ _ _ _ ht]
  obtain ⟨cur, h1, h2, h3, _⟩ := own_shape h
  obtain ⟨r, hr, hf⟩ := flat3_get l (by simpa using ht)
  have hx := row_cell h (by simp [flat3_length]) hf
  obtain ⟨g', e, hc⟩ := hx
  injection e with e
  injection e with e
  subst e
  have hi : l.toArray[t / 3]! = r := by
    obtain ⟨h4, h5⟩ := List.getElem?_eq_some_iff.1 hr
    rw [getElem!_pos l.toArray _ (by simpa using h4)]
    simpa using h5
  rw [hi, Nat.zero_add]
  exact ⟨by simpa using hc, frozen_of_heap h1⟩
theorem own_of_holds {w : World} {g B n c : Nat} {cur : Array Value} {l : List RecV} (hg : w.heap[g]? = some (.cells cur 36 (0, 0))) (hb : B ≤ g) (hnc : n ≤ c) (hc : c ≤ maxLen) (hs : cur.size = c * 3) (hl : l.length = n) (h : HoldsK RecV.cells 3 w g 0 l.toArray) :
    w.ownsRow B 36 3 (.slice (some ⟨g, 0, none⟩) n c) n (flat3 l) := by
  refine ⟨by rw [flat3_length, hl], .inr ⟨g, c, cur, rfl, hb, hg, hnc, hc, hs, ?_⟩⟩
  apply List.ext_getElem?
  intro t
  by_cases ht : t < n * 3
  · rw [List.getElem?_take_of_lt ht, Array.getElem?_toList]
    have h1 := (h t (by rw [size_flatK]; simpa [hl] using ht)).1
    rw [get_flatK _ _ _ _ (by simpa [hl] using ht), Nat.zero_add, cell_of_heap hg] at h1
    obtain ⟨r, hr, hf⟩ := flat3_get l (by rw [hl]; exact ht)
    have hi : l.toArray[t / 3]! = r := by
      obtain ⟨h4, h5⟩ := List.getElem?_eq_some_iff.1 hr
      rw [getElem!_pos l.toArray _ (by simpa using h4)]
      simpa using h5
    rw [hf, h1, hi]; rfl
  · rw [List.getElem?_eq_none (by simp; omega), List.getElem?_eq_none (by rw [flat3_length, hl]; omega)]
/-- Sorted by keys, as far as that goes. -/
def SortedR (l : List RecV) : Prop := ∀ (i j : Nat) (x y : RecV), i < j → l[i]? = some x → l[j]? = some y → ¬ ltR y x
theorem sortR_any {w : World} {B g c : Nat} {l : List RecV} (h : w.ownsRow B 36 3 (.slice (some ⟨g, 0, none⟩) l.length c) l.length (flat3 l)) (hl : l.length < 4611686018427387904) :
    Calls Tryz.prog 132 #[.slice (some ⟨g, 0, none⟩) l.length c, .func (.func 133) #[] #[]] w fun e w' => e = .returned (.tuple #[]) ∧ ∃ l', l'.Perm l ∧ SortedR l' ∧ w'.ownsRow B 36 3 (.slice (some ⟨g, 0, none⟩) l'.length c) l'.length (flat3 l') ∧ Upd (fun k => k = g) w w' := by
  obtain ⟨cur, h1, h2, h3, h4, h5⟩ := own_shape h
  have hcon := AnyQ.slices_SortFunc Tryz.sortRec 3 (fun w => by kernel_rfl) (fun w => by kernel_rfl) RecV.cells cellsR_len cellsR_one cmpR swoR 133 #[] g 0 c l.toArray w callCmpR (cmpLaysR g 0 l.toArray.size w) (holdsR_of h) (lt_of_heap h1) (by simpa using hl)
  change Calls Tryz.prog 132 _ _ _ at hcon
  rw [show l.toArray.size = l.length by simp] at hcon
  refine hcon.mono ?_
  rintro e w' ⟨rfl, d', n, vs, hp, hs, rfl⟩
  have hsz : d'.size = l.length := by have := hp.1; simpa using this
  have hperm : d'.toList.Perm l := by
    obtain ⟨e1, _, e3⟩ := hp
    have e4 : d'.extract 0 l.length = d' := by rw [← hsz]; simp
    have e5 : l.toArray.extract 0 l.length = l.toArray := by simp
    rw [e4, e5] at e3
    exact e3
  have hheap : (sortWorldK RecV.cells 3 w g 0 n d' vs).heap[g]? = some (.cells (putCells id 0 (flatK RecV.cells 3 d') cur) 36 (0, 0)) := by
    show ((w.heap.modify g (onCells (putCells id 0 (flatK RecV.cells 3 d')))) ++ vs)[g]? = _
    have hg := lt_of_heap h1
    rw [Array.getElem?_append_left (by simpa using hg), Array.getElem?_modify]
    simp [h1, onCells]
  have hH2 : HoldsK RecV.cells 3 (sortWorldK RecV.cells 3 w g 0 n d' vs) g 0 d' := by
    refine holdsK_grow RecV.cells 3 _ vs g 0 d' ?_ (holdsK_putRowK RecV.cells 3 (Sort.ahead w n) g 0 l.toArray d' (holdsK_ahead RecV.cells 3 w n g 0 l.toArray (holdsR_of h)) (by simpa using hsz))
    have := lt_of_heap h1
    simpa [putRowK, putRow, mapBlock] using this
  refine ⟨rfl, d'.toList, hperm, ?_, ?_, ?_⟩
  · intro i j x y hij hx hy
    obtain ⟨hi, hx⟩ := List.getElem?_eq_some_iff.1 hx
    obtain ⟨hj, hy⟩ := List.getElem?_eq_some_iff.1 hy
    have h6 := hs i j (Nat.zero_le _) hij (by simpa [hsz] using hj)
    have hi' : i < d'.size := by simpa using hi
    have hj' : j < d'.size := by simpa using hj
    rw [getElem!_pos d' i hi', getElem!_pos d' j hj'] at h6
    rw [Array.getElem_toList] at hx hy
    rw [hx, hy] at h6
    intro e
    rw [(ltOf_cmpR y x).2 e] at h6
    cases h6
  · have hll : d'.toList.length = l.length := by simpa using hsz
    rw [hll]
    exact own_of_holds hheap h4 h2 h5 (by simp [putCells, h3]) hll hH2
  · refine ⟨rfl, rfl, rfl, ?_, fun j hj hne => ?_⟩
    · simp [sortWorldK, grow, putRowK, putRow, mapBlock]
    · have hs2 : (w.heap.modify g (onCells (putCells id 0 (flatK RecV.cells 3 d')))).size = w.heap.size := by simp
      show ((w.heap.modify g (onCells (putCells id 0 (flatK RecV.cells 3 d')))) ++ vs)[j]? = _
      rw [Array.getElem?_append_left (by omega), Array.getElem?_modify]
      have : ¬ g = j := fun e => hne e.symm
      simp [this]
end Go.Proofs.YtbonfdkgkcbkmaaGreat
end

section
namespace Go.Proofs.YtbonfdkgkcbkmaaGreat
set_option maxRecDepth 100000
open Go.RowKit Go.Shelf

attribute [local go_sem] Oper.semAt_some
theorem appRec' {w : World} {B : Nat} {v : Value} {l : List RecV} (h : w.ownsRow B 36 3 v (0 + l.length) ([] ++ (l.map RecV.cells).flatten)) : ∃ a c, v = .slice a l.length c ∧ OwnR w B (.slice a l.length c) l := by
  rw [Nat.zero_add, List.nil_append, ← List.flatMap_def] at h
  obtain ⟨a, c, rfl⟩ := rowV h
  exact ⟨a, c, rfl, h⟩
theorem one3' (l : List RecV) : ∀ u ∈ (l.map RecV.cells).flatten, u.oneCell' = true := by
  intro u hu
  rw [← List.flatMap_def] at hu
  obtain ⟨r, _, hr⟩ := List.mem_flatMap.1 hu
  exact cellsR_one r u hr
set_option maxHeartbeats 2000000 in
theorem cloneR_any {a : Option Addr} {l : List RecV} {c : Nat} (w : World) (h : RecsIn w a l) (hl : l.length ≤ 1000) :
    Calls Tryz.prog 131 #[.slice a l.length c] w fun e w' => ∃ a' c', e = .returned (.slice a' l.length c') ∧ OwnR w' w.heap.size (.slice a' l.length c') l ∧ Upd0 w w' := by
  cases a with
  | none =>
    have hn : l = [] := by
      match l, h with
      | [], _ => rfl
      | r :: l, h => obtain ⟨_, b, o, e, _⟩ := h 0 r.cells rfl; cases e
    subst hn
    have q22 : (binOp .eql 39 (.slice none 0 c) (.slice none 0 0)).run Tryz.prog w = .ok (.bool true) w := Lib.run_eql_slice_nil w _ _ _ _ _ _ _ Tryz.underlying39
    go_enter Tryz.func131, Tryz.ntmps131
    go_wp2
    go_ret
    exact ⟨none, 0, rfl, World.ownsRow_nil _ _ _ _, Upd.refl _ _⟩
  | some ad =>
    obtain ⟨w1, hw1⟩ : ∃ w1, w1 = w.alloc (.cells #[] 36) := ⟨_, rfl⟩
    have hu1 : Upd0 w w1 := by rw [hw1]; exact (Upd.refl _ w).alloc _
    have HE := Lib.hid (show w1.ownsRow w.heap.size 36 3 (.slice (some ⟨w.heap.size, 0, none⟩) 0 0) 0 [] by rw [hw1]; exact own_empty w 36 3 (Nat.le_refl _))
    have HI := Lib.hid (h.kept hu1)
    have HZ := Lib.hid (show w.heap.size ≤ w1.heap.size from hu1.size)
    have HU := Lib.hid hu1
    have q22 : (binOp .eql 39 (.slice (some ad) l.length c) (.slice none 0 0)).run Tryz.prog w = .ok (.bool false) w := Lib.run_eql_slice_nil w _ _ _ _ _ _ _ Tryz.underlying39
    clear h hu1
    go_enter Tryz.func131, Tryz.ntmps131
    go_wp2_with (at_builtin; obtain ⟨i0, hi, hz0, hs, hb⟩ := info_parts Tryz.info29p; rw [← hw1]; refine wpList_appR rfl (.tmp 5) (.tmp 6) 39 rfl w.heap.size 36 i0 (.agg #[.int .i64 0, .int .i64 0, .int .i64 0]) 3 24 Tryz.underlying39 hi hz0 hs hb rfl (by decide) (.slice (some ⟨w.heap.size, 0, none⟩) 0 0) 0 [] rfl HE.out (some ad) l.length c (l.map RecV.cells) rfl HI.out (by simp) (one3' _) (by unfold maxLen; omega) (by omega) HZ.out ?_; clear hi hz0 hs hb; intro v5 w5 hown5 hu5; obtain ⟨a5, c5, rfl, hi5⟩ := appRec' hown5; clear hown5)
    go_ret
    exact ⟨a5, c5, rfl, hi5, HU.out.cut hu5 (fun j hj => by simp [Value.ownBlock] at hj; omega)⟩

/-! ### Runs of one key: the first alone -/
def compFrom (prev : RecV) : List RecV → List RecV
  | [] => []
  | r :: l => (if sameK r prev then [] else [r]) ++ compFrom r l
def compK : List RecV → List RecV
  | [] => []
  | r :: l => r :: compFrom r l
theorem compFrom_snoc (r : RecV) : ∀ (l : List RecV) (prev : RecV), compFrom prev (l ++ [r]) = compFrom prev l ++ (if sameK r (l.getLastD prev) then [] else [r])
  | [], prev => by simp [compFrom]
  | x :: l, prev => by
    rw [List.cons_append, compFrom, compFrom, compFrom_snoc r l x, List.append_assoc, List.getLastD_cons]
theorem compK_snoc {l : List RecV} {p : RecV} (r : RecV) (hp : l.getLast? = some p) : compK (l ++ [r]) = compK l ++ (if sameK r p then [] else [r]) := by
  match l, hp with
  | x :: l, hp =>
    rw [List.cons_append, compK, compK, compFrom_snoc, List.cons_append]
    have : l.getLastD x = p := by
      cases l <;> simp_all
    rw [this]
theorem compK_next {l : List RecV} {k : Nat} {r p : RecV} (hr : l[k + 1]? = some r) (hp : l[k]? = some p) : compK (l.take (k + 2)) = compK (l.take (k + 1)) ++ (if sameK r p then [] else [r]) := by
  rw [take_cons' hr]
  refine compK_snoc r ?_
  rw [take_cons' hp]
  simp
theorem compK_len : ∀ (l : List RecV), (compK l).length ≤ l.length
  | [] => by simp [compK]
  | r :: l => by
    have aux : ∀ (l : List RecV) (p : RecV), (compFrom p l).length ≤ l.length := by
      intro l
      induction l with
      | nil => intro p; simp [compFrom]
      | cons x l ih =>
        intro p
        have := ih x
        rw [compFrom, List.length_append, List.length_cons]
        split <;> simp <;> omega
    have := aux l r
    simp only [compK, List.length_cons]; omega
theorem own_past {w : World} {B g m c s o : Nat} {e : TypeId} {xs vs : List Value} (h : w.ownsRow B e s (.slice (some ⟨g, 0, none⟩) m c) m xs) (ho : m * s ≤ o) : (w.setCells g o vs).ownsRow B e s (.slice (some ⟨g, 0, none⟩) m c) m xs := by
  rcases h.2 with ⟨h1, _⟩ | ⟨g', cap, cur, h1, h2, h3, h4, h5, h6, h7⟩
  · cases h1
  · injection h1 with e1 _ e3
    injection e1 with e1
    injection e1 with e1
    subst e1 e3
    obtain ⟨cur', k1, k2, k3, _⟩ := setCells_blk vs o w cur h3
    refine ⟨h.1, .inr ⟨g, c, cur', rfl, h2, k1, h4, h5, by omega, ?_⟩⟩
    rw [← h7]
    apply List.ext_getElem?
    intro j
    by_cases hj : j < m * s
    · rw [List.getElem?_take_of_lt hj, List.getElem?_take_of_lt hj, Array.getElem?_toList, Array.getElem?_toList, k3 j (.inl (by omega))]
    · rw [List.getElem?_eq_none (by simp; omega), List.getElem?_eq_none (by simp; omega)]
theorem flat3_map (l : List RecV) : flat3 l = (l.map RecV.cells).flatten := by rw [flat3, List.flatMap_def]
theorem mapR_lens (l : List RecV) : ∀ y ∈ l.map RecV.cells, y.length = 3 := fun y hy => by obtain ⟨r, _, rfl⟩ := List.mem_map.1 hy; rfl
theorem own_put3 {w : World} {B g n c i : Nat} {l : List RecV} {r : RecV} (h : w.ownsRow B 36 3 (.slice (some ⟨g, 0, none⟩) n c) n (flat3 l)) (hn : l.length = n) (hi : i < n) :
    (w.setCells g (i * 3) r.cells).ownsRow B 36 3 (.slice (some ⟨g, 0, none⟩) n c) n (flat3 (l.set i r)) := by
  rw [flat3_map] at h ⊢
  rw [List.map_set]
  exact own_setR (by omega) h (mapR_lens l) (by simpa using hn) rfl hi
theorem own_cut3 {w : World} {B g n m c : Nat} {l : List RecV} (h : w.ownsRow B 36 3 (.slice (some ⟨g, 0, none⟩) n c) n (flat3 l)) (hn : l.length = n) (hm : m ≤ n) :
    w.ownsRow B 36 3 (.slice (some ⟨g, 0, none⟩) m c) m (flat3 (l.take m)) := by
  rw [flat3_map] at h ⊢
  rw [List.map_take]
  exact own_cut h (mapR_lens l) (by simpa using hn) hm
/-- An element of a row of one's own. -/
theorem own_at3 {w : World} {B g n c i : Nat} {l : List RecV} {r : RecV} (h : w.ownsRow B 36 3 (.slice (some ⟨g, 0, none⟩) n c) n (flat3 l)) (hn : l.length = n) (hi : l[i]? = some r) :
    w.cell? ⟨g, i * 3, none⟩ = some (.int .i64 r.src) ∧ w.cell? ⟨g, i * 3 + 1, none⟩ = some (.int .i64 r.key) ∧ w.cell? ⟨g, i * 3 + 2, none⟩ = some (.int .i64 r.val) := by
  obtain ⟨b, f, e, h0, h1, h2⟩ := (OwnR.in' h hn.symm).at hi
  injection e with e
  injection e with e1 e2
  subst e1 e2
  rw [Nat.zero_add] at h0 h1 h2
  exact ⟨h0, h1, h2⟩

/-- Phase two: what stands in the row. -/
structure CpR (w : World) (B g c k0 : Nat) (l : List RecV) (j m : Nat) (W : World) : Prop where
  meq : m = (compK (l.take (k0 + j))).length
  lt : m < k0 + j
  row : W.ownsRow B 36 3 (.slice (some ⟨g, 0, none⟩) l.length c) l.length (flat3 (compK (l.take (k0 + j)) ++ l.drop m))
  upd : Upd (fun k => k = g) w W
theorem CpR.at {w : World} {B g c k0 : Nat} {l : List RecV} {j m : Nat} {W : World} (h : CpR w B g c k0 l j m W) {i : Nat} {r : RecV} (hi : m ≤ i) (hr : l[i]? = some r) : (compK (l.take (k0 + j)) ++ l.drop m)[i]? = some r := by
  rw [List.getElem?_append_right (by rw [← h.meq]; exact hi), ← h.meq, List.getElem?_drop, show m + (i - m) = i by omega, hr]
theorem CpR.len {w : World} {B g c k0 : Nat} {l : List RecV} {j m : Nat} {W : World} (h : CpR w B g c k0 l j m W) (hj : k0 + j ≤ l.length) : (compK (l.take (k0 + j)) ++ l.drop m).length = l.length := by
  have := h.lt
  rw [List.length_append, ← h.meq, List.length_drop]; omega
theorem CpR.kept0 {w : World} {B g c k0 : Nat} {l : List RecV} {j m : Nat} {W W' : World} (h : CpR w B g c k0 l j m W) (hu : Upd0 W W') : CpR w B g c k0 l j m W' :=
  ⟨h.meq, h.lt, ownsRow_any h.row hu (fun _ _ e => e), h.upd.trans (hu.mono (fun _ _ e => e.elim))⟩
theorem CpR.skip {w : World} {B g c k0 : Nat} {l : List RecV} {j m : Nat} {W : World} {r p : RecV} (h : CpR w B g c k0 l (j + 1) m W) (hr : l[k0 + (j + 1)]? = some r) (hp : l[k0 + j]? = some p) (hs : sameK r p = true) : CpR w B g c k0 l (j + 1 + 1) m W := by
  have e : compK (l.take (k0 + (j + 1 + 1))) = compK (l.take (k0 + (j + 1))) := by
    have := compK_next (l := l) (k := k0 + j) (r := r) (p := p) (by rw [← hr]; rfl) hp
    rw [hs, if_pos rfl, List.append_nil] at this
    exact this
  exact ⟨by rw [e]; exact h.meq, by have := h.lt; omega, by rw [e]; exact h.row, h.upd⟩
theorem CpR.put {w : World} {B g c k0 : Nat} {l : List RecV} {j m : Nat} {W : World} {r p : RecV} (h : CpR w B g c k0 l (j + 1) m W) (hr : l[k0 + (j + 1)]? = some r) (hp : l[k0 + j]? = some p) (hs : sameK r p = false) :
    CpR w B g c k0 l (j + 1 + 1) (m + 1) (W.setCells g (m * 3) r.cells) := by
  have e : compK (l.take (k0 + (j + 1 + 1))) = compK (l.take (k0 + (j + 1))) ++ [r] := by
    have := compK_next (l := l) (k := k0 + j) (r := r) (p := p) (by rw [← hr]; rfl) hp
    rw [hs] at this
    exact this
  have hkl := (List.getElem?_eq_some_iff.1 hr).1
  have hlt := h.lt
  have hlen := h.len (by omega)
  obtain ⟨y, hy⟩ : ∃ y, l[m]? = some y := ⟨_, List.getElem?_eq_getElem (by omega)⟩
  refine ⟨by rw [e, List.length_append, ← h.meq]; rfl, by omega, ?_, h.upd.trans (upd_setCells _ _ _ _)⟩
  have hput := own_put3 (i := m) (r := r) h.row hlen (by omega)
  have e2 : (compK (l.take (k0 + (j + 1))) ++ l.drop m).set m r = compK (l.take (k0 + (j + 1 + 1))) ++ l.drop (m + 1) := by
    rw [e, List.set_append_right _ _ (by rw [← h.meq]; exact Nat.le_refl _), ← h.meq, Nat.sub_self, drop_cons' hy, List.set_cons_zero, List.append_assoc]
    rfl
  rw [e2] at hput
  exact hput
theorem callSame : ∀ args w, (callFunc 67 args).run Tryz.prog w = .ok (.enter 67 args) w := enters_of Tryz.func67 (by kernel_rfl) rfl
set_option maxHeartbeats 8000000 in
theorem compactR_any {w : World} {B g c : Nat} {l : List RecV} (h : w.ownsRow B 36 3 (.slice (some ⟨g, 0, none⟩) l.length c) l.length (flat3 l)) (hl : l.length ≤ 1000) :
    Calls Tryz.prog 134 #[.slice (some ⟨g, 0, none⟩) l.length c, .func (.func 67) #[] #[]] w fun e w' => e = .returned (.slice (some ⟨g, 0, none⟩) (compK l).length c) ∧ w'.ownsRow B 36 3 (.slice (some ⟨g, 0, none⟩) (compK l).length c) (compK l).length (flat3 (compK l)) ∧ Upd (fun k => k = g) w w' := by
  obtain ⟨n, hn⟩ : ∃ n, n = l.length := ⟨_, rfl⟩
  have HN := Lib.hid hn
  have H := Lib.hid h
  obtain ⟨cur, _, hc1, _, _, hc2⟩ := own_shape h
  rw [← hn] at hl hc1 ⊢
  unfold maxLen at hc2
  have HS := Lib.hid callSame
  clear h hn
  by_cases h2 : n < 2
  · have h2' : (n : Int) < 2 := by omega
    have hk : compK l = l := by
      have := HN.out
      match l, this with
      | [], _ => rfl
      | [r], _ => rfl
      | _ :: _ :: _, e => simp at e; omega
    go_enter Tryz.func134, Tryz.ntmps134
    go_wp2
    go_ret
    rw [hk, ← HN.out]
    have := H.out
    rw [← HN.out] at this
    exact ⟨rfl, this, Upd.refl _ _⟩
  · have h2' : ¬ (n : Int) < 2 := by omega
    go_enter Tryz.func134, Tryz.ntmps134
    go_wp2
    go_loopw [5] (fun i wr => ∃ k : Nat, k + 1 ≤ n ∧ i = .int .i64 (k + 1 : Nat) ∧ Hid (compK (l.take (k + 1)) = l.take (k + 1)) ∧ Hid (Upd0 w wr)) (fun i _ => n - (intOf i).toNat)
    case atStart => exact ⟨0, by omega, rfl, Lib.hid (by
      have := HN.out
      match l, this with
      | [], e => simp at e; omega
      | r :: l, _ => rfl), Lib.hid (Upd.refl _ _)⟩
    case round =>
      obtain ⟨k, hk, rfl, HK, HU⟩ := hrel
      by_cases hlt : k + 1 < n
      · obtain ⟨r, hr⟩ : ∃ r, l[k + 1]? = some r := ⟨_, List.getElem?_eq_getElem (by rw [← HN.out]; exact hlt)⟩
        obtain ⟨p, hp⟩ : ∃ p, l[k]? = some p := ⟨_, List.getElem?_eq_getElem (by rw [← HN.out]; omega)⟩
        have HO := Lib.hid (ownsRow_any H.out HU.out (fun _ _ e => e))
        obtain ⟨c0, c1, c2⟩ := own_at3 HO.out rfl hr
        obtain ⟨d0, d1, d2⟩ := own_at3 HO.out rfl hp
        have HR := Lib.hid hr; have HP := Lib.hid hp
        clear hr hp
        go_upto_region 6 with fail
        have hk1 : IntKind.i64.wrap (k : Int) = k := by rw [IntKind.wrap_i64]; omega
        have hk2 : (k : Int) < n := by omega
        have hi0 : (0 : Int) ≤ (k : Int) + 1 := by omega
        have hi1 : ((k : Int) + 1).toNat = k + 1 := by omega
        have hi2 : (k : Int) + 1 < n := by omega
        go_still_tail 10, (by kernel_rfl)
        go_wp2_with (go_at_call 67; fail)
        refine (samekey_any r p _).mono ?_
        rintro _ w2 ⟨rfl, hu2⟩
        have HU2 := Lib.hid ((HU.out.trans (Upd.refl _ _).drew).trans hu2)
        have HO2 := Lib.hid (ownsRow_any H.out HU2.out (fun _ _ e => e))
        clear hu2 c0 c1 c2 d0 d1 d2 hk1
        simp only []
        cases hs : sameK r p with
        | false =>
          have HS1 := Lib.hid hs
          clear hs
          go_wp2
          go_roundw
          case rel => exact ⟨k + 1, by omega, by go_num, Lib.hid (by rw [compK_next HR.out HP.out, HS1.out, HK.out, take_cons' HR.out]; rfl), HU2⟩
          case measure => simp [intOf]; omega
        | true =>
          have HCP := Lib.hid (show CpR w B g c (k + 1) l 1 (k + 1) w2 from ⟨by
              have := compK_next HR.out HP.out
              rw [hs, if_pos rfl, List.append_nil, HK.out] at this
              show k + 1 = (compK (l.take (k + 2))).length
              rw [this, List.length_take, ← HN.out]; omega, by omega, by
              have := compK_next HR.out HP.out
              rw [hs, if_pos rfl, List.append_nil, HK.out] at this
              show World.ownsRow _ _ _ _ _ _ (flat3 (compK (l.take (k + 2)) ++ _))
              rw [this, List.take_append_drop]
              exact HO2.out, HU2.out.mono (fun _ _ e => e.elim)⟩)
          have hkc : k + 1 < c := by omega
          have hkc2 : ¬ c = k + 1 := by omega
          have hlen : n - (k + 1) + (k + 1) = n := by omega
          clear hs HK HU HO HU2 HO2
          go_wp2
          obtain ⟨q, hq⟩ : ∃ q, q = n - (k + 1) := ⟨_, rfl⟩
          obtain ⟨qc, hqc⟩ : ∃ qc, qc = c - (k + 1) := ⟨_, rfl⟩
          rw [← hq, ← hqc]
          have hq1 : k + 1 + q = n := by omega
          have HQC := Lib.hid hqc
          clear hq hqc hlen hkc hkc2 hk2 hi0 hi1 hi2
          obtain ⟨wo, rfl⟩ : ∃ wo : World, wo = wr := ⟨_, rfl⟩
          go_loopw [5, 7] (fun tm tj wr => ∃ m j : Nat, j + 1 ≤ q ∧ tm = .int .i64 m ∧ tj = .int .i64 (j + 1 : Nat) ∧ Hid (CpR w B g c (k + 1) l (j + 1) m wr)) (fun _ tj _ => q - (intOf tj).toNat)
          case atStart => exact ⟨k + 1, 0, by omega, by go_num, by go_num, HCP⟩
          case round =>
            obtain ⟨m, j, hj, rfl, rfl, HC⟩ := hrel
            have hml := HC.out.lt
            by_cases hlt2 : j + 1 < q
            · obtain ⟨r', hr'⟩ : ∃ r', l[k + 1 + (j + 1)]? = some r' := ⟨_, List.getElem?_eq_getElem (by rw [← HN.out]; omega)⟩
              obtain ⟨p', hp'⟩ : ∃ p', l[k + 1 + j]? = some p' := ⟨_, List.getElem?_eq_getElem (by rw [← HN.out]; omega)⟩
              have hln := HC.out.len (by rw [← HN.out]; omega)
              obtain ⟨c0, c1, c2⟩ := own_at3 HC.out.row hln (HC.out.at (by omega) hr')
              obtain ⟨d0, d1, d2⟩ := own_at3 HC.out.row hln (HC.out.at (by omega) hp')
              rw [show (k + 1 + (j + 1)) * 3 = (k + 1) * 3 + (j + 1) * 3 by omega] at c0 c1 c2
              rw [show (k + 1 + j) * 3 = (k + 1) * 3 + j * 3 by omega] at d0 d1 d2
              have HR' := Lib.hid hr'; have HP' := Lib.hid hp'
              have hk1 : IntKind.i64.wrap (j : Int) = j := by rw [IntKind.wrap_i64]; omega
              have hk2 : (j : Int) < q := by omega
              have hi0 : (0 : Int) ≤ (j : Int) + 1 := by omega
              have hi1 : ((j : Int) + 1).toNat = j + 1 := by omega
              have hi2 : (j : Int) + 1 < q := by omega
              clear hr' hp' hln
              go_upto_region 11 with fail
              go_still_tail 10, (by kernel_rfl)
              go_wp2_with (go_at_call 67; fail)
              refine (samekey_any r' p' _).mono ?_
              rintro _ w2 ⟨rfl, hu2⟩
              have hu2' := ((Upd.refl (fun _ => False) wr).drew).trans hu2
              have HC2 := Lib.hid (HC.out.kept0 hu2')
              clear hu2 hu2' c0 c1 c2 d0 d1 d2 hk1 hk2
              simp only []
              cases hs : sameK r' p' with
              | true =>
                have HC3 := Lib.hid (HC2.out.skip HR'.out HP'.out hs)
                clear hs
                go_wp2
                go_roundw
                case rel => exact ⟨m, j + 1, by omega, rfl, by go_num, HC3⟩
                case measure => simp [intOf]; omega
              | false =>
                have HC3 := Lib.hid (HC2.out.put HR'.out HP'.out hs)
                have hln := HC2.out.len (by rw [← HN.out]; omega)
                obtain ⟨c0, c1, c2⟩ := own_at3 HC2.out.row hln (HC2.out.at (by omega) HR'.out)
                rw [show (k + 1 + (j + 1)) * 3 = (k + 1) * 3 + (j + 1) * 3 by omega] at c0 c1 c2
                obtain ⟨y, hy⟩ : ∃ y, l[m]? = some y := ⟨_, List.getElem?_eq_getElem (by rw [← HN.out]; omega)⟩
                obtain ⟨e0, e1, e2⟩ := own_at3 HC2.out.row hln (HC2.out.at (Nat.le_refl _) hy)
                obtain ⟨cur2, hcur, _⟩ := own_shape HC2.out.row
                have ff : ∀ i, w2.frozen? ⟨g, i, none⟩ = false := fun i => frozen_of_heap hcur
                have f0 := ff (m * 3); have f1 := ff (m * 3 + 1); have f2 := ff (m * 3 + 2)
                have hmn : m < n := by omega
                have hmn2 : (m : Int) < n := by omega
                clear hs hln hy hcur ff
                go_upto_region 13 with fail
                obtain ⟨W3, hW3⟩ : ∃ W3, W3 = ((w2.setCell ⟨g, m * 3, none⟩ (.int .i64 r'.src)).setCell ⟨g, m * 3 + 1, none⟩ (.int .i64 r'.key)).setCell ⟨g, m * 3 + 2, none⟩ (.int .i64 r'.val) := ⟨_, rfl⟩
                have HC4 : Hid (CpR w B g c (k + 1) l (j + 1 + 1) (m + 1) W3) := by rw [hW3]; exact HC3
                rw [← hW3]
                clear hW3 HC3 c0 c1 c2 e0 e1 e2 f0 f1 f2
                go_wp2
                go_roundw
                case rel => exact ⟨m + 1, j + 1, by omega, by go_num, by go_num, HC4⟩
                case measure => simp [intOf]; omega
            · obtain rfl : q = j + 1 := by omega
              have hmn : m < n := by omega
              have hmc : m < c := by omega
              have hmc2 : ¬ c = m := by omega
              have hkl : l.take (k + 1 + (j + 1)) = l := List.take_of_length_le (by rw [← HN.out]; omega)
              have hln := HC.out.len (by rw [← HN.out]; omega)
              have hmq := HC.out.meq
              rw [hkl] at hmq
              have hrow := HC.out.row
              rw [hkl] at hrow hln
              have HMQ := Lib.hid hmq
              have hcut := own_cut3 (m := m) hrow hln (by rw [← HN.out]; omega)
              rw [List.take_append_of_le_length (by omega), List.take_of_length_le (by omega)] at hcut
              obtain ⟨cur2, hcur, hcc, hcs, _, _⟩ := own_shape hrow
              have hth : wr.there g (m * 3) ((n - m) * 3) := fun i hi => by
                refine ⟨?_, frozen_of_heap hcur⟩
                have hb : m * 3 + i < cur2.size := by omega
                rw [cell_of_heap hcur, Array.getElem?_eq_getElem hb]; rfl
              obtain ⟨Z, hZ⟩ : ∃ Z, Z = (Builtin.zeroCells (Value.agg #[.int .i64 0, .int .i64 0, .int .i64 0]).cells (n - m)).toList := ⟨_, rfl⟩
              have hcl : (Builtin.clear_ #[39] 0 #[.slice (some ⟨g, m * 3, none⟩) (n - m) (c - m)]).run Tryz.prog wr = .ok (.tuple #[]) (wr.setCells g (m * 3) Z) := by
                rw [hZ]
                exact run_clear_cells wr _ 36 _ _ Tryz.underlying39 (fun w => by kernel_rfl) (fun v hv => by simp [Value.cells] at hv; subst hv; rfl) g (m * 3) (n - m) (c - m) (by omega) hth
              have HE := Lib.hid (own_past (vs := Z) hcut (Nat.le_refl _))
              have HU := Lib.hid (HC.out.upd.trans (upd_setCells wr g (m * 3) Z))
              clear hZ hth hcur hcc hcs hcut hrow hln hmq hkl
              go_wp2
              go_ret
              have e := HMQ.out
              subst e
              exact ⟨rfl, HE.out, HU.out⟩
      · go_wp2
        go_ret
        rw [List.take_of_length_le (by rw [← HN.out]; omega)] at HK
        rw [HK.out, ← HN.out]
        have := ownsRow_any H.out HU.out (fun _ _ e => e)
        rw [← HN.out] at this
        exact ⟨rfl, this, HU.out.mono (fun _ _ e => e.elim)⟩
end Go.Proofs.YtbonfdkgkcbkmaaGreat
end

section
namespace Go.Proofs.YtbonfdkgkcbkmaaGreat
set_option maxRecDepth 100000
open Go.RowKit Go.Shelf

attribute [local go_sem] Oper.semAt_some
/-! ### The keys of an input -/
def key0 (r : RecV) : RecV := ⟨r.src, r.key, 0⟩
def keys1 (x : InM) : List RecV := ((List.range 32).filter fun k : Nat => x.recs.any fun r => r.key == (k : Int)).map fun k : Nat => ⟨x.src, (k : Int), 0⟩
def keysL (xs : List InM) : List RecV := xs.flatMap keys1
theorem sorted_ext : ∀ (l m : List Int), l.Pairwise (· < ·) → m.Pairwise (· < ·) → (∀ x, x ∈ l ↔ x ∈ m) → l = m
  | [], [], _, _, _ => rfl
  | [], y :: m, _, _, h => by have := (h y).2 (by simp); simp at this
  | x :: l, [], _, _, h => by have := (h x).1 (by simp); simp at this
  | x :: l, y :: m, hl, hm, h => by
    rw [List.pairwise_cons] at hl hm
    have e : x = y := by
      rcases List.mem_cons.1 ((h x).1 (by simp)) with h1 | h1
      · exact h1
      · rcases List.mem_cons.1 ((h y).2 (by simp)) with h2 | h2
        · exact h2.symm
        · have := hl.1 y h2; have := hm.1 x h1; omega
    subst e
    rw [sorted_ext l m hl.2 hm.2 (fun z => ⟨fun hz => by
      rcases List.mem_cons.1 ((h z).1 (by simp [hz])) with h1 | h1
      · subst h1; have := hl.1 z hz; omega
      · exact h1, fun hz => by
      rcases List.mem_cons.1 ((h z).2 (by simp [hz])) with h1 | h1
      · subst h1; have := hm.1 z hz; omega
      · exact h1⟩)]
theorem compFrom_law {s : Int} : ∀ (l : List RecV) (prev : RecV), prev.src = s → (∀ r ∈ l, r.src = s) → (prev :: l).Pairwise (fun x y => x.key ≤ y.key) →
    (compFrom prev l).Pairwise (fun x y => x.key < y.key) ∧ (∀ r ∈ compFrom prev l, prev.key < r.key ∧ r ∈ l) ∧ (∀ r ∈ l, r.key = prev.key ∨ ∃ y ∈ compFrom prev l, y.key = r.key)
  | [], prev, _, _, _ => ⟨by simp [compFrom], by simp [compFrom], by simp⟩
  | x :: l, prev, hp, hl, hs => by
    rw [List.pairwise_cons] at hs
    obtain ⟨h1, h2⟩ := hs
    have hx := h1 x (by simp)
    obtain ⟨i1, i2, i3⟩ := compFrom_law l x (hl x (by simp)) (fun r hr => hl r (by simp [hr])) h2
    rw [compFrom]
    cases hk : sameK x prev with
    | true =>
      have e : x.key = prev.key := by
        simp only [sameK, Bool.and_eq_true, beq_iff_eq] at hk
        exact hk.2
      simp only [if_true, List.nil_append]
      refine ⟨i1, fun r hr => ?_, fun r hr => ?_⟩
      · have := i2 r hr; exact ⟨by omega, by simp [this.2]⟩
      · rcases List.mem_cons.1 hr with rfl | hr
        · exact .inl e
        · rcases i3 r hr with h | h
          · exact .inl (by omega)
          · exact .inr h
    | false =>
      have e : prev.key < x.key := by
        have : x.key ≠ prev.key := fun e => by
          have hxs := hl x (by simp)
          simp [sameK, e, hxs, hp] at hk
        omega
      simp only [Bool.false_eq_true, if_false, List.singleton_append]
      refine ⟨by rw [List.pairwise_cons]; exact ⟨fun r hr => (i2 r hr).1, i1⟩, fun r hr => ?_, fun r hr => ?_⟩
      · rcases List.mem_cons.1 hr with rfl | hr
        · exact ⟨e, by simp⟩
        · have := i2 r hr; exact ⟨by omega, by simp [this.2]⟩
      · rcases List.mem_cons.1 hr with rfl | hr
        · exact .inr ⟨r, by simp, rfl⟩
        · rcases i3 r hr with h | ⟨y, hy, he⟩
          · exact .inr ⟨x, by simp, h.symm⟩
          · exact .inr ⟨y, by simp [hy], he⟩
theorem compK_law {s : Int} {l : List RecV} (hl : ∀ r ∈ l, r.src = s) (hs : l.Pairwise (fun x y => x.key ≤ y.key)) :
    (compK l).Pairwise (fun x y => x.key < y.key) ∧ (∀ r ∈ compK l, r ∈ l) ∧ (∀ r ∈ l, ∃ y ∈ compK l, y.key = r.key) := by
  match l with
  | [] => exact ⟨by simp [compK], by simp [compK], by simp⟩
  | x :: l =>
    obtain ⟨i1, i2, i3⟩ := compFrom_law l x (hl x (by simp)) (fun r hr => hl r (by simp [hr])) hs
    rw [compK]
    refine ⟨by rw [List.pairwise_cons]; exact ⟨fun r hr => (i2 r hr).1, i1⟩, fun r hr => ?_, fun r hr => ?_⟩
    · rcases List.mem_cons.1 hr with rfl | hr
      · simp
      · simp [(i2 r hr).2]
    · rcases List.mem_cons.1 hr with rfl | hr
      · exact ⟨r, by simp, rfl⟩
      · rcases i3 r hr with h | ⟨y, hy, he⟩
        · exact ⟨x, by simp, h.symm⟩
        · exact ⟨y, by simp [hy], he⟩
theorem range_rises : ∀ n : Nat, (List.range n).Pairwise (· < ·) := fun n => List.pairwise_lt_range
theorem keys1_of {x : InM} {l : List RecV} (hin : chkIn x = 0) (hp : l.Perm x.recs) (hs : SortedR l) : (compK l).map key0 = keys1 x := by
  obtain ⟨_, _, _, hr⟩ := chkIn_zero hin
  have hl : ∀ r ∈ l, (0 ≤ r.key ∧ r.key < 32) ∧ r.src = x.src := fun r h => hr r (hp.mem_iff.1 h)
  have hsp : l.Pairwise (fun a b => a.key ≤ b.key) := by
    rw [List.pairwise_iff_getElem]
    intro i j hi hj hij
    have h1 := hs i j l[i] l[j] hij (List.getElem?_eq_getElem hi) (List.getElem?_eq_getElem hj)
    have h2 := (hl l[i] (List.getElem_mem hi)).2
    have h3 := (hl l[j] (List.getElem_mem hj)).2
    unfold ltR at h1
    omega
  obtain ⟨c1, c2, c3⟩ := compK_law (fun r h => (hl r h).2) hsp
  have hmap : (compK l).map key0 = ((compK l).map (·.key)).map fun k => (⟨x.src, k, 0⟩ : RecV) := by
    rw [List.map_map]
    apply List.map_congr_left
    intro r hr
    simp [key0, (hl r (c2 r hr)).2]
  have hk : (compK l).map (·.key) = ((List.range 32).filter fun k : Nat => x.recs.any fun r => r.key == (k : Int)).map fun k : Nat => (k : Int) := by
    apply sorted_ext
    · rw [List.pairwise_map]; exact c1
    · rw [List.pairwise_map]
      exact ((range_rises 32).filter _).imp (fun h => by omega)
    · intro z
      constructor
      · intro hz
        obtain ⟨r, hr, rfl⟩ := List.mem_map.1 hz
        have h1 := hl r (c2 r hr)
        refine List.mem_map.2 ⟨r.key.toNat, ?_, by omega⟩
        rw [List.mem_filter]
        refine ⟨by rw [List.mem_range]; omega, List.any_eq_true.2 ⟨r, hp.mem_iff.1 (c2 r hr), by simp; omega⟩⟩
      · intro hz
        obtain ⟨k, hk, rfl⟩ := List.mem_map.1 hz
        rw [List.mem_filter] at hk
        obtain ⟨r, hr, he⟩ := List.any_eq_true.1 hk.2
        obtain ⟨y, hy, hye⟩ := c3 r (hp.mem_iff.2 hr)
        simp only [beq_iff_eq] at he
        exact List.mem_map.2 ⟨y, hy, by omega⟩
  rw [hmap, hk, List.map_map]
  rfl
theorem keysL_take {xs : List InM} {k : Nat} {x : InM} (h : xs[k]? = some x) : keysL (xs.take (k + 1)) = keysL (xs.take k) ++ keys1 x := by
  rw [take_cons' h, keysL, keysL, List.flatMap_append]
  simp
theorem keysL_split {xs : List InM} {k : Nat} {x : InM} (h : xs[k]? = some x) : keysL xs = keysL (xs.take k) ++ keys1 x ++ keysL (xs.drop (k + 1)) := by
  conv => lhs; rw [← List.take_append_drop (k + 1) xs]
  rw [keysL, List.flatMap_append]
  show keysL _ ++ keysL _ = _
  rw [keysL_take h]

/-! ### Sorted and compacted, whoever's slice that is -/
theorem sortR_own {w : World} {B c : Nat} {a : Option Addr} {l : List RecV} (h : OwnR w B (.slice a l.length c) l) (hl : l.length ≤ 1000) :
    Calls Tryz.prog 132 #[.slice a l.length c, .func (.func 133) #[] #[]] w fun e w' => e = .returned (.tuple #[]) ∧ ∃ l', l'.Perm l ∧ SortedR l' ∧ OwnR w' B (.slice a l'.length c) l' ∧ Upd (fun k => (Value.slice a l.length c).ownBlock = some k) w w' := by
  rcases h.2 with ⟨h1, h2⟩ | ⟨g, cap, cur, h1, _⟩
  · injection h1 with e1 e2 e3
    subst e1 e3
    have hn : l = [] := List.length_eq_zero_iff.1 h2
    subst hn
    refine (AnyF.slices_SortFunc_none Tryz.sortRec none 0 _ w).mono ?_
    rintro e w' ⟨rfl, rfl⟩
    exact ⟨rfl, [], List.Perm.refl _, fun i j x y _ hx => by simp at hx, h, Upd.refl _ _⟩
  · injection h1 with e1 e2 e3
    subst e1 e3
    refine (sortR_any h (by omega)).mono ?_
    rintro e w' ⟨rfl, l', h3, h4, h5, h6⟩
    exact ⟨rfl, l', h3, h4, h5, h6.mono (fun k _ e => by simp [Value.ownBlock, e])⟩
theorem compact_nil {f : Value} {c : Nat} (w : World) : Calls Tryz.prog 134 #[.slice none 0 c, f] w fun e w' => e = .returned (.slice none 0 c) ∧ w = w' := by
  go_enter Tryz.func134, Tryz.ntmps134
  go_wp2
  go_ret
  exact ⟨rfl, rfl⟩
theorem compactR_own {w : World} {B c : Nat} {a : Option Addr} {l : List RecV} (h : OwnR w B (.slice a l.length c) l) (hl : l.length ≤ 1000) :
    Calls Tryz.prog 134 #[.slice a l.length c, .func (.func 67) #[] #[]] w fun e w' => e = .returned (.slice a (compK l).length c) ∧ OwnR w' B (.slice a (compK l).length c) (compK l) ∧ Upd (fun k => (Value.slice a l.length c).ownBlock = some k) w w' := by
  rcases h.2 with ⟨h1, h2⟩ | ⟨g, cap, cur, h1, _⟩
  · injection h1 with e1 e2 e3
    subst e1 e3
    have hn : l = [] := List.length_eq_zero_iff.1 h2
    subst hn
    refine (compact_nil w).mono ?_
    rintro e w' ⟨rfl, rfl⟩
    exact ⟨rfl, h, Upd.refl _ _⟩
  · injection h1 with e1 e2 e3
    subst e1 e3
    refine (compactR_any h hl).mono ?_
    rintro e w' ⟨rfl, h5, h6⟩
    exact ⟨rfl, h5, h6.mono (fun k _ e => by simp [Value.ownBlock, e])⟩
theorem all_any {oa xa : Option Addr} {os xs oc xc : Nat} (w : World) : Calls Tryz.prog 58 #[.agg #[.slice oa os oc, .slice xa xs xc]] w fun e w' => e = .returned (.func (.func 130) #[] #[.pointer (some ⟨w.heap.size, 0, none⟩)]) ∧ w' = w.alloc (.cells #[.slice oa os oc, .slice xa xs xc] 27) := by
  go_enter Tryz.func58, Tryz.ntmps58
  go_wp2
  go_ret
  exact ⟨rfl, rfl⟩
theorem own_head {w : World} {B n c s : Nat} {e : TypeId} {a : Option Addr} {vs : List Value} (h : w.ownsRow B e s (.slice a n c) n vs) (hn : 0 < n) : ∃ g, a = some ⟨g, 0, none⟩ := by
  rcases h.2 with ⟨_, h2⟩ | ⟨g, cap, cur, h1, _⟩
  · omega
  · injection h1 with e1
    exact ⟨g, e1⟩
set_option maxHeartbeats 8000000 in
theorem all1_any {oa xa : Option Addr} {os : List OpM} {xs : List InM} {oc xc wk B : Nat} (G : World → Prop) (hG : ∀ W, G W → WkIn W oa os oc xa xs ∧ W.heap[wk]? = some (.cells #[.slice oa os.length oc, .slice xa xs.length xc] 27 (0, 0)) ∧ B ≤ W.heap.size) (hG0 : ∀ W W', G W → Upd0 W W' → G W') (hin : ∀ x ∈ xs, chkIn x = 0) {Φb : Nat → TypeId → Prop} (hGb : ∀ W W', G W → UpdT Φb W W' → G W') (hB : ∀ k t, Φb k t → t ≠ 36)
    (l : Nat) (J : List RecV → World → Prop) (Jx : World → Prop) (W : World) (hu0 : G W) (h0 : J [] W) (hJ : ∀ pre W W', B ≤ W.heap.size → J pre W → Upd0 W W' → J pre W')
    (hY : ∀ pre x W1, G W1 → J pre W1 → (∃ rest, keysL xs = (pre ++ [x]) ++ rest) → YieldAt Fence.wide 3 Tryz.prog l #[.agg #[.int .i64 x.src, .int .i64 x.key, .int .i64 x.val]] W1 fun e W' => (e = .returned (.bool true) ∧ J (pre ++ [x]) W' ∧ UpdT Φb W1 W') ∨ (e = .returned (.bool false) ∧ Jx W')) :
    CallsIn Fence.wide 4 Tryz.prog 130 #[.func (.yield l) #[] #[], .pointer (some ⟨wk, 0, none⟩)] W fun e W' => (∃ v, e = .returned v) ∧ ((∃ ks, ks = keysL xs ∧ J ks W') ∨ Jx W') := by
  have HY := Lib.hid hY; have HJ := Lib.hid hJ; have HB := Lib.hid hB; have HG := Lib.hid hG; have HG0 := Lib.hid hG0; have HGB := Lib.hid hGb; have HIN := Lib.hid hin
  have HU0 := Lib.hid hu0; have HJ0 := Lib.hid h0
  have hxb := (hG W hu0).1.xl
  obtain ⟨c0, c1⟩ := cells2_of (hG W hu0).2.1
  clear hY hJ hB hG hG0 hGb hin hu0 h0
  refine callsIn_of_wp Tryz.func130 rfl trivial ?_ rfl
  simp only [Tryz.ntmps130, List.size_toArray, List.length_cons, List.length_nil, Nat.reduceAdd, Nat.reduceSub, Array.replicate_succ, Array.replicate_zero, List.push_toArray, List.append_toArray, List.nil_append, List.cons_append]
  refine wpIn_mono ?_ noPanic_of
  refine wpIn_wide.2 ?_
  go_wp2
  clear c0 c1
  go_loopw [11] (fun i wr => ∃ k : Nat, k ≤ xs.length ∧ i = .int .i64 k ∧ Hid (G wr) ∧ Hid (J (keysL (xs.take k)) wr)) (fun i _ => xs.length - (intOf i).toNat)
  case atStart => exact ⟨0, Nat.zero_le _, rfl, HU0, HJ0⟩
  case round =>
    clear HU0 HJ0
    obtain ⟨k, hk, rfl, HU, HJW⟩ := hrel
    by_cases hlt : k < xs.length
    · obtain ⟨x, hx⟩ : ∃ x, xs[k]? = some x := ⟨_, List.getElem?_eq_getElem hlt⟩
      obtain ⟨⟨b1, o1, rfl, d0, d1⟩, hrin, hrl⟩ := (HG.out _ HU.out).1.ins.at hx
      have hci := HIN.out x (List.mem_of_getElem? hx)
      have h40 := (chkIn_zero hci).1
      have HX := Lib.hid hx; have HCI := Lib.hid hci
      have hbl : b1 < wr.heap.size := lt_of_cell d0
      obtain ⟨w1, hw1⟩ : ∃ w1, w1 = wr.alloc (.cells #[.int .i64 x.src, .slice x.ra x.recs.length x.rc] 41) := ⟨_, rfl⟩
      have hu1 : Upd0 wr w1 := by rw [hw1]; exact (Upd.refl _ wr).alloc _
      have hx1 : w1.heap[wr.heap.size]? = some (.cells #[.int .i64 x.src, .slice x.ra x.recs.length x.rc] 41 (0, 0)) := by rw [hw1]; exact alloc_at rfl
      have HCL := Lib.hid (cloneR_any (c := x.rc) w1 (hrin.kept hu1) (by omega))
      have HU1 := Lib.hid (HG0.out _ _ HU.out hu1)
      have HJ1 := Lib.hid (HJ.out _ _ _ (HG.out _ HU.out).2.2 HJW.out hu1)
      obtain ⟨e0, e1⟩ := cells2_of hx1
      clear hx hci hrin hrl hx1 hu1 HU HJW
      go_wp2_with (go_at_call 131; fail)
      rw [← hw1]
      (with_reducible refine HCL.out.mono ?_)
      rintro _ w2 ⟨a2, c2, rfl, ho2, hu2⟩
      have HU2 := Lib.hid (HG0.out _ _ HU1.out hu2)
      have HJ2 := Lib.hid (HJ.out _ _ _ (HG.out _ HU1.out).2.2 HJ1.out hu2)
      have HSO := Lib.hid (sortR_own ho2 (by omega))
      have HB1 := Lib.hid (show ∀ q, (Value.slice a2 x.recs.length c2).ownBlock = some q → w1.heap.size ≤ q from fun q hq => (World.ownsRow.lt ho2 q hq).1)
      have HV2 := Lib.hid hu2
      clear e0 e1 HCL ho2 hu2 hw1 hbl
      simp only []
      go_wp2_with (go_at_call 132; fail)
      (with_reducible refine HSO.out.mono ?_)
      rintro _ w3 ⟨rfl, l', hpm, hso, ho3, hu3⟩
      have hl' := hpm.length_eq
      have hv3 : Upd0 w1 w3 := HV2.out.cut hu3 (fun q hq => HB1.out q hq)
      have HU3 := Lib.hid (HG0.out _ _ HU1.out hv3)
      have HJ3 := Lib.hid (HJ.out _ _ _ (HG.out _ HU1.out).2.2 HJ1.out hv3)
      have HK1 := Lib.hid (keys1_of HCI.out hpm hso)
      have HCO := Lib.hid (compactR_own ho3 (by omega))
      have HB3 := Lib.hid (show ∀ q, (Value.slice a2 l'.length c2).ownBlock = some q → w1.heap.size ≤ q from fun q hq => (World.ownsRow.lt ho3 q hq).1)
      rw [hl'] at HCO HB3
      have HV3 := Lib.hid hv3
      clear hpm hso ho3 hu3 hv3 HSO HB1 HV2
      simp only []
      go_wp2_with (go_at_call 134; fail)
      (with_reducible refine HCO.out.mono ?_)
      rintro _ w4 ⟨rfl, ho4, hu4⟩
      have hv4 : Upd0 w1 w4 := HV3.out.cut hu4 (fun q hq => HB3.out q hq)
      have hkl := compK_len l'
      obtain ⟨K, hK⟩ : ∃ K, K = compK l' := ⟨_, rfl⟩
      rw [← hK] at ho4 HK1 hkl ⊢
      have HO4 := Lib.hid ho4
      have HU4 := Lib.hid (HG0.out _ _ HU1.out hv4)
      have HJ4 := Lib.hid (HJ.out _ _ _ (HG.out _ HU1.out).2.2 HJ1.out hv4)
      clear hK ho4 hu4 hv4 HCO HB3 HV3 HU3 HJ3 HU2 HJ2 HJ1
      simp only []
      obtain ⟨kn, hkn⟩ : ∃ kn, kn = K.length := ⟨_, rfl⟩
      have HKN := Lib.hid hkn
      rw [← hkn] at hkl ⊢
      clear hkn
      go_wp2
      obtain ⟨wo, rfl⟩ : ∃ wo : World, wo = wr := ⟨_, rfl⟩
      go_loopw [23] (fun i wr => ∃ j : Nat, j ≤ kn ∧ i = .int .i64 j ∧ Hid (G wr) ∧ Hid (J (keysL (xs.take k) ++ (K.map key0).take j) wr) ∧ Hid (OwnR wr w1.heap.size (.slice a2 K.length c2) K)) (fun i _ => kn - (intOf i).toNat)
      case atStart => exact ⟨0, Nat.zero_le _, rfl, HU4, Lib.hid (by rw [List.take_zero, List.append_nil]; exact HJ4.out), HO4⟩
      case round =>
        clear HO4 HU4 HJ4
        obtain ⟨j, hj, rfl, HU, HJW, HO⟩ := hrel
        by_cases hlt2 : j < kn
        · obtain ⟨r, hr⟩ : ∃ r, K[j]? = some r := ⟨_, List.getElem?_eq_getElem (by rw [← HKN.out]; exact hlt2)⟩
          have ho := HO.out
          obtain ⟨g, hga⟩ := own_head ho (by rw [← HKN.out]; omega)
          subst hga
          obtain ⟨d0, d1, d2⟩ := own_at3 ho rfl hr
          have hgl := lt_of_cell d0
          have hpre : ∃ rest, keysL xs = ((keysL (xs.take k) ++ (K.map key0).take j) ++ [key0 r]) ++ rest := by
            have h1 := keysL_split HX.out
            rw [← HK1.out] at h1
            have h2 : (K.map key0)[j]? = some (key0 r) := by rw [List.getElem?_map, hr]; rfl
            have h3 := drop_cons' h2
            refine ⟨(K.map key0).drop (j + 1) ++ keysL (xs.drop (k + 1)), ?_⟩
            rw [h1]
            conv => lhs; rw [← List.take_append_drop j (K.map key0), h3]
            simp
          obtain ⟨w7, hw7⟩ : ∃ w7, w7 = wr.alloc (.cells #[.int .i64 r.src, .int .i64 r.key, .int .i64 r.val] 36) := ⟨_, rfl⟩
          have hu7 : Upd0 wr w7 := by rw [hw7]; exact (Upd.refl _ wr).alloc _
          have hb7 : w7.heap[wr.heap.size]? = some (.cells #[.int .i64 r.src, .int .i64 r.key, .int .i64 r.val] 36 (0, 0)) := by rw [hw7]; exact alloc_at rfl
          have HU7 := Lib.hid (HG0.out _ _ HU.out hu7)
          have HO7 := Lib.hid (ownsRow_any ho hu7 (fun _ _ e => e))
          have hJy := HY.out _ (key0 r) w7 HU7.out (HJ.out _ _ _ (HG.out _ HU.out).2.2 HJW.out hu7) hpre
          obtain ⟨fn, tmps, assign, body, hy, hR⟩ := hJy
          have HRR := Lib.hid hR
          obtain ⟨q0, q1, q2⟩ := cells3_of hb7
          have HRE := Lib.hid hr
          simp only [key0] at hy
          clear hR hr ho hpre hu7 hb7
          go_upto_region 8 with fail
          rw [← hw7]
          clear hw7 d0 d1 d2
          refine (wpIn_wide (n := 4)).1 ?_
          gi_wp2_with (fail)
          refine HRR.out.mono ?_
          rintro e w8 (⟨rfl, hJ8, hu8⟩ | ⟨rfl, hx8⟩)
          · have HU8 := Lib.hid (HGB.out _ _ HU7.out hu8)
            have HO8 := Lib.hid (show OwnR w8 w1.heap.size _ K from ownsRow_T HO7.out hu8 (fun q _ p => HB.out _ _ p rfl))
            have HJ8 := Lib.hid hJ8
            clear hJ8 hu8 HU7 HO7 hy HRR q0 q1 q2
            simp only []
            gi_wp2
            go_wp2
            go_roundw
            case rel =>
              refine ⟨j + 1, by omega, by go_num, HU8, ?_, HO8⟩
              have h2 : (K.map key0)[j]? = some (key0 r) := by rw [List.getElem?_map, HRE.out]; rfl
              rw [take_cons' h2, ← List.append_assoc]
              exact HJ8
            case measure => simp [intOf]; omega
          · have HX8 := Lib.hid hx8
            clear hx8 HU7 HO7 hy HRR q0 q1 q2
            simp only []
            gi_wp2
            go_wp2
            exact noPanic_ret' (bodyPost_ret (results_none rfl _ _ _) rfl (And.intro ⟨_, rfl⟩ (.inr HX8.out)))
        · obtain rfl : j = kn := by omega
          have HJ9 := Lib.hid (show J (keysL (xs.take (k + 1))) wr by
            have h9 := HJW.out
            rw [List.take_of_length_le (l := K.map key0) (by rw [List.length_map, ← HKN.out]; exact Nat.le_refl _), HK1.out, ← keysL_take HX.out] at h9
            exact h9)
          clear HJW
          go_wp2
          go_roundw
          case rel => exact ⟨k + 1, by omega, by go_num, HU, HJ9⟩
          case measure => simp [intOf]; omega
    · obtain rfl : k = xs.length := by omega
      rw [List.take_of_length_le (Nat.le_refl _)] at HJW
      go_wp2
      exact noPanic_end' (bodyPost_end (results_none rfl _ _ _) rfl (And.intro ⟨_, rfl⟩ (.inl ⟨_, rfl, HJW.out⟩)))
end Go.Proofs.YtbonfdkgkcbkmaaGreat
end

section
namespace Go.Proofs.YtbonfdkgkcbkmaaGreat
set_option maxRecDepth 100000
open Go.RowKit Go.Shelf

attribute [local go_sem] Oper.semAt_some
structure KcV where
  src : Int
  key : Int
  count : Int
  sum : Int
def KcV.cells (x : KcV) : List Value := [.int .i64 x.src, .int .i64 x.key, .int .i64 x.count, .int .i64 x.sum]
def KcV.rec' (x : KcV) : RecV := ⟨x.src, x.key, 0⟩
def KcsIn (w : World) (a : Option Addr) (l : List KcV) : Prop := Row 4 w a (l.map KcV.cells)
theorem KcsIn.kept {w w' : World} {a : Option Addr} {l : List KcV} (h : KcsIn w a l) (hu : Upd0 w w') : KcsIn w' a l := Row.kept h hu
theorem KcsIn.at {w : World} {a : Option Addr} {l : List KcV} (h : KcsIn w a l) {i : Nat} {x : KcV} (hi : l[i]? = some x) : ∃ b f, a = some ⟨b, f, none⟩ ∧ w.cell? ⟨b, f + i * 4, none⟩ = some (.int .i64 x.src) ∧ w.cell? ⟨b, f + i * 4 + 1, none⟩ = some (.int .i64 x.key) ∧ w.cell? ⟨b, f + i * 4 + 2, none⟩ = some (.int .i64 x.count) ∧ w.cell? ⟨b, f + i * 4 + 3, none⟩ = some (.int .i64 x.sum) := by
  obtain ⟨_, b, f, e, hc⟩ := h i x.cells (by rw [List.getElem?_map, hi]; rfl)
  have h0 := hc 0 _ rfl
  have h1 := hc 1 _ rfl
  have h2 := hc 2 _ rfl
  have h3 := hc 3 _ rfl
  simp only [Nat.add_zero, ← Nat.add_assoc] at h0 h1 h2 h3
  exact ⟨b, f, e, h0, h1, h2, h3⟩
theorem cells4_at {w : World} {b : Nat} {x0 x1 x2 x3 : Value} {t : TypeId} (h : w.heap[b]? = some (.cells #[x0, x1, x2, x3] t (0, 0))) : w.cell? ⟨b, 0, none⟩ = some x0 ∧ w.cell? ⟨b, 1, none⟩ = some x1 ∧ w.cell? ⟨b, 2, none⟩ = some x2 ∧ w.cell? ⟨b, 3, none⟩ = some x3 := by simp [World.cell?, h]
theorem tkey_any (x : KcV) (w : World) : Calls Tryz.prog 68 #[.agg #[.int .i64 x.src, .int .i64 x.key, .int .i64 x.count, .int .i64 x.sum]] w fun e w' => e = .returned (.agg #[.int .i64 x.src, .int .i64 x.key, .int .i64 0]) ∧ Upd0 w w' := by
  go_enter Tryz.func68, Tryz.ntmps68
  go_wp2
  exact bodyPost_ret (results_c (fn := Tryz.f68) rfl rfl (load36 (alloc_at (by simp)))) rfl ⟨rfl, ((Upd.refl _ w).alloc _).alloc _⟩
/-! ### May a table be? -/
def badAt (prev : Option KcV) (x : KcV) : Bool := (chkRec x.rec' != 0) || decide (x.count < 1) || (match prev with | none => false | some p => decide (0 ≤ cmpR p.rec' x.rec'))
def tabB : Option KcV → List KcV → Bool
  | _, [] => true
  | p, x :: l => !badAt p x && tabB (some x) l
def chkT (l : List KcV) : Int := if tabB none l then 0 else 220
def prevAt (l : List KcV) (k : Nat) : Option KcV := (l.take k).getLast?
theorem prevAt_succ {l : List KcV} {k : Nat} {x : KcV} (h : l[k]? = some x) : prevAt l (k + 1) = some x := by
  rw [prevAt, take_cons' h]; simp
theorem tab_yes {p : Option KcV} {x : KcV} {l : List KcV} (h : badAt p x = false) : tabB p (x :: l) = tabB (some x) l := by simp [tabB, h]
theorem tab_no {p : Option KcV} {x : KcV} {l : List KcV} (h : badAt p x = true) : tabB p (x :: l) = false := by simp [tabB, h]
theorem chkT_no {l : List KcV} (h : tabB none l = false) : chkT l = 220 := by simp [chkT, h]
theorem chkT_yes {l : List KcV} (h : tabB none l = true) : chkT l = 0 := by simp [chkT, h]
set_option maxHeartbeats 8000000 in
theorem tcheck_any {a : Option Addr} {l : List KcV} {c : Nat} (w : World) (h : KcsIn w a l) (hl : l.length ≤ 140737488351232) :
    Calls Tryz.prog 217 #[.agg #[.slice a l.length c]] w fun e w' => e = .returned (.int .i64 (chkT l)) ∧ Upd0 w w' := by
  obtain ⟨w1, hw1⟩ : ∃ w1, w1 = w.alloc (.cells #[.slice a l.length c] 51) := ⟨_, rfl⟩
  have hu1 : Upd0 w w1 := by rw [hw1]; exact (Upd.refl _ w).alloc _
  have HX := Lib.hid (show w1.heap[w.heap.size]? = some (.cells #[.slice a l.length c] 51 (0, 0)) by rw [hw1]; exact alloc_at rfl)
  have H := Lib.hid (h.kept hu1); have HU := Lib.hid hu1
  have c0 := cells1_of HX.out
  clear h hu1
  go_enter Tryz.func217, Tryz.ntmps217
  go_wp2_with (fail)
  rw [← hw1]
  clear hw1 c0
  obtain ⟨b0, hb0⟩ : ∃ b0, b0 = w.heap.size := ⟨_, rfl⟩
  rw [← hb0] at HX ⊢
  clear hb0
  go_loopw [8] (fun i wr => ∃ k : Nat, k ≤ l.length ∧ i = .int .i64 k ∧ Hid (tabB (prevAt l k) (l.drop k) = tabB none l) ∧ Hid (Upd0 w1 wr)) (fun i _ => l.length - (intOf i).toNat)
  case atStart => exact ⟨0, Nat.zero_le _, rfl, Lib.hid rfl, Lib.hid (Upd.refl _ _)⟩
  case round =>
    obtain ⟨k, hk, rfl, HT, HR⟩ := hrel
    by_cases hlt : k < l.length
    · obtain ⟨x, hx⟩ : ∃ x, l[k]? = some x := ⟨_, List.getElem?_eq_getElem hlt⟩
      obtain ⟨b, f, rfl, c0, c1, c2, c3⟩ := (H.out.kept HR.out).at hx
      have hbl := lt_of_cell c0
      have HT2 : Hid (tabB (prevAt l k) (x :: l.drop (k + 1)) = tabB none l) := by rw [← drop_cons' hx]; exact HT
      obtain ⟨w4, hw4⟩ : ∃ w4, w4 = wr.alloc (.cells #[.int .i64 x.src, .int .i64 x.key, .int .i64 x.count, .int .i64 x.sum] 63) := ⟨_, rfl⟩
      have hu4 : Upd0 wr w4 := by rw [hw4]; exact (Upd.refl _ wr).alloc _
      have HX4 := Lib.hid (show w4.heap[wr.heap.size]? = some (.cells #[.int .i64 x.src, .int .i64 x.key, .int .i64 x.count, .int .i64 x.sum] 63 (0, 0)) by rw [hw4]; exact alloc_at rfl)
      have HU4 := Lib.hid (HR.out.trans hu4)
      have HX1 := Lib.hid ((HU4.out.block _ (lt_of_heap HX.out) (fun e => e)).trans HX.out)
      have HL := Lib.hid hx
      obtain ⟨bx, hbx⟩ : ∃ bx, bx = wr.heap.size := ⟨_, rfl⟩
      rw [← hbx] at HX4
      clear hx HT hu4
      go_upto_region 4 with fail
      rw [← hw4, ← hbx]
      clear hw4 hbx c0 c1 c2 c3 hbl
      have hA : Upd0 w4 w4.drew := (Upd.refl _ _).drew
      have HCK := Lib.hid (show chkRec x.rec' = chkRec x.rec' from rfl)
      by_cases hz : chkRec x.rec' = 0
      · by_cases hc : x.count < 1
        · have HBAD := Lib.hid (show badAt (prevAt l k) x = true by simp [badAt, hc])
          refine wp_region_G 22 (fun W => Upd0 w4 W) [false, false, false, false, false, false, false, false, false, false, false, false, false, false, false, false, false, false, false, false, false, false, false, false, false, false, false] rfl (by kernel_rfl) ?_
          refine wpG_takeT (i := 0) (v := .agg #[.int .i64 x.src, .int .i64 x.key, .int .i64 x.count, .int .i64 x.sum]) rfl (fun L hc h => (hc.waits (n := 22) (i := 13) (by kernel_rfl) (hc.waits (n := 13) (i := 10) (by kernel_rfl) (hc.waits (n := 10) (i := 4) (by kernel_rfl) (hc.waits (n := 4) (i := 2) (by kernel_rfl) (hc.waits (n := 2) (i := 1) (by kernel_rfl) (hc.waits (n := 1) (i := 0) (by kernel_rfl) h))))))) (by kernel_rfl) (fun _ _ _ h => h) hA (.inl ⟨rfl, fun w5 q1 => ?_⟩) ?_
          · obtain ⟨c0, c1, c2, c3⟩ := cells4_at ((q1.block _ (lt_of_heap HX4.out) (fun e => e)).trans HX4.out)
            go_simp
          simp only [Act.put, List.setIfInBounds_toArray, List.set]
          refine wpG_doIf (i := 1) rfl (by kernel_rfl) rfl (fun K hK => ?_)
          have HKK := Lib.hid hK
          clear hK
          go_step
          refine (tkey_any x _).mono ?_
          rintro _ w7 ⟨rfl, hu6⟩
          have hA5 := hA.trans hu6
          clear hu6
          simp only []
          refine HKK.out _ _ hA5 ?_
          clear HKK
          simp only [Act.put, List.setIfInBounds_toArray, List.set]
          refine wpG_doIf (i := 2) rfl (by kernel_rfl) rfl (fun K hK => ?_)
          have HKK := Lib.hid hK
          clear hK
          go_step
          refine (reccheck_any x.rec' _).mono ?_
          rintro _ w8 ⟨rfl, hu6⟩
          have hA6 := hA5.trans hu6
          clear hu6
          rw [hz]
          simp only []
          refine HKK.out _ _ hA6 ?_
          clear HKK
          simp only [Act.put, List.setIfInBounds_toArray, List.set]
          refine wpG_takeT (i := 3) (v := .bool false) rfl (fun L hc h => (hc.waits (n := 22) (i := 13) (by kernel_rfl) (hc.waits (n := 13) (i := 10) (by kernel_rfl) (hc.waits (n := 10) (i := 4) (by kernel_rfl) (hc.waits (n := 4) (i := 3) (by kernel_rfl) h))))) (by kernel_rfl) (fun _ _ _ h => h) hA6 (.inl ⟨rfl, fun w5 q1 => ?_⟩) ?_
          · go_simp
          simp only [Act.put, List.setIfInBounds_toArray, List.set]
          refine wpG_takeT (i := 4) (v := .bool false) rfl (fun L hc h => (hc.waits (n := 22) (i := 13) (by kernel_rfl) (hc.waits (n := 13) (i := 10) (by kernel_rfl) (hc.waits (n := 10) (i := 4) (by kernel_rfl) h)))) (by kernel_rfl) (fun _ _ _ h => h) hA6 (.inl ⟨rfl, fun w5 q1 => ?_⟩) ?_
          · go_simp
          simp only [Act.put, List.setIfInBounds_toArray, List.set]
          refine wpG_takeT (i := 5) (v := .pointer (some ⟨bx, 2, none⟩)) rfl (fun L hc h => (hc.waits (n := 22) (i := 13) (by kernel_rfl) (hc.waits (n := 13) (i := 10) (by kernel_rfl) (hc.waits (n := 10) (i := 9) (by kernel_rfl) (hc.waits (n := 9) (i := 8) (by kernel_rfl) (hc.waits (n := 8) (i := 7) (by kernel_rfl) (hc.waits (n := 7) (i := 6) (by kernel_rfl) (hc.waits (n := 6) (i := 5) (by kernel_rfl) h)))))))) (by kernel_rfl) (fun _ _ _ h => h) hA6 (.inl ⟨rfl, fun w5 q1 => ?_⟩) ?_
          · go_simp
          simp only [Act.put, List.setIfInBounds_toArray, List.set]
          refine wpG_takeT (i := 6) (v := .pointer (some ⟨bx, 2, none⟩)) rfl (fun L hc h => (hc.waits (n := 22) (i := 13) (by kernel_rfl) (hc.waits (n := 13) (i := 10) (by kernel_rfl) (hc.waits (n := 10) (i := 9) (by kernel_rfl) (hc.waits (n := 9) (i := 8) (by kernel_rfl) (hc.waits (n := 8) (i := 7) (by kernel_rfl) (hc.waits (n := 7) (i := 6) (by kernel_rfl) h))))))) (by kernel_rfl) (fun _ _ _ h => h) hA6 (.inl ⟨rfl, fun w5 q1 => ?_⟩) ?_
          · go_simp
          simp only [Act.put, List.setIfInBounds_toArray, List.set]
          refine wpG_takeT (i := 7) (v := .int .i64 x.count) rfl (fun L hc h => (hc.waits (n := 22) (i := 13) (by kernel_rfl) (hc.waits (n := 13) (i := 10) (by kernel_rfl) (hc.waits (n := 10) (i := 9) (by kernel_rfl) (hc.waits (n := 9) (i := 8) (by kernel_rfl) (hc.waits (n := 8) (i := 7) (by kernel_rfl) h)))))) (by kernel_rfl) (fun _ _ _ h => h) hA6 (.inl ⟨rfl, fun w5 q1 => ?_⟩) ?_
          · obtain ⟨c0, c1, c2, c3⟩ := cells4_at ((q1.block _ (lt_of_heap HX4.out) (fun e => e)).trans HX4.out)
            go_simp
          simp only [Act.put, List.setIfInBounds_toArray, List.set]
          refine wpG_takeT (i := 8) (v := .bool true) rfl (fun L hc h => (hc.waits (n := 22) (i := 13) (by kernel_rfl) (hc.waits (n := 13) (i := 10) (by kernel_rfl) (hc.waits (n := 10) (i := 9) (by kernel_rfl) (hc.waits (n := 9) (i := 8) (by kernel_rfl) h))))) (by kernel_rfl) (fun _ _ _ h => h) hA6 (.inl ⟨rfl, fun w5 q1 => ?_⟩) ?_
          · go_simp
          simp only [Act.put, List.setIfInBounds_toArray, List.set]
          refine wpG_takeT (i := 9) (v := .bool true) rfl (fun L hc h => (hc.waits (n := 22) (i := 13) (by kernel_rfl) (hc.waits (n := 13) (i := 10) (by kernel_rfl) (hc.waits (n := 10) (i := 9) (by kernel_rfl) h)))) (by kernel_rfl) (fun _ _ _ h => h) hA6 (.inl ⟨rfl, fun w5 q1 => ?_⟩) ?_
          · go_simp
          simp only [Act.put, List.setIfInBounds_toArray, List.set]
          refine wpG_takeT (i := 10) (v := .bool true) rfl (fun L hc h => (hc.waits (n := 22) (i := 13) (by kernel_rfl) (hc.waits (n := 13) (i := 10) (by kernel_rfl) h))) (by kernel_rfl) (fun _ _ _ h => h) hA6 (.inl ⟨rfl, fun w5 q1 => ?_⟩) ?_
          · go_simp
          simp only [Act.put, List.setIfInBounds_toArray, List.set]
          refine wpG_takeT (i := 11) (v := undef) rfl (fun L hc h => (hc.waits (n := 22) (i := 13) (by kernel_rfl) (hc.waits (n := 13) (i := 12) (by kernel_rfl) (hc.waits (n := 12) (i := 11) (by kernel_rfl) h)))) (by kernel_rfl) (fun _ _ _ h => h) hA6 (.inr ⟨rfl, rfl⟩) ?_
          simp only [Act.put, List.setIfInBounds_toArray, List.set]
          refine wpG_takeT (i := 12) (v := undef) rfl (fun L hc h => (hc.waits (n := 22) (i := 13) (by kernel_rfl) (hc.waits (n := 13) (i := 12) (by kernel_rfl) h))) (by kernel_rfl) (fun _ _ _ h => h) hA6 (.inr ⟨rfl, rfl⟩) ?_
          simp only [Act.put, List.setIfInBounds_toArray, List.set]
          refine wpG_takeT (i := 13) (v := undef) rfl (fun L hc h => (hc.waits (n := 22) (i := 13) (by kernel_rfl) h)) (by kernel_rfl) (fun _ _ _ h => h) hA6 (.inr ⟨rfl, rfl⟩) ?_
          simp only [Act.put, List.setIfInBounds_toArray, List.set]
          refine wpG_takeT (i := 14) (v := undef) rfl (fun L hc h => (hc.waits (n := 22) (i := 20) (by kernel_rfl) (hc.waits (n := 20) (i := 19) (by kernel_rfl) (hc.waits (n := 19) (i := 18) (by kernel_rfl) (hc.waits (n := 18) (i := 15) (by kernel_rfl) (hc.waits (n := 15) (i := 14) (by kernel_rfl) h)))))) (by kernel_rfl) (fun _ _ _ h => h) hA6 (.inr ⟨rfl, rfl⟩) ?_
          simp only [Act.put, List.setIfInBounds_toArray, List.set]
          refine wpG_takeT (i := 15) (v := undef) rfl (fun L hc h => (hc.waits (n := 22) (i := 20) (by kernel_rfl) (hc.waits (n := 20) (i := 19) (by kernel_rfl) (hc.waits (n := 19) (i := 18) (by kernel_rfl) (hc.waits (n := 18) (i := 15) (by kernel_rfl) h))))) (by kernel_rfl) (fun _ _ _ h => h) hA6 (.inr ⟨rfl, rfl⟩) ?_
          simp only [Act.put, List.setIfInBounds_toArray, List.set]
          refine wpG_takeT (i := 16) (v := undef) rfl (fun L hc h => (hc.waits (n := 22) (i := 20) (by kernel_rfl) (hc.waits (n := 20) (i := 19) (by kernel_rfl) (hc.waits (n := 19) (i := 18) (by kernel_rfl) (hc.waits (n := 18) (i := 17) (by kernel_rfl) (hc.waits (n := 17) (i := 16) (by kernel_rfl) h)))))) (by kernel_rfl) (fun _ _ _ h => h) hA6 (.inr ⟨rfl, rfl⟩) ?_
          simp only [Act.put, List.setIfInBounds_toArray, List.set]
          refine wpG_takeT (i := 17) (v := undef) rfl (fun L hc h => (hc.waits (n := 22) (i := 20) (by kernel_rfl) (hc.waits (n := 20) (i := 19) (by kernel_rfl) (hc.waits (n := 19) (i := 18) (by kernel_rfl) (hc.waits (n := 18) (i := 17) (by kernel_rfl) h))))) (by kernel_rfl) (fun _ _ _ h => h) hA6 (.inr ⟨rfl, rfl⟩) ?_
          simp only [Act.put, List.setIfInBounds_toArray, List.set]
          refine wpG_takeT (i := 18) (v := undef) rfl (fun L hc h => (hc.waits (n := 22) (i := 20) (by kernel_rfl) (hc.waits (n := 20) (i := 19) (by kernel_rfl) (hc.waits (n := 19) (i := 18) (by kernel_rfl) h)))) (by kernel_rfl) (fun _ _ _ h => h) hA6 (.inr ⟨rfl, rfl⟩) ?_
          simp only [Act.put, List.setIfInBounds_toArray, List.set]
          refine wpG_takeT (i := 19) (v := undef) rfl (fun L hc h => (hc.waits (n := 22) (i := 20) (by kernel_rfl) (hc.waits (n := 20) (i := 19) (by kernel_rfl) h))) (by kernel_rfl) (fun _ _ _ h => h) hA6 (.inr ⟨rfl, rfl⟩) ?_
          simp only [Act.put, List.setIfInBounds_toArray, List.set]
          refine wpG_takeT (i := 20) (v := undef) rfl (fun L hc h => (hc.waits (n := 22) (i := 20) (by kernel_rfl) h)) (by kernel_rfl) (fun _ _ _ h => h) hA6 (.inr ⟨rfl, rfl⟩) ?_
          simp only [Act.put, List.setIfInBounds_toArray, List.set]
          refine wpG_takeT (i := 21) (v := undef) rfl (fun L hc h => (hc.waits (n := 22) (i := 21) (by kernel_rfl) h)) (by kernel_rfl) (fun _ _ _ h => h) hA6 (.inr ⟨rfl, rfl⟩) ?_
          simp only [Act.put, List.setIfInBounds_toArray, List.set]
          refine wpG_tail_lit (k := 22) rfl rfl (by kernel_rfl) ?_
          simp only [List.drop]
          clear hc
          go_wp2
          go_ret
          exact ⟨ret_int (chkT_no (by rw [← HT2.out, tab_no HBAD.out])).symm, HU.out.trans (HU4.out.trans hA6)⟩
        · by_cases hk0 : k = 0
          · subst hk0
            have HBAD := Lib.hid (show badAt (prevAt l 0) x = false by simp [badAt, prevAt, hz]; omega)
            refine wp_region_G 22 (fun W => Upd0 w4 W) [false, false, false, false, false, false, false, false, false, false, false, false, false, false, false, false, false, false, false, false, false, false, false, false, false, false, false] rfl (by kernel_rfl) ?_
            refine wpG_takeT (i := 0) (v := .agg #[.int .i64 x.src, .int .i64 x.key, .int .i64 x.count, .int .i64 x.sum]) rfl (fun L hc h => (hc.waits (n := 22) (i := 13) (by kernel_rfl) (hc.waits (n := 13) (i := 10) (by kernel_rfl) (hc.waits (n := 10) (i := 4) (by kernel_rfl) (hc.waits (n := 4) (i := 2) (by kernel_rfl) (hc.waits (n := 2) (i := 1) (by kernel_rfl) (hc.waits (n := 1) (i := 0) (by kernel_rfl) h))))))) (by kernel_rfl) (fun _ _ _ h => h) hA (.inl ⟨rfl, fun w5 q1 => ?_⟩) ?_
            · obtain ⟨c0, c1, c2, c3⟩ := cells4_at ((q1.block _ (lt_of_heap HX4.out) (fun e => e)).trans HX4.out)
              go_simp
            simp only [Act.put, List.setIfInBounds_toArray, List.set]
            refine wpG_doIf (i := 1) rfl (by kernel_rfl) rfl (fun K hK => ?_)
            have HKK := Lib.hid hK
            clear hK
            go_step
            refine (tkey_any x _).mono ?_
            rintro _ w7 ⟨rfl, hu6⟩
            have hA5 := hA.trans hu6
            clear hu6
            simp only []
            refine HKK.out _ _ hA5 ?_
            clear HKK
            simp only [Act.put, List.setIfInBounds_toArray, List.set]
            refine wpG_doIf (i := 2) rfl (by kernel_rfl) rfl (fun K hK => ?_)
            have HKK := Lib.hid hK
            clear hK
            go_step
            refine (reccheck_any x.rec' _).mono ?_
            rintro _ w8 ⟨rfl, hu6⟩
            have hA6 := hA5.trans hu6
            clear hu6
            rw [hz]
            simp only []
            refine HKK.out _ _ hA6 ?_
            clear HKK
            simp only [Act.put, List.setIfInBounds_toArray, List.set]
            refine wpG_takeT (i := 3) (v := .bool false) rfl (fun L hc h => (hc.waits (n := 22) (i := 13) (by kernel_rfl) (hc.waits (n := 13) (i := 10) (by kernel_rfl) (hc.waits (n := 10) (i := 4) (by kernel_rfl) (hc.waits (n := 4) (i := 3) (by kernel_rfl) h))))) (by kernel_rfl) (fun _ _ _ h => h) hA6 (.inl ⟨rfl, fun w5 q1 => ?_⟩) ?_
            · go_simp
            simp only [Act.put, List.setIfInBounds_toArray, List.set]
            refine wpG_takeT (i := 4) (v := .bool false) rfl (fun L hc h => (hc.waits (n := 22) (i := 13) (by kernel_rfl) (hc.waits (n := 13) (i := 10) (by kernel_rfl) (hc.waits (n := 10) (i := 4) (by kernel_rfl) h)))) (by kernel_rfl) (fun _ _ _ h => h) hA6 (.inl ⟨rfl, fun w5 q1 => ?_⟩) ?_
            · go_simp
            simp only [Act.put, List.setIfInBounds_toArray, List.set]
            refine wpG_takeT (i := 5) (v := .pointer (some ⟨bx, 2, none⟩)) rfl (fun L hc h => (hc.waits (n := 22) (i := 13) (by kernel_rfl) (hc.waits (n := 13) (i := 10) (by kernel_rfl) (hc.waits (n := 10) (i := 9) (by kernel_rfl) (hc.waits (n := 9) (i := 8) (by kernel_rfl) (hc.waits (n := 8) (i := 7) (by kernel_rfl) (hc.waits (n := 7) (i := 6) (by kernel_rfl) (hc.waits (n := 6) (i := 5) (by kernel_rfl) h)))))))) (by kernel_rfl) (fun _ _ _ h => h) hA6 (.inl ⟨rfl, fun w5 q1 => ?_⟩) ?_
            · go_simp
            simp only [Act.put, List.setIfInBounds_toArray, List.set]
            refine wpG_takeT (i := 6) (v := .pointer (some ⟨bx, 2, none⟩)) rfl (fun L hc h => (hc.waits (n := 22) (i := 13) (by kernel_rfl) (hc.waits (n := 13) (i := 10) (by kernel_rfl) (hc.waits (n := 10) (i := 9) (by kernel_rfl) (hc.waits (n := 9) (i := 8) (by kernel_rfl) (hc.waits (n := 8) (i := 7) (by kernel_rfl) (hc.waits (n := 7) (i := 6) (by kernel_rfl) h))))))) (by kernel_rfl) (fun _ _ _ h => h) hA6 (.inl ⟨rfl, fun w5 q1 => ?_⟩) ?_
            · go_simp
            simp only [Act.put, List.setIfInBounds_toArray, List.set]
            refine wpG_takeT (i := 7) (v := .int .i64 x.count) rfl (fun L hc h => (hc.waits (n := 22) (i := 13) (by kernel_rfl) (hc.waits (n := 13) (i := 10) (by kernel_rfl) (hc.waits (n := 10) (i := 9) (by kernel_rfl) (hc.waits (n := 9) (i := 8) (by kernel_rfl) (hc.waits (n := 8) (i := 7) (by kernel_rfl) h)))))) (by kernel_rfl) (fun _ _ _ h => h) hA6 (.inl ⟨rfl, fun w5 q1 => ?_⟩) ?_
            · obtain ⟨c0, c1, c2, c3⟩ := cells4_at ((q1.block _ (lt_of_heap HX4.out) (fun e => e)).trans HX4.out)
              go_simp
            simp only [Act.put, List.setIfInBounds_toArray, List.set]
            refine wpG_takeT (i := 8) (v := .bool false) rfl (fun L hc h => (hc.waits (n := 22) (i := 13) (by kernel_rfl) (hc.waits (n := 13) (i := 10) (by kernel_rfl) (hc.waits (n := 10) (i := 9) (by kernel_rfl) (hc.waits (n := 9) (i := 8) (by kernel_rfl) h))))) (by kernel_rfl) (fun _ _ _ h => h) hA6 (.inl ⟨rfl, fun w5 q1 => ?_⟩) ?_
            · go_simp
            simp only [Act.put, List.setIfInBounds_toArray, List.set]
            refine wpG_takeT (i := 9) (v := .bool false) rfl (fun L hc h => (hc.waits (n := 22) (i := 13) (by kernel_rfl) (hc.waits (n := 13) (i := 10) (by kernel_rfl) (hc.waits (n := 10) (i := 9) (by kernel_rfl) h)))) (by kernel_rfl) (fun _ _ _ h => h) hA6 (.inl ⟨rfl, fun w5 q1 => ?_⟩) ?_
            · go_simp
            simp only [Act.put, List.setIfInBounds_toArray, List.set]
            refine wpG_takeT (i := 10) (v := .bool false) rfl (fun L hc h => (hc.waits (n := 22) (i := 13) (by kernel_rfl) (hc.waits (n := 13) (i := 10) (by kernel_rfl) h))) (by kernel_rfl) (fun _ _ _ h => h) hA6 (.inl ⟨rfl, fun w5 q1 => ?_⟩) ?_
            · go_simp
            simp only [Act.put, List.setIfInBounds_toArray, List.set]
            refine wpG_takeT (i := 11) (v := .int .i64 0) rfl (fun L hc h => (hc.waits (n := 22) (i := 13) (by kernel_rfl) (hc.waits (n := 13) (i := 12) (by kernel_rfl) (hc.waits (n := 12) (i := 11) (by kernel_rfl) h)))) (by kernel_rfl) (fun _ _ _ h => h) hA6 (.inl ⟨rfl, fun w5 q1 => ?_⟩) ?_
            · go_simp
            simp only [Act.put, List.setIfInBounds_toArray, List.set]
            refine wpG_takeT (i := 12) (v := .bool false) rfl (fun L hc h => (hc.waits (n := 22) (i := 13) (by kernel_rfl) (hc.waits (n := 13) (i := 12) (by kernel_rfl) h))) (by kernel_rfl) (fun _ _ _ h => h) hA6 (.inl ⟨rfl, fun w5 q1 => ?_⟩) ?_
            · go_simp
            simp only [Act.put, List.setIfInBounds_toArray, List.set]
            refine wpG_takeT (i := 13) (v := .bool false) rfl (fun L hc h => (hc.waits (n := 22) (i := 13) (by kernel_rfl) h)) (by kernel_rfl) (fun _ _ _ h => h) hA6 (.inl ⟨rfl, fun w5 q1 => ?_⟩) ?_
            · go_simp
            simp only [Act.put, List.setIfInBounds_toArray, List.set]
            refine wpG_takeT (i := 14) (v := undef) rfl (fun L hc h => (hc.waits (n := 22) (i := 20) (by kernel_rfl) (hc.waits (n := 20) (i := 19) (by kernel_rfl) (hc.waits (n := 19) (i := 18) (by kernel_rfl) (hc.waits (n := 18) (i := 15) (by kernel_rfl) (hc.waits (n := 15) (i := 14) (by kernel_rfl) h)))))) (by kernel_rfl) (fun _ _ _ h => h) hA6 (.inr ⟨rfl, rfl⟩) ?_
            simp only [Act.put, List.setIfInBounds_toArray, List.set]
            refine wpG_takeT (i := 15) (v := undef) rfl (fun L hc h => (hc.waits (n := 22) (i := 20) (by kernel_rfl) (hc.waits (n := 20) (i := 19) (by kernel_rfl) (hc.waits (n := 19) (i := 18) (by kernel_rfl) (hc.waits (n := 18) (i := 15) (by kernel_rfl) h))))) (by kernel_rfl) (fun _ _ _ h => h) hA6 (.inr ⟨rfl, rfl⟩) ?_
            simp only [Act.put, List.setIfInBounds_toArray, List.set]
            refine wpG_takeT (i := 16) (v := undef) rfl (fun L hc h => (hc.waits (n := 22) (i := 20) (by kernel_rfl) (hc.waits (n := 20) (i := 19) (by kernel_rfl) (hc.waits (n := 19) (i := 18) (by kernel_rfl) (hc.waits (n := 18) (i := 17) (by kernel_rfl) (hc.waits (n := 17) (i := 16) (by kernel_rfl) h)))))) (by kernel_rfl) (fun _ _ _ h => h) hA6 (.inr ⟨rfl, rfl⟩) ?_
            simp only [Act.put, List.setIfInBounds_toArray, List.set]
            refine wpG_takeT (i := 17) (v := undef) rfl (fun L hc h => (hc.waits (n := 22) (i := 20) (by kernel_rfl) (hc.waits (n := 20) (i := 19) (by kernel_rfl) (hc.waits (n := 19) (i := 18) (by kernel_rfl) (hc.waits (n := 18) (i := 17) (by kernel_rfl) h))))) (by kernel_rfl) (fun _ _ _ h => h) hA6 (.inr ⟨rfl, rfl⟩) ?_
            simp only [Act.put, List.setIfInBounds_toArray, List.set]
            refine wpG_takeT (i := 18) (v := undef) rfl (fun L hc h => (hc.waits (n := 22) (i := 20) (by kernel_rfl) (hc.waits (n := 20) (i := 19) (by kernel_rfl) (hc.waits (n := 19) (i := 18) (by kernel_rfl) h)))) (by kernel_rfl) (fun _ _ _ h => h) hA6 (.inr ⟨rfl, rfl⟩) ?_
            simp only [Act.put, List.setIfInBounds_toArray, List.set]
            refine wpG_takeT (i := 19) (v := undef) rfl (fun L hc h => (hc.waits (n := 22) (i := 20) (by kernel_rfl) (hc.waits (n := 20) (i := 19) (by kernel_rfl) h))) (by kernel_rfl) (fun _ _ _ h => h) hA6 (.inr ⟨rfl, rfl⟩) ?_
            simp only [Act.put, List.setIfInBounds_toArray, List.set]
            refine wpG_takeT (i := 20) (v := undef) rfl (fun L hc h => (hc.waits (n := 22) (i := 20) (by kernel_rfl) h)) (by kernel_rfl) (fun _ _ _ h => h) hA6 (.inr ⟨rfl, rfl⟩) ?_
            simp only [Act.put, List.setIfInBounds_toArray, List.set]
            refine wpG_takeT (i := 21) (v := undef) rfl (fun L hc h => (hc.waits (n := 22) (i := 21) (by kernel_rfl) h)) (by kernel_rfl) (fun _ _ _ h => h) hA6 (.inr ⟨rfl, rfl⟩) ?_
            simp only [Act.put, List.setIfInBounds_toArray, List.set]
            refine wpG_tail_lit (k := 22) rfl rfl (by kernel_rfl) ?_
            simp only [List.drop]
            clear hc
            go_wp2
            go_roundw
            case rel => exact ⟨1, by omega, by go_num, Lib.hid (by rw [← HT2.out, tab_yes HBAD.out, prevAt_succ HL.out]), Lib.hid (HU4.out.trans hA6)⟩
            case measure => simp [intOf]; omega
          · obtain ⟨j, rfl⟩ : ∃ j, k = j + 1 := ⟨k - 1, by omega⟩
            obtain ⟨y, hy⟩ : ∃ y, l[j]? = some y := ⟨_, List.getElem?_eq_getElem (by omega)⟩
            have HPV := Lib.hid (prevAt_succ hy)
            have HY := Lib.hid (show ∀ W, Upd0 w4 W → W.cell? ⟨b, f + j * 4, none⟩ = some (.int .i64 y.src) ∧ W.cell? ⟨b, f + j * 4 + 1, none⟩ = some (.int .i64 y.key) ∧ W.cell? ⟨b, f + j * 4 + 2, none⟩ = some (.int .i64 y.count) ∧ W.cell? ⟨b, f + j * 4 + 3, none⟩ = some (.int .i64 y.sum) from fun W hW => by
              obtain ⟨b2, f2, e2, y0, y1, y2, y3⟩ := ((H.out.kept HU4.out).kept hW).at hy
              injection e2 with e2
              injection e2 with e2 e3
              subst e2 e3
              exact ⟨y0, y1, y2, y3⟩)
            have hjl : (j : Int) < l.length := by omega
            refine wp_region_G 22 (fun W => Upd0 w4 W) [false, false, false, false, false, false, false, false, false, false, false, false, false, false, false, false, false, false, false, false, false, false, false, false, false, false, false] rfl (by kernel_rfl) ?_
            refine wpG_takeT (i := 0) (v := .agg #[.int .i64 x.src, .int .i64 x.key, .int .i64 x.count, .int .i64 x.sum]) rfl (fun L hc h => (hc.waits (n := 22) (i := 13) (by kernel_rfl) (hc.waits (n := 13) (i := 10) (by kernel_rfl) (hc.waits (n := 10) (i := 4) (by kernel_rfl) (hc.waits (n := 4) (i := 2) (by kernel_rfl) (hc.waits (n := 2) (i := 1) (by kernel_rfl) (hc.waits (n := 1) (i := 0) (by kernel_rfl) h))))))) (by kernel_rfl) (fun _ _ _ h => h) hA (.inl ⟨rfl, fun w5 q1 => ?_⟩) ?_
            · obtain ⟨c0, c1, c2, c3⟩ := cells4_at ((q1.block _ (lt_of_heap HX4.out) (fun e => e)).trans HX4.out)
              go_simp
            simp only [Act.put, List.setIfInBounds_toArray, List.set]
            refine wpG_doIf (i := 1) rfl (by kernel_rfl) rfl (fun K hK => ?_)
            have HKK := Lib.hid hK
            clear hK
            go_step
            refine (tkey_any x _).mono ?_
            rintro _ w7 ⟨rfl, hu6⟩
            have hA5 := hA.trans hu6
            clear hu6
            simp only []
            refine HKK.out _ _ hA5 ?_
            clear HKK
            simp only [Act.put, List.setIfInBounds_toArray, List.set]
            refine wpG_doIf (i := 2) rfl (by kernel_rfl) rfl (fun K hK => ?_)
            have HKK := Lib.hid hK
            clear hK
            go_step
            refine (reccheck_any x.rec' _).mono ?_
            rintro _ w8 ⟨rfl, hu6⟩
            have hA6 := hA5.trans hu6
            clear hu6
            rw [hz]
            simp only []
            refine HKK.out _ _ hA6 ?_
            clear HKK
            simp only [Act.put, List.setIfInBounds_toArray, List.set]
            refine wpG_takeT (i := 3) (v := .bool false) rfl (fun L hc h => (hc.waits (n := 22) (i := 13) (by kernel_rfl) (hc.waits (n := 13) (i := 10) (by kernel_rfl) (hc.waits (n := 10) (i := 4) (by kernel_rfl) (hc.waits (n := 4) (i := 3) (by kernel_rfl) h))))) (by kernel_rfl) (fun _ _ _ h => h) hA6 (.inl ⟨rfl, fun w5 q1 => ?_⟩) ?_
            · go_simp
            simp only [Act.put, List.setIfInBounds_toArray, List.set]
            refine wpG_takeT (i := 4) (v := .bool false) rfl (fun L hc h => (hc.waits (n := 22) (i := 13) (by kernel_rfl) (hc.waits (n := 13) (i := 10) (by kernel_rfl) (hc.waits (n := 10) (i := 4) (by kernel_rfl) h)))) (by kernel_rfl) (fun _ _ _ h => h) hA6 (.inl ⟨rfl, fun w5 q1 => ?_⟩) ?_
            · go_simp
            simp only [Act.put, List.setIfInBounds_toArray, List.set]
            refine wpG_takeT (i := 5) (v := .pointer (some ⟨bx, 2, none⟩)) rfl (fun L hc h => (hc.waits (n := 22) (i := 13) (by kernel_rfl) (hc.waits (n := 13) (i := 10) (by kernel_rfl) (hc.waits (n := 10) (i := 9) (by kernel_rfl) (hc.waits (n := 9) (i := 8) (by kernel_rfl) (hc.waits (n := 8) (i := 7) (by kernel_rfl) (hc.waits (n := 7) (i := 6) (by kernel_rfl) (hc.waits (n := 6) (i := 5) (by kernel_rfl) h)))))))) (by kernel_rfl) (fun _ _ _ h => h) hA6 (.inl ⟨rfl, fun w5 q1 => ?_⟩) ?_
            · go_simp
            simp only [Act.put, List.setIfInBounds_toArray, List.set]
            refine wpG_takeT (i := 6) (v := .pointer (some ⟨bx, 2, none⟩)) rfl (fun L hc h => (hc.waits (n := 22) (i := 13) (by kernel_rfl) (hc.waits (n := 13) (i := 10) (by kernel_rfl) (hc.waits (n := 10) (i := 9) (by kernel_rfl) (hc.waits (n := 9) (i := 8) (by kernel_rfl) (hc.waits (n := 8) (i := 7) (by kernel_rfl) (hc.waits (n := 7) (i := 6) (by kernel_rfl) h))))))) (by kernel_rfl) (fun _ _ _ h => h) hA6 (.inl ⟨rfl, fun w5 q1 => ?_⟩) ?_
            · go_simp
            simp only [Act.put, List.setIfInBounds_toArray, List.set]
            refine wpG_takeT (i := 7) (v := .int .i64 x.count) rfl (fun L hc h => (hc.waits (n := 22) (i := 13) (by kernel_rfl) (hc.waits (n := 13) (i := 10) (by kernel_rfl) (hc.waits (n := 10) (i := 9) (by kernel_rfl) (hc.waits (n := 9) (i := 8) (by kernel_rfl) (hc.waits (n := 8) (i := 7) (by kernel_rfl) h)))))) (by kernel_rfl) (fun _ _ _ h => h) hA6 (.inl ⟨rfl, fun w5 q1 => ?_⟩) ?_
            · obtain ⟨c0, c1, c2, c3⟩ := cells4_at ((q1.block _ (lt_of_heap HX4.out) (fun e => e)).trans HX4.out)
              go_simp
            simp only [Act.put, List.setIfInBounds_toArray, List.set]
            refine wpG_takeT (i := 8) (v := .bool false) rfl (fun L hc h => (hc.waits (n := 22) (i := 13) (by kernel_rfl) (hc.waits (n := 13) (i := 10) (by kernel_rfl) (hc.waits (n := 10) (i := 9) (by kernel_rfl) (hc.waits (n := 9) (i := 8) (by kernel_rfl) h))))) (by kernel_rfl) (fun _ _ _ h => h) hA6 (.inl ⟨rfl, fun w5 q1 => ?_⟩) ?_
            · go_simp
            simp only [Act.put, List.setIfInBounds_toArray, List.set]
            refine wpG_takeT (i := 9) (v := .bool false) rfl (fun L hc h => (hc.waits (n := 22) (i := 13) (by kernel_rfl) (hc.waits (n := 13) (i := 10) (by kernel_rfl) (hc.waits (n := 10) (i := 9) (by kernel_rfl) h)))) (by kernel_rfl) (fun _ _ _ h => h) hA6 (.inl ⟨rfl, fun w5 q1 => ?_⟩) ?_
            · go_simp
            simp only [Act.put, List.setIfInBounds_toArray, List.set]
            refine wpG_takeT (i := 10) (v := .bool false) rfl (fun L hc h => (hc.waits (n := 22) (i := 13) (by kernel_rfl) (hc.waits (n := 13) (i := 10) (by kernel_rfl) h))) (by kernel_rfl) (fun _ _ _ h => h) hA6 (.inl ⟨rfl, fun w5 q1 => ?_⟩) ?_
            · go_simp
            simp only [Act.put, List.setIfInBounds_toArray, List.set]
            refine wpG_takeT (i := 11) (v := .int .i64 ((j : Int) + 1)) rfl (fun L hc h => (hc.waits (n := 22) (i := 13) (by kernel_rfl) (hc.waits (n := 13) (i := 12) (by kernel_rfl) (hc.waits (n := 12) (i := 11) (by kernel_rfl) h)))) (by kernel_rfl) (fun _ _ _ h => h) hA6 (.inl ⟨rfl, fun w5 q1 => ?_⟩) ?_
            · go_simp
            simp only [Act.put, List.setIfInBounds_toArray, List.set]
            refine wpG_takeT (i := 12) (v := .bool true) rfl (fun L hc h => (hc.waits (n := 22) (i := 13) (by kernel_rfl) (hc.waits (n := 13) (i := 12) (by kernel_rfl) h))) (by kernel_rfl) (fun _ _ _ h => h) hA6 (.inl ⟨rfl, fun w5 q1 => ?_⟩) ?_
            · go_simp
            simp only [Act.put, List.setIfInBounds_toArray, List.set]
            refine wpG_takeT (i := 13) (v := .bool true) rfl (fun L hc h => (hc.waits (n := 22) (i := 13) (by kernel_rfl) h)) (by kernel_rfl) (fun _ _ _ h => h) hA6 (.inl ⟨rfl, fun w5 q1 => ?_⟩) ?_
            · go_simp
            simp only [Act.put, List.setIfInBounds_toArray, List.set]
            refine wpG_takeT (i := 14) (v := .pointer (some ⟨b0, 0, none⟩)) rfl (fun L hc h => (hc.waits (n := 22) (i := 20) (by kernel_rfl) (hc.waits (n := 20) (i := 19) (by kernel_rfl) (hc.waits (n := 19) (i := 18) (by kernel_rfl) (hc.waits (n := 18) (i := 15) (by kernel_rfl) (hc.waits (n := 15) (i := 14) (by kernel_rfl) h)))))) (by kernel_rfl) (fun _ _ _ h => h) hA6 (.inl ⟨rfl, fun w5 q1 => ?_⟩) ?_
            · go_simp
            simp only [Act.put, List.setIfInBounds_toArray, List.set]
            refine wpG_takeT (i := 15) (v := .slice (some ⟨b, f, none⟩) l.length c) rfl (fun L hc h => (hc.waits (n := 22) (i := 20) (by kernel_rfl) (hc.waits (n := 20) (i := 19) (by kernel_rfl) (hc.waits (n := 19) (i := 18) (by kernel_rfl) (hc.waits (n := 18) (i := 15) (by kernel_rfl) h))))) (by kernel_rfl) (fun _ _ _ h => h) hA6 (.inl ⟨rfl, fun w5 q1 => ?_⟩) ?_
            · have c0 := cells1_of ((q1.block _ (lt_of_heap HX1.out) (fun e => e)).trans HX1.out)
              go_simp
            simp only [Act.put, List.setIfInBounds_toArray, List.set]
            refine wpG_takeT (i := 16) (v := .int .i64 ((j : Int) + 1)) rfl (fun L hc h => (hc.waits (n := 22) (i := 20) (by kernel_rfl) (hc.waits (n := 20) (i := 19) (by kernel_rfl) (hc.waits (n := 19) (i := 18) (by kernel_rfl) (hc.waits (n := 18) (i := 17) (by kernel_rfl) (hc.waits (n := 17) (i := 16) (by kernel_rfl) h)))))) (by kernel_rfl) (fun _ _ _ h => h) hA6 (.inl ⟨rfl, fun w5 q1 => ?_⟩) ?_
            · go_simp
            simp only [Act.put, List.setIfInBounds_toArray, List.set]
            refine wpG_takeT (i := 17) (v := .int .i64 j) rfl (fun L hc h => (hc.waits (n := 22) (i := 20) (by kernel_rfl) (hc.waits (n := 20) (i := 19) (by kernel_rfl) (hc.waits (n := 19) (i := 18) (by kernel_rfl) (hc.waits (n := 18) (i := 17) (by kernel_rfl) h))))) (by kernel_rfl) (fun _ _ _ h => h) hA6 (.inl ⟨rfl, fun w5 q1 => ?_⟩) ?_
            · have hw : IntKind.i64.wrap (j : Int) = j := by rw [IntKind.wrap_i64]; omega
              go_simp
            simp only [Act.put, List.setIfInBounds_toArray, List.set]
            refine wpG_takeT (i := 18) (v := .pointer (some ⟨b, f + j * 4, none⟩)) rfl (fun L hc h => (hc.waits (n := 22) (i := 20) (by kernel_rfl) (hc.waits (n := 20) (i := 19) (by kernel_rfl) (hc.waits (n := 19) (i := 18) (by kernel_rfl) h)))) (by kernel_rfl) (fun _ _ _ h => h) hA6 (.inl ⟨rfl, fun w5 q1 => ?_⟩) ?_
            · go_simp
            simp only [Act.put, List.setIfInBounds_toArray, List.set]
            refine wpG_takeT (i := 19) (v := .agg #[.int .i64 y.src, .int .i64 y.key, .int .i64 y.count, .int .i64 y.sum]) rfl (fun L hc h => (hc.waits (n := 22) (i := 20) (by kernel_rfl) (hc.waits (n := 20) (i := 19) (by kernel_rfl) h))) (by kernel_rfl) (fun _ _ _ h => h) hA6 (.inl ⟨rfl, fun w5 q1 => ?_⟩) ?_
            · obtain ⟨y0, y1, y2, y3⟩ := HY.out w5 q1
              go_simp
            simp only [Act.put, List.setIfInBounds_toArray, List.set]
            refine wpG_takeT (i := 21) (v := .agg #[.int .i64 x.src, .int .i64 x.key, .int .i64 x.count, .int .i64 x.sum]) rfl (fun L hc h => (hc.waits (n := 22) (i := 21) (by kernel_rfl) h)) (by kernel_rfl) (fun _ _ _ h => h) hA6 (.inl ⟨rfl, fun w5 q1 => ?_⟩) ?_
            · obtain ⟨c0, c1, c2, c3⟩ := cells4_at ((q1.block _ (lt_of_heap HX4.out) (fun e => e)).trans HX4.out)
              go_simp
            simp only [Act.put, List.setIfInBounds_toArray, List.set]
            refine wpG_doIf (i := 20) rfl (by kernel_rfl) rfl (fun K hK => ?_)
            have HKK := Lib.hid hK
            clear hK
            go_step
            refine (tkey_any y _).mono ?_
            rintro _ w26 ⟨rfl, hu6⟩
            have hA7 := hA6.trans hu6
            clear hu6
            simp only []
            refine HKK.out _ _ hA7 ?_
            clear HKK
            simp only [Act.put, List.setIfInBounds_toArray, List.set]
            refine wpG_tail_lit (k := 22) rfl rfl (by kernel_rfl) ?_
            simp only [List.drop]
            have HCM := Lib.hid (fun W => compare_any y.rec' x.rec' W)
            have HBA := Lib.hid (show badAt (prevAt l (j + 1)) x = decide (0 ≤ cmpR y.rec' x.rec') by rw [HPV.out]; simp [badAt, hz]; omega)
            obtain ⟨cm, hcm⟩ : ∃ cm, cm = cmpR y.rec' x.rec' := ⟨_, rfl⟩
            rw [← hcm] at HCM HBA
            clear hc hy hz hcm
            go_wp2_with (go_at_call 68; fail)
            refine (tkey_any x _).mono ?_
            rintro _ w22 ⟨rfl, hu6⟩
            have hA8 := hA7.trans hu6
            clear hu6
            simp only []
            go_wp2_with (go_at_call 133; fail)
            refine (HCM.out _).mono ?_
            rintro _ w23 ⟨rfl, hu6⟩
            have HA9 := Lib.hid (hA8.trans hu6)
            clear hu6 hA8 hA7 hA6 hA5 hA
            simp only []
            by_cases hcm : 0 ≤ cm
            · rw [decide_eq_true hcm] at HBA
              go_wp2
              go_ret
              exact ⟨ret_int (chkT_no (by rw [← HT2.out, tab_no HBA.out])).symm, HU.out.trans (HU4.out.trans HA9.out)⟩
            · rw [decide_eq_false hcm] at HBA
              have hcm' : cm < 0 := by omega
              go_wp2
              go_roundw
              case rel => exact ⟨j + 1 + 1, by omega, by go_num, Lib.hid (by rw [← HT2.out, tab_yes HBA.out, prevAt_succ HL.out]), Lib.hid (HU4.out.trans HA9.out)⟩
              case measure => simp [intOf]; omega
      · have HBAD := Lib.hid (show badAt (prevAt l k) x = true by simp [badAt, hz])
        have hz' : (chkRec x.rec' != 0) = true := by simpa using hz
        refine wp_region_G 22 (fun W => Upd0 w4 W) [false, false, false, false, false, false, false, false, false, false, false, false, false, false, false, false, false, false, false, false, false, false, false, false, false, false, false] rfl (by kernel_rfl) ?_
        refine wpG_takeT (i := 0) (v := .agg #[.int .i64 x.src, .int .i64 x.key, .int .i64 x.count, .int .i64 x.sum]) rfl (fun L hc h => (hc.waits (n := 22) (i := 13) (by kernel_rfl) (hc.waits (n := 13) (i := 10) (by kernel_rfl) (hc.waits (n := 10) (i := 4) (by kernel_rfl) (hc.waits (n := 4) (i := 2) (by kernel_rfl) (hc.waits (n := 2) (i := 1) (by kernel_rfl) (hc.waits (n := 1) (i := 0) (by kernel_rfl) h))))))) (by kernel_rfl) (fun _ _ _ h => h) hA (.inl ⟨rfl, fun w5 q1 => ?_⟩) ?_
        · obtain ⟨c0, c1, c2, c3⟩ := cells4_at ((q1.block _ (lt_of_heap HX4.out) (fun e => e)).trans HX4.out)
          go_simp
        simp only [Act.put, List.setIfInBounds_toArray, List.set]
        refine wpG_doIf (i := 1) rfl (by kernel_rfl) rfl (fun K hK => ?_)
        have HKK := Lib.hid hK
        clear hK
        go_step
        refine (tkey_any x _).mono ?_
        rintro _ w7 ⟨rfl, hu6⟩
        have hA5 := hA.trans hu6
        clear hu6
        simp only []
        refine HKK.out _ _ hA5 ?_
        clear HKK
        simp only [Act.put, List.setIfInBounds_toArray, List.set]
        refine wpG_doIf (i := 2) rfl (by kernel_rfl) rfl (fun K hK => ?_)
        have HKK := Lib.hid hK
        clear hK
        go_step
        refine (reccheck_any x.rec' _).mono ?_
        rintro _ w8 ⟨rfl, hu6⟩
        have hA6 := hA5.trans hu6
        clear hu6
        simp only []
        refine HKK.out _ _ hA6 ?_
        clear HKK
        simp only [Act.put, List.setIfInBounds_toArray, List.set]
        refine wpG_takeT (i := 3) (v := .bool true) rfl (fun L hc h => (hc.waits (n := 22) (i := 13) (by kernel_rfl) (hc.waits (n := 13) (i := 10) (by kernel_rfl) (hc.waits (n := 10) (i := 4) (by kernel_rfl) (hc.waits (n := 4) (i := 3) (by kernel_rfl) h))))) (by kernel_rfl) (fun _ _ _ h => h) hA6 (.inl ⟨rfl, fun w5 q1 => ?_⟩) ?_
        · go_simp
        simp only [Act.put, List.setIfInBounds_toArray, List.set]
        refine wpG_takeT (i := 4) (v := .bool true) rfl (fun L hc h => (hc.waits (n := 22) (i := 13) (by kernel_rfl) (hc.waits (n := 13) (i := 10) (by kernel_rfl) (hc.waits (n := 10) (i := 4) (by kernel_rfl) h)))) (by kernel_rfl) (fun _ _ _ h => h) hA6 (.inl ⟨rfl, fun w5 q1 => ?_⟩) ?_
        · go_simp
        simp only [Act.put, List.setIfInBounds_toArray, List.set]
        refine wpG_takeT (i := 5) (v := undef) rfl (fun L hc h => (hc.waits (n := 22) (i := 13) (by kernel_rfl) (hc.waits (n := 13) (i := 10) (by kernel_rfl) (hc.waits (n := 10) (i := 9) (by kernel_rfl) (hc.waits (n := 9) (i := 8) (by kernel_rfl) (hc.waits (n := 8) (i := 7) (by kernel_rfl) (hc.waits (n := 7) (i := 6) (by kernel_rfl) (hc.waits (n := 6) (i := 5) (by kernel_rfl) h)))))))) (by kernel_rfl) (fun _ _ _ h => h) hA6 (.inr ⟨rfl, rfl⟩) ?_
        simp only [Act.put, List.setIfInBounds_toArray, List.set]
        refine wpG_takeT (i := 6) (v := undef) rfl (fun L hc h => (hc.waits (n := 22) (i := 13) (by kernel_rfl) (hc.waits (n := 13) (i := 10) (by kernel_rfl) (hc.waits (n := 10) (i := 9) (by kernel_rfl) (hc.waits (n := 9) (i := 8) (by kernel_rfl) (hc.waits (n := 8) (i := 7) (by kernel_rfl) (hc.waits (n := 7) (i := 6) (by kernel_rfl) h))))))) (by kernel_rfl) (fun _ _ _ h => h) hA6 (.inr ⟨rfl, rfl⟩) ?_
        simp only [Act.put, List.setIfInBounds_toArray, List.set]
        refine wpG_takeT (i := 7) (v := undef) rfl (fun L hc h => (hc.waits (n := 22) (i := 13) (by kernel_rfl) (hc.waits (n := 13) (i := 10) (by kernel_rfl) (hc.waits (n := 10) (i := 9) (by kernel_rfl) (hc.waits (n := 9) (i := 8) (by kernel_rfl) (hc.waits (n := 8) (i := 7) (by kernel_rfl) h)))))) (by kernel_rfl) (fun _ _ _ h => h) hA6 (.inr ⟨rfl, rfl⟩) ?_
        simp only [Act.put, List.setIfInBounds_toArray, List.set]
        refine wpG_takeT (i := 8) (v := undef) rfl (fun L hc h => (hc.waits (n := 22) (i := 13) (by kernel_rfl) (hc.waits (n := 13) (i := 10) (by kernel_rfl) (hc.waits (n := 10) (i := 9) (by kernel_rfl) (hc.waits (n := 9) (i := 8) (by kernel_rfl) h))))) (by kernel_rfl) (fun _ _ _ h => h) hA6 (.inr ⟨rfl, rfl⟩) ?_
        simp only [Act.put, List.setIfInBounds_toArray, List.set]
        refine wpG_takeT (i := 9) (v := .bool true) rfl (fun L hc h => (hc.waits (n := 22) (i := 13) (by kernel_rfl) (hc.waits (n := 13) (i := 10) (by kernel_rfl) (hc.waits (n := 10) (i := 9) (by kernel_rfl) h)))) (by kernel_rfl) (fun _ _ _ h => h) hA6 (.inl ⟨rfl, fun w5 q1 => ?_⟩) ?_
        · go_simp
        simp only [Act.put, List.setIfInBounds_toArray, List.set]
        refine wpG_takeT (i := 10) (v := .bool true) rfl (fun L hc h => (hc.waits (n := 22) (i := 13) (by kernel_rfl) (hc.waits (n := 13) (i := 10) (by kernel_rfl) h))) (by kernel_rfl) (fun _ _ _ h => h) hA6 (.inl ⟨rfl, fun w5 q1 => ?_⟩) ?_
        · go_simp
        simp only [Act.put, List.setIfInBounds_toArray, List.set]
        refine wpG_takeT (i := 11) (v := undef) rfl (fun L hc h => (hc.waits (n := 22) (i := 13) (by kernel_rfl) (hc.waits (n := 13) (i := 12) (by kernel_rfl) (hc.waits (n := 12) (i := 11) (by kernel_rfl) h)))) (by kernel_rfl) (fun _ _ _ h => h) hA6 (.inr ⟨rfl, rfl⟩) ?_
        simp only [Act.put, List.setIfInBounds_toArray, List.set]
        refine wpG_takeT (i := 12) (v := undef) rfl (fun L hc h => (hc.waits (n := 22) (i := 13) (by kernel_rfl) (hc.waits (n := 13) (i := 12) (by kernel_rfl) h))) (by kernel_rfl) (fun _ _ _ h => h) hA6 (.inr ⟨rfl, rfl⟩) ?_
        simp only [Act.put, List.setIfInBounds_toArray, List.set]
        refine wpG_takeT (i := 13) (v := undef) rfl (fun L hc h => (hc.waits (n := 22) (i := 13) (by kernel_rfl) h)) (by kernel_rfl) (fun _ _ _ h => h) hA6 (.inr ⟨rfl, rfl⟩) ?_
        simp only [Act.put, List.setIfInBounds_toArray, List.set]
        refine wpG_takeT (i := 14) (v := undef) rfl (fun L hc h => (hc.waits (n := 22) (i := 20) (by kernel_rfl) (hc.waits (n := 20) (i := 19) (by kernel_rfl) (hc.waits (n := 19) (i := 18) (by kernel_rfl) (hc.waits (n := 18) (i := 15) (by kernel_rfl) (hc.waits (n := 15) (i := 14) (by kernel_rfl) h)))))) (by kernel_rfl) (fun _ _ _ h => h) hA6 (.inr ⟨rfl, rfl⟩) ?_
        simp only [Act.put, List.setIfInBounds_toArray, List.set]
        refine wpG_takeT (i := 15) (v := undef) rfl (fun L hc h => (hc.waits (n := 22) (i := 20) (by kernel_rfl) (hc.waits (n := 20) (i := 19) (by kernel_rfl) (hc.waits (n := 19) (i := 18) (by kernel_rfl) (hc.waits (n := 18) (i := 15) (by kernel_rfl) h))))) (by kernel_rfl) (fun _ _ _ h => h) hA6 (.inr ⟨rfl, rfl⟩) ?_
        simp only [Act.put, List.setIfInBounds_toArray, List.set]
        refine wpG_takeT (i := 16) (v := undef) rfl (fun L hc h => (hc.waits (n := 22) (i := 20) (by kernel_rfl) (hc.waits (n := 20) (i := 19) (by kernel_rfl) (hc.waits (n := 19) (i := 18) (by kernel_rfl) (hc.waits (n := 18) (i := 17) (by kernel_rfl) (hc.waits (n := 17) (i := 16) (by kernel_rfl) h)))))) (by kernel_rfl) (fun _ _ _ h => h) hA6 (.inr ⟨rfl, rfl⟩) ?_
        simp only [Act.put, List.setIfInBounds_toArray, List.set]
        refine wpG_takeT (i := 17) (v := undef) rfl (fun L hc h => (hc.waits (n := 22) (i := 20) (by kernel_rfl) (hc.waits (n := 20) (i := 19) (by kernel_rfl) (hc.waits (n := 19) (i := 18) (by kernel_rfl) (hc.waits (n := 18) (i := 17) (by kernel_rfl) h))))) (by kernel_rfl) (fun _ _ _ h => h) hA6 (.inr ⟨rfl, rfl⟩) ?_
        simp only [Act.put, List.setIfInBounds_toArray, List.set]
        refine wpG_takeT (i := 18) (v := undef) rfl (fun L hc h => (hc.waits (n := 22) (i := 20) (by kernel_rfl) (hc.waits (n := 20) (i := 19) (by kernel_rfl) (hc.waits (n := 19) (i := 18) (by kernel_rfl) h)))) (by kernel_rfl) (fun _ _ _ h => h) hA6 (.inr ⟨rfl, rfl⟩) ?_
        simp only [Act.put, List.setIfInBounds_toArray, List.set]
        refine wpG_takeT (i := 19) (v := undef) rfl (fun L hc h => (hc.waits (n := 22) (i := 20) (by kernel_rfl) (hc.waits (n := 20) (i := 19) (by kernel_rfl) h))) (by kernel_rfl) (fun _ _ _ h => h) hA6 (.inr ⟨rfl, rfl⟩) ?_
        simp only [Act.put, List.setIfInBounds_toArray, List.set]
        refine wpG_takeT (i := 20) (v := undef) rfl (fun L hc h => (hc.waits (n := 22) (i := 20) (by kernel_rfl) h)) (by kernel_rfl) (fun _ _ _ h => h) hA6 (.inr ⟨rfl, rfl⟩) ?_
        simp only [Act.put, List.setIfInBounds_toArray, List.set]
        refine wpG_takeT (i := 21) (v := undef) rfl (fun L hc h => (hc.waits (n := 22) (i := 21) (by kernel_rfl) h)) (by kernel_rfl) (fun _ _ _ h => h) hA6 (.inr ⟨rfl, rfl⟩) ?_
        simp only [Act.put, List.setIfInBounds_toArray, List.set]
        refine wpG_tail_lit (k := 22) rfl rfl (by kernel_rfl) ?_
        simp only [List.drop]
        clear hz hz'
        go_wp2
        go_ret
        exact ⟨ret_int (chkT_no (by rw [← HT2.out, tab_no HBAD.out])).symm, HU.out.trans (HU4.out.trans hA6)⟩
    · obtain rfl : k = l.length := by omega
      have h1 := HT.out
      rw [List.drop_of_length_le (Nat.le_refl _)] at h1
      go_wp2
      go_ret
      exact ⟨ret_int (chkT_yes h1.symm).symm, HU.out.trans HR.out⟩
end Go.Proofs.YtbonfdkgkcbkmaaGreat
end

section
namespace Go.Proofs.YtbonfdkgkcbkmaaGreat
set_option maxRecDepth 100000
open Go.RowKit Go.Shelf

attribute [local go_sem] Oper.semAt_some
theorem at1_any (x : KcV) (k : RecV) (w : World) : Calls Tryz.prog 292 #[.agg #[.int .i64 x.src, .int .i64 x.key, .int .i64 x.count, .int .i64 x.sum], .agg #[.int .i64 k.src, .int .i64 k.key, .int .i64 k.val]] w fun e w' => e = .returned (.int .i64 (cmpR x.rec' k)) ∧ Upd0 w w' := by
  obtain ⟨w1, hw1⟩ : ∃ w1, w1 = (w.alloc (.cells #[.int .i64 x.src, .int .i64 x.key, .int .i64 x.count, .int .i64 x.sum] 63)).alloc (.cells #[.int .i64 k.src, .int .i64 k.key, .int .i64 k.val] 36) := ⟨_, rfl⟩
  have HU := Lib.hid (show Upd0 w w1 by rw [hw1]; exact ((Upd.refl _ w).alloc _).alloc _)
  obtain ⟨bx, hbx⟩ : ∃ bx, bx = w.heap.size := ⟨_, rfl⟩
  have HX4 := Lib.hid (show w1.heap[bx]? = some (.cells #[.int .i64 x.src, .int .i64 x.key, .int .i64 x.count, .int .i64 x.sum] 63 (0, 0)) by rw [hw1, hbx]; exact (alloc_lt (by simp)).trans (alloc_at rfl))
  have HK := Lib.hid (show w1.heap[bx + 1]? = some (.cells #[.int .i64 k.src, .int .i64 k.key, .int .i64 k.val] 36 (0, 0)) by rw [hw1, hbx]; exact alloc_at (by simp))
  have HCM := Lib.hid (fun W => compare_any x.rec' k W)
  obtain ⟨cm, hcm⟩ : ∃ cm, cm = cmpR x.rec' k := ⟨_, rfl⟩
  rw [← hcm] at HCM ⊢
  clear hcm
  go_enter Tryz.func292, Tryz.ntmps292
  go_wp2
  rw [← hw1, ← hbx]
  clear hw1 hbx
  have hA : Upd0 w1 w1.drew := (Upd.refl _ _).drew
  refine wp_region_G 3 (fun W => Upd0 w1 W) [false, false, false, false, false] rfl (by kernel_rfl) ?_
  refine wpG_takeT (i := 0) (v := .agg #[.int .i64 x.src, .int .i64 x.key, .int .i64 x.count, .int .i64 x.sum]) rfl (fun L hc h => (hc.waits (n := 3) (i := 1) (by kernel_rfl) (hc.waits (n := 1) (i := 0) (by kernel_rfl) h))) (by kernel_rfl) (fun _ _ _ h => h) hA (.inl ⟨rfl, fun w5 q1 => ?_⟩) ?_
  · obtain ⟨c0, c1, c2, c3⟩ := cells4_at ((q1.block _ (lt_of_heap HX4.out) (fun e => e)).trans HX4.out)
    go_simp
  simp only [Act.put, List.setIfInBounds_toArray, List.set]
  refine wpG_takeT (i := 2) (v := .agg #[.int .i64 k.src, .int .i64 k.key, .int .i64 k.val]) rfl (fun L hc h => (hc.waits (n := 3) (i := 2) (by kernel_rfl) h)) (by kernel_rfl) (fun _ _ _ h => h) hA (.inl ⟨rfl, fun w5 q1 => ?_⟩) ?_
  · obtain ⟨c0, c1, c2⟩ := cells3_of ((q1.block _ (lt_of_heap HK.out) (fun e => e)).trans HK.out)
    go_simp
  simp only [Act.put, List.setIfInBounds_toArray, List.set]
  refine wpG_doIf (i := 1) rfl (by kernel_rfl) rfl (fun K hK => ?_)
  have HKK := Lib.hid hK
  clear hK
  go_step
  refine (tkey_any x _).mono ?_
  rintro _ w7 ⟨rfl, hu6⟩
  have hA5 := hA.trans hu6
  clear hu6
  simp only []
  refine HKK.out _ _ hA5 ?_
  clear HKK
  simp only [Act.put, List.setIfInBounds_toArray, List.set]
  refine wpG_tail_lit (k := 3) rfl rfl (by kernel_rfl) ?_
  simp only [List.drop]
  go_wp2_with (go_at_call 133; fail)
  refine (HCM.out _).mono ?_
  rintro _ w9 ⟨rfl, hu9⟩
  have HU9 := Lib.hid (HU.out.trans (hA5.trans hu9))
  clear hu9 hA5 hA
  simp only []
  go_wp2
  go_ret
  exact ⟨rfl, HU9.out⟩
def ltK (k : RecV) (x : KcV) : Bool := decide (cmpR x.rec' k < 0)
def foundB (l : List KcV) (m : Nat) (k : RecV) : Bool := match l[m]? with
  | some x => cmpR x.rec' k == 0
  | none => false
theorem callAt1 : ∀ args w, (callFunc 292 args).run Tryz.prog w = .ok (.enter 292 args) w := enters_of Tryz.func292 (by kernel_rfl) rfl
set_option maxHeartbeats 8000000 in
theorem bsearch_any {a : Option Addr} {l : List KcV} {c m : Nat} (k : RecV) (w : World) (h : KcsIn w a l) (hl : l.length ≤ 140737488351232) (hm : m ≤ l.length) (h1 : ∀ i x, l[i]? = some x → i < m → ltK k x = true) (h2 : ∀ i x, l[i]? = some x → m ≤ i → ltK k x = false) :
    Calls Tryz.prog 291 #[.slice a l.length c, .agg #[.int .i64 k.src, .int .i64 k.key, .int .i64 k.val], .func (.func 292) #[] #[]] w fun e w' => e = .returned (.tuple #[.int .i64 m, .bool (foundB l m k)]) ∧ Upd0 w w' := by
  obtain ⟨w1, hw1⟩ : ∃ w1, w1 = w.alloc (.cells #[.int .i64 k.src, .int .i64 k.key, .int .i64 k.val] 36) := ⟨_, rfl⟩
  have HU := Lib.hid (show Upd0 w w1 by rw [hw1]; exact (Upd.refl _ w).alloc _)
  obtain ⟨bk, hbk⟩ : ∃ bk, bk = w.heap.size := ⟨_, rfl⟩
  have HK := Lib.hid (show w1.heap[bk]? = some (.cells #[.int .i64 k.src, .int .i64 k.key, .int .i64 k.val] 36 (0, 0)) by rw [hw1, hbk]; exact alloc_at rfl)
  have H := Lib.hid (h.kept HU.out); have H1 := Lib.hid h1; have H2 := Lib.hid h2
  have HCA := Lib.hid callAt1
  obtain ⟨fb, hfb⟩ : ∃ fb, fb = foundB l m k := ⟨_, rfl⟩
  have HFB := Lib.hid hfb
  rw [← hfb]
  obtain ⟨n, hn⟩ : ∃ n, n = l.length := ⟨_, rfl⟩
  have HN := Lib.hid hn
  rw [← hn] at hl hm ⊢
  clear h h1 h2 hfb hn
  go_enter Tryz.func291, Tryz.ntmps291
  go_wp2_with (fail)
  rw [← hw1, ← hbk]
  clear hw1 hbk
  go_loopw [9, 10] (fun ti tj wr => ∃ i j : Nat, i ≤ m ∧ m ≤ j ∧ j ≤ n ∧ ti = .int .i64 i ∧ tj = .int .i64 j ∧ Hid (Upd0 w1 wr)) (fun ti tj _ => (intOf tj).toNat - (intOf ti).toNat)
  case atStart => exact ⟨0, n, Nat.zero_le _, hm, Nat.le_refl _, rfl, rfl, Lib.hid (Upd.refl _ _)⟩
  case round =>
    obtain ⟨i, j, hi, hj, hjn, rfl, rfl, HR⟩ := hrel
    by_cases hlt : i < j
    · obtain ⟨q, hq⟩ : ∃ q, q = (i + j) / 2 := ⟨_, rfl⟩
      have hq1 : i ≤ q ∧ q < j := by omega
      obtain ⟨hq1, hq2⟩ := hq1
      obtain ⟨x, hx⟩ : ∃ x, l[q]? = some x := ⟨_, List.getElem?_eq_getElem (by rw [← HN.out]; omega)⟩
      obtain ⟨b, f, rfl, c0, c1, c2, c3⟩ := (H.out.kept HR.out).at hx
      obtain ⟨k0, k1, k2⟩ := cells3_of ((HR.out.block _ (lt_of_heap HK.out) (fun e => e)).trans HK.out)
      have HLX := Lib.hid hx
      have hltI : (i : Int) < j := by omega
      clear hx
      go_upto_region 5 with fail
      rw [show ((i : Int) + (j : Int)) / 2 = (q : Int) by omega]
      have hqn : (q : Int) < n := by omega
      clear hq
      go_still_tail 6, (by kernel_rfl)
      go_wp2_with (go_at_call 292; fail)
      have HC1 := Lib.hid (fun W => at1_any x k W)
      have HLT := Lib.hid (show ltK k x = decide (cmpR x.rec' k < 0) from rfl)
      obtain ⟨cm, hcm⟩ : ∃ cm, cm = cmpR x.rec' k := ⟨_, rfl⟩
      rw [← hcm] at HC1 HLT
      clear hcm
      refine (HC1.out _).mono ?_
      rintro _ w6 ⟨rfl, hu6⟩
      have HR6 := Lib.hid ((HR.out.trans (Upd.refl _ _).drew).trans hu6)
      clear hu6 HR k0 k1 k2 c0 c1 c2 c3
      simp only []
      by_cases hcm : cm < 0
      · rw [decide_eq_true hcm] at HLT
        have hqm : q < m := by
          apply Classical.byContradiction
          intro hn
          have := H2.out q x HLX.out (by omega)
          rw [HLT.out] at this
          cases this
        go_wp2
        go_roundw
        case rel => exact ⟨q + 1, j, by omega, by omega, by omega, by go_num, rfl, HR6⟩
        case measure => simp [intOf]; omega
      · rw [decide_eq_false hcm] at HLT
        have hqm : m ≤ q := by
          apply Classical.byContradiction
          intro hn
          have := H1.out q x HLX.out (by omega)
          rw [HLT.out] at this
          cases this
        go_wp2
        go_roundw
        case rel => exact ⟨i, q, by omega, by omega, by omega, rfl, by go_num, HR6⟩
        case measure => simp [intOf]; omega
    · obtain rfl : i = m := by omega
      obtain rfl : j = i := by omega
      by_cases hmn : j < n
      · obtain ⟨x, hx⟩ : ∃ x, l[j]? = some x := ⟨_, List.getElem?_eq_getElem (by rw [← HN.out]; omega)⟩
        have HFB2 := Lib.hid (show fb = (cmpR x.rec' k == 0) by rw [HFB.out, foundB, hx])
        obtain ⟨b, f, rfl, _⟩ := (H.out.kept HR.out).at hx
        have HX := Lib.hid (show ∀ W, Upd0 wr W → W.cell? ⟨b, f + j * 4, none⟩ = some (.int .i64 x.src) ∧ W.cell? ⟨b, f + j * 4 + 1, none⟩ = some (.int .i64 x.key) ∧ W.cell? ⟨b, f + j * 4 + 2, none⟩ = some (.int .i64 x.count) ∧ W.cell? ⟨b, f + j * 4 + 3, none⟩ = some (.int .i64 x.sum) from fun W hW => by
          obtain ⟨b2, f2, e2, y0, y1, y2, y3⟩ := ((H.out.kept HR.out).kept hW).at hx
          injection e2 with e2
          injection e2 with e2 e3
          subst e2 e3
          exact ⟨y0, y1, y2, y3⟩)
        have HKR := Lib.hid ((HR.out.block _ (lt_of_heap HK.out) (fun e => e)).trans HK.out)
        have HC1 := Lib.hid (fun W => at1_any x k W)
        obtain ⟨cm, hcm⟩ : ∃ cm, cm = cmpR x.rec' k := ⟨_, rfl⟩
        rw [← hcm] at HC1 HFB2
        have hmnI : (j : Int) < n := by omega
        clear hx hcm
        go_upto_region 8 with fail
        have hA : Upd0 wr wr.drew := (Upd.refl _ _).drew
        refine wp_region_G 15 (fun W => Upd0 wr W) [false, false, false, false, false, false, false, false, false, false, false, false, false, false, false, false] rfl (by kernel_rfl) ?_
        refine wpG_takeT (i := 0) (v := .int .i64 j) rfl (fun L hc h => (hc.waits (n := 15) (i := 0) (by kernel_rfl) h)) (by kernel_rfl) (fun _ _ _ h => h) hA (.inl ⟨rfl, fun w5 q1 => ?_⟩) ?_
        · go_simp
        simp only [Act.put, List.setIfInBounds_toArray, List.set]
        refine wpG_takeT (i := 1) (v := .int .i64 j) rfl (fun L hc h => (hc.waits (n := 15) (i := 1) (by kernel_rfl) h)) (by kernel_rfl) (fun _ _ _ h => h) hA (.inl ⟨rfl, fun w5 q1 => ?_⟩) ?_
        · go_simp
        simp only [Act.put, List.setIfInBounds_toArray, List.set]
        refine wpG_takeT (i := 2) (v := .int .i64 n) rfl (fun L hc h => (hc.waits (n := 15) (i := 2) (by kernel_rfl) h)) (by kernel_rfl) (fun _ _ _ h => h) hA (.inl ⟨rfl, fun w5 q1 => ?_⟩) ?_
        · go_simp
        simp only [Act.put, List.setIfInBounds_toArray, List.set]
        refine wpG_takeT (i := 3) (v := .bool true) rfl (fun L hc h => (hc.waits (n := 15) (i := 3) (by kernel_rfl) h)) (by kernel_rfl) (fun _ _ _ h => h) hA (.inl ⟨rfl, fun w5 q1 => ?_⟩) ?_
        · go_simp
        simp only [Act.put, List.setIfInBounds_toArray, List.set]
        refine wpG_takeT (i := 4) (v := .bool true) rfl (fun L hc h => (hc.waits (n := 15) (i := 4) (by kernel_rfl) h)) (by kernel_rfl) (fun _ _ _ h => h) hA (.inl ⟨rfl, fun w5 q1 => ?_⟩) ?_
        · go_simp
        simp only [Act.put, List.setIfInBounds_toArray, List.set]
        refine wpG_takeT (i := 5) (v := .func (.func 292) #[] #[]) rfl (fun L hc h => (hc.waits (n := 15) (i := 5) (by kernel_rfl) h)) (by kernel_rfl) (fun _ _ _ h => h) hA (.inl ⟨rfl, fun w5 q1 => ?_⟩) ?_
        · go_simp
        simp only [Act.put, List.setIfInBounds_toArray, List.set]
        refine wpG_takeT (i := 6) (v := .slice (some ⟨b, f, none⟩) n c) rfl (fun L hc h => (hc.waits (n := 15) (i := 6) (by kernel_rfl) h)) (by kernel_rfl) (fun _ _ _ h => h) hA (.inl ⟨rfl, fun w5 q1 => ?_⟩) ?_
        · go_simp
        simp only [Act.put, List.setIfInBounds_toArray, List.set]
        refine wpG_takeT (i := 7) (v := .int .i64 j) rfl (fun L hc h => (hc.waits (n := 15) (i := 7) (by kernel_rfl) h)) (by kernel_rfl) (fun _ _ _ h => h) hA (.inl ⟨rfl, fun w5 q1 => ?_⟩) ?_
        · go_simp
        simp only [Act.put, List.setIfInBounds_toArray, List.set]
        refine wpG_takeT (i := 8) (v := .pointer (some ⟨b, f + j * 4, none⟩)) rfl (fun L hc h => (hc.waits (n := 15) (i := 8) (by kernel_rfl) h)) (by kernel_rfl) (fun _ _ _ h => h) hA (.inl ⟨rfl, fun w5 q1 => ?_⟩) ?_
        · go_simp
        simp only [Act.put, List.setIfInBounds_toArray, List.set]
        refine wpG_takeT (i := 9) (v := .agg #[.int .i64 x.src, .int .i64 x.key, .int .i64 x.count, .int .i64 x.sum]) rfl (fun L hc h => (hc.waits (n := 15) (i := 9) (by kernel_rfl) h)) (by kernel_rfl) (fun _ _ _ h => h) hA (.inl ⟨rfl, fun w5 q1 => ?_⟩) ?_
        · obtain ⟨y0, y1, y2, y3⟩ := HX.out w5 q1
          go_simp
        simp only [Act.put, List.setIfInBounds_toArray, List.set]
        refine wpG_takeT (i := 10) (v := .agg #[.int .i64 k.src, .int .i64 k.key, .int .i64 k.val]) rfl (fun L hc h => (hc.waits (n := 15) (i := 10) (by kernel_rfl) h)) (by kernel_rfl) (fun _ _ _ h => h) hA (.inl ⟨rfl, fun w5 q1 => ?_⟩) ?_
        · have kk := (q1.block _ (lt_of_heap HKR.out) (fun e => e)).trans HKR.out
          obtain ⟨c0, c1, c2⟩ := cells3_of kk
          go_simp
        simp only [Act.put, List.setIfInBounds_toArray, List.set]
        refine wpG_doIf (i := 11) rfl (by kernel_rfl) rfl (fun K hK => ?_)
        have HKK := Lib.hid hK
        clear hK
        go_step
        refine (HC1.out _).mono ?_
        rintro _ w7 ⟨rfl, hu6⟩
        have hA6 := hA.trans hu6
        clear hu6
        simp only []
        refine HKK.out _ _ hA6 ?_
        clear HKK
        simp only [Act.put, List.setIfInBounds_toArray, List.set]
        refine wpG_takeT (i := 12) (v := .bool (cm == 0)) rfl (fun L hc h => (hc.waits (n := 15) (i := 12) (by kernel_rfl) h)) (by kernel_rfl) (fun _ _ _ h => h) hA6 (.inl ⟨rfl, fun w5 q1 => ?_⟩) ?_
        · go_simp
        simp only [Act.put, List.setIfInBounds_toArray, List.set]
        refine wpG_takeT (i := 13) (v := .bool (cm == 0)) rfl (fun L hc h => (hc.waits (n := 15) (i := 13) (by kernel_rfl) h)) (by kernel_rfl) (fun _ _ _ h => h) hA6 (.inl ⟨rfl, fun w5 q1 => ?_⟩) ?_
        · go_simp
        simp only [Act.put, List.setIfInBounds_toArray, List.set]
        refine wpG_takeT (i := 14) (v := .int .i64 j) rfl (fun L hc h => (hc.waits (n := 15) (i := 14) (by kernel_rfl) h)) (by kernel_rfl) (fun _ _ _ h => h) hA6 (.inl ⟨rfl, fun w5 q1 => ?_⟩) ?_
        · go_simp
        simp only [Act.put, List.setIfInBounds_toArray, List.set]
        refine wpG_tail_lit (k := 15) rfl rfl (by kernel_rfl) ?_
        simp only [List.drop]
        have HU9 := Lib.hid (HU.out.trans (HR.out.trans hA6))
        go_wp2
        go_ret2
        exact ⟨by rw [HFB2.out]; rfl, HU9.out⟩
      · have HFB2 := Lib.hid (show fb = false by rw [HFB.out, foundB, List.getElem?_eq_none (by rw [← HN.out]; omega)])
        have hmnI : ¬ (j : Int) < n := by omega
        go_upto_region 8 with fail
        have hA : Upd0 wr wr.drew := (Upd.refl _ _).drew
        refine wp_region_G 15 (fun W => Upd0 wr W) [false, false, false, false, false, false, false, false, false, false, false, false, false, false, false, false] rfl (by kernel_rfl) ?_
        refine wpG_takeT (i := 0) (v := .int .i64 j) rfl (fun L hc h => (hc.waits (n := 15) (i := 0) (by kernel_rfl) h)) (by kernel_rfl) (fun _ _ _ h => h) hA (.inl ⟨rfl, fun w5 q1 => ?_⟩) ?_
        · go_simp
        simp only [Act.put, List.setIfInBounds_toArray, List.set]
        refine wpG_takeT (i := 1) (v := .int .i64 j) rfl (fun L hc h => (hc.waits (n := 15) (i := 1) (by kernel_rfl) h)) (by kernel_rfl) (fun _ _ _ h => h) hA (.inl ⟨rfl, fun w5 q1 => ?_⟩) ?_
        · go_simp
        simp only [Act.put, List.setIfInBounds_toArray, List.set]
        refine wpG_takeT (i := 2) (v := .int .i64 n) rfl (fun L hc h => (hc.waits (n := 15) (i := 2) (by kernel_rfl) h)) (by kernel_rfl) (fun _ _ _ h => h) hA (.inl ⟨rfl, fun w5 q1 => ?_⟩) ?_
        · go_simp
        simp only [Act.put, List.setIfInBounds_toArray, List.set]
        refine wpG_takeT (i := 3) (v := .bool false) rfl (fun L hc h => (hc.waits (n := 15) (i := 3) (by kernel_rfl) h)) (by kernel_rfl) (fun _ _ _ h => h) hA (.inl ⟨rfl, fun w5 q1 => ?_⟩) ?_
        · go_simp
        simp only [Act.put, List.setIfInBounds_toArray, List.set]
        refine wpG_takeT (i := 4) (v := .bool false) rfl (fun L hc h => (hc.waits (n := 15) (i := 4) (by kernel_rfl) h)) (by kernel_rfl) (fun _ _ _ h => h) hA (.inl ⟨rfl, fun w5 q1 => ?_⟩) ?_
        · go_simp
        simp only [Act.put, List.setIfInBounds_toArray, List.set]
        refine wpG_takeT (i := 5) (v := undef) rfl (fun L hc h => (hc.waits (n := 15) (i := 5) (by kernel_rfl) h)) (by kernel_rfl) (fun _ _ _ h => h) hA (.inr ⟨rfl, rfl⟩) ?_
        simp only [Act.put, List.setIfInBounds_toArray, List.set]
        refine wpG_takeT (i := 6) (v := undef) rfl (fun L hc h => (hc.waits (n := 15) (i := 6) (by kernel_rfl) h)) (by kernel_rfl) (fun _ _ _ h => h) hA (.inr ⟨rfl, rfl⟩) ?_
        simp only [Act.put, List.setIfInBounds_toArray, List.set]
        refine wpG_takeT (i := 7) (v := undef) rfl (fun L hc h => (hc.waits (n := 15) (i := 7) (by kernel_rfl) h)) (by kernel_rfl) (fun _ _ _ h => h) hA (.inr ⟨rfl, rfl⟩) ?_
        simp only [Act.put, List.setIfInBounds_toArray, List.set]
        refine wpG_takeT (i := 8) (v := undef) rfl (fun L hc h => (hc.waits (n := 15) (i := 8) (by kernel_rfl) h)) (by kernel_rfl) (fun _ _ _ h => h) hA (.inr ⟨rfl, rfl⟩) ?_
        simp only [Act.put, List.setIfInBounds_toArray, List.set]
        refine wpG_takeT (i := 9) (v := undef) rfl (fun L hc h => (hc.waits (n := 15) (i := 9) (by kernel_rfl) h)) (by kernel_rfl) (fun _ _ _ h => h) hA (.inr ⟨rfl, rfl⟩) ?_
        simp only [Act.put, List.setIfInBounds_toArray, List.set]
        refine wpG_takeT (i := 10) (v := undef) rfl (fun L hc h => (hc.waits (n := 15) (i := 10) (by kernel_rfl) h)) (by kernel_rfl) (fun _ _ _ h => h) hA (.inr ⟨rfl, rfl⟩) ?_
        simp only [Act.put, List.setIfInBounds_toArray, List.set]
        refine wpG_takeT (i := 11) (v := undef) rfl (fun L hc h => (hc.waits (n := 15) (i := 11) (by kernel_rfl) h)) (by kernel_rfl) (fun _ _ _ h => h) hA (.inr ⟨rfl, rfl⟩) ?_
        simp only [Act.put, List.setIfInBounds_toArray, List.set]
        refine wpG_takeT (i := 12) (v := undef) rfl (fun L hc h => (hc.waits (n := 15) (i := 12) (by kernel_rfl) h)) (by kernel_rfl) (fun _ _ _ h => h) hA (.inr ⟨rfl, rfl⟩) ?_
        simp only [Act.put, List.setIfInBounds_toArray, List.set]
        refine wpG_takeT (i := 13) (v := .bool false) rfl (fun L hc h => (hc.waits (n := 15) (i := 13) (by kernel_rfl) h)) (by kernel_rfl) (fun _ _ _ h => h) hA (.inl ⟨rfl, fun w5 q1 => ?_⟩) ?_
        · go_simp
        simp only [Act.put, List.setIfInBounds_toArray, List.set]
        refine wpG_takeT (i := 14) (v := .int .i64 j) rfl (fun L hc h => (hc.waits (n := 15) (i := 14) (by kernel_rfl) h)) (by kernel_rfl) (fun _ _ _ h => h) hA (.inl ⟨rfl, fun w5 q1 => ?_⟩) ?_
        · go_simp
        simp only [Act.put, List.setIfInBounds_toArray, List.set]
        refine wpG_tail_lit (k := 15) rfl rfl (by kernel_rfl) ?_
        simp only [List.drop]
        have HU9 := Lib.hid (HU.out.trans (HR.out.trans hA))
        go_wp2
        go_ret2
        exact ⟨by rw [HFB2.out]; rfl, HU9.out⟩
theorem at_any {a : Option Addr} {l : List KcV} {c m : Nat} (k : RecV) (w : World) (h : KcsIn w a l) (hl : l.length ≤ 140737488351232) (hm : m ≤ l.length) (h1 : ∀ i x, l[i]? = some x → i < m → ltK k x = true) (h2 : ∀ i x, l[i]? = some x → m ≤ i → ltK k x = false) :
    Calls Tryz.prog 219 #[.slice a l.length c, .agg #[.int .i64 k.src, .int .i64 k.key, .int .i64 k.val]] w fun e w' => e = .returned (.tuple #[.int .i64 m, .bool (foundB l m k)]) ∧ Upd0 w w' := by
  obtain ⟨w1, hw1⟩ : ∃ w1, w1 = w.alloc (.cells #[.int .i64 k.src, .int .i64 k.key, .int .i64 k.val] 36) := ⟨_, rfl⟩
  have HU := Lib.hid (show Upd0 w w1 by rw [hw1]; exact (Upd.refl _ w).alloc _)
  have HB := Lib.hid (bsearch_any (c := c) k w1 (h.kept HU.out) hl hm h1 h2)
  obtain ⟨fb, hfb⟩ : ∃ fb, fb = foundB l m k := ⟨_, rfl⟩
  rw [← hfb] at HB ⊢
  clear h hl hm h1 h2 hfb
  go_enter Tryz.func219, Tryz.ntmps219
  go_wp2_with (go_at_call 291; fail)
  rw [← hw1]
  clear hw1
  refine HB.out.mono ?_
  rintro _ w2 ⟨rfl, hu2⟩
  have HU2 := Lib.hid (HU.out.trans hu2)
  clear hu2
  simp only []
  go_wp2
  go_ret2
  exact ⟨rfl, HU2.out⟩
end Go.Proofs.YtbonfdkgkcbkmaaGreat
end

section
namespace Go.Proofs.YtbonfdkgkcbkmaaGreat
set_option maxRecDepth 100000
open Go.RowKit Go.Shelf

attribute [local go_sem] Oper.semAt_some
/-- Rows of a table in a slice of one's own. -/
abbrev OwnC (w : World) (B : Nat) (v : Value) (l : List KcV) : Prop := w.ownsRow B 63 4 v l.length (l.map KcV.cells).flatten
theorem mapC_lens (l : List KcV) : ∀ y ∈ l.map KcV.cells, y.length = 4 := fun y hy => by obtain ⟨r, _, rfl⟩ := List.mem_map.1 hy; rfl
theorem Row.of_ownK {s : Nat} {w : World} {B : Nat} {e : TypeId} {a : Option Addr} {n c : Nat} {els : List (List Value)} (hs : 0 < s) (h : w.ownsRow B e s (.slice a n c) n els.flatten) (hl : ∀ y ∈ els, y.length = s) (hn : els.length = n) : Row s w a els := by
  intro i x hx
  have hi := (List.getElem?_eq_some_iff.1 hx).1
  obtain ⟨g, rfl⟩ := own_head h (by omega)
  refine ⟨hl x (List.mem_of_getElem? hx), g, 0, rfl, fun t u hu => ?_⟩
  have hb := flat_at hl hx t u hu
  obtain ⟨g2, e2, hc⟩ := row_cell h (by rw [flat_len hl, hn]) hb
  injection e2 with e2
  injection e2 with e2
  subst e2
  rw [Nat.zero_add]
  exact hc
theorem OwnC.in' {w : World} {B : Nat} {a : Option Addr} {c : Nat} {l : List KcV} (h : OwnC w B (.slice a l.length c) l) : KcsIn w a l := Row.of_ownK (by omega) h (mapC_lens l) (by simp)
theorem oneC (l : List KcV) : ∀ u ∈ (l.map KcV.cells).flatten, u.oneCell' = true := by
  intro u hu
  rw [← List.flatMap_def] at hu
  obtain ⟨r, _, hr⟩ := List.mem_flatMap.1 hu
  simp only [KcV.cells, List.mem_cons, List.mem_nil_iff, or_false] at hr
  rcases hr with rfl | rfl | rfl | rfl <;> rfl
theorem infoKC : (Tryz.prog.info? 63).map (fun i => (i.zero, i.size, i.bytes)) = some (some (.agg #[.int .i64 0, .int .i64 0, .int .i64 0, .int .i64 0]), 4, 32) := by kernel_rfl
theorem appKc {w : World} {B : Nat} {v : Value} {l : List KcV} (h : w.ownsRow B 63 4 v (0 + l.length) ([] ++ (l.map KcV.cells).flatten)) : ∃ a c, v = .slice a l.length c ∧ OwnC w B (.slice a l.length c) l := by
  rw [Nat.zero_add, List.nil_append] at h
  obtain ⟨a, c, rfl⟩ := rowV h
  exact ⟨a, c, rfl, h⟩
set_option maxHeartbeats 2000000 in
theorem cloneC_any {a : Option Addr} {l : List KcV} {c : Nat} (w : World) (h : KcsIn w a l) (hl : l.length ≤ 1000000) :
    Calls Tryz.prog 218 #[.slice a l.length c] w fun e w' => ∃ a' c', e = .returned (.slice a' l.length c') ∧ OwnC w' w.heap.size (.slice a' l.length c') l ∧ Upd0 w w' := by
  cases a with
  | none =>
    have hn : l = [] := by
      match l, h with
      | [], _ => rfl
      | r :: l, h => obtain ⟨_, b, o, e, _⟩ := h 0 r.cells rfl; cases e
    subst hn
    have q22 : (binOp .eql 49 (.slice none 0 c) (.slice none 0 0)).run Tryz.prog w = .ok (.bool true) w := Lib.run_eql_slice_nil w _ _ _ _ _ _ _ Tryz.underlying49
    go_enter Tryz.func218, Tryz.ntmps218
    go_wp2
    go_ret
    exact ⟨none, 0, rfl, World.ownsRow_nil _ _ _ _, Upd.refl _ _⟩
  | some ad =>
    obtain ⟨w1, hw1⟩ : ∃ w1, w1 = w.alloc (.cells #[] 63) := ⟨_, rfl⟩
    have hu1 : Upd0 w w1 := by rw [hw1]; exact (Upd.refl _ w).alloc _
    have HE := Lib.hid (show w1.ownsRow w.heap.size 63 4 (.slice (some ⟨w.heap.size, 0, none⟩) 0 0) 0 [] by rw [hw1]; exact own_empty w 63 4 (Nat.le_refl _))
    have HI := Lib.hid (h.kept hu1)
    have HZ := Lib.hid (show w.heap.size ≤ w1.heap.size from hu1.size)
    have HU := Lib.hid hu1
    have q22 : (binOp .eql 49 (.slice (some ad) l.length c) (.slice none 0 0)).run Tryz.prog w = .ok (.bool false) w := Lib.run_eql_slice_nil w _ _ _ _ _ _ _ Tryz.underlying49
    clear h hu1
    go_enter Tryz.func218, Tryz.ntmps218
    go_wp2_with (at_builtin; obtain ⟨i0, hi, hz0, hs, hb⟩ := info_parts infoKC; rw [← hw1]; refine wpList_appR rfl (.tmp 5) (.tmp 6) 49 rfl w.heap.size 63 i0 (.agg #[.int .i64 0, .int .i64 0, .int .i64 0, .int .i64 0]) 4 32 Tryz.underlying49 hi hz0 hs hb rfl (by decide) (.slice (some ⟨w.heap.size, 0, none⟩) 0 0) 0 [] rfl HE.out (some ad) l.length c (l.map KcV.cells) rfl HI.out (by simp) (oneC _) (by unfold maxLen; omega) (by omega) HZ.out ?_; clear hi hz0 hs hb; intro v5 w5 hown5 hu5; obtain ⟨a5, c5, rfl, hi5⟩ := appKc hown5; clear hown5)
    go_ret
    exact ⟨a5, c5, rfl, hi5, HU.out.cut hu5 (fun j hj => by simp [Value.ownBlock] at hj; omega)⟩
theorem appC1 {w : World} {B : Nat} {v : Value} {l : List KcV} {x : KcV} (h : w.ownsRow B 63 4 v (l.length + 1) ((l.map KcV.cells).flatten ++ [x.cells].flatten)) : ∃ a c, v = .slice a (l ++ [x]).length c ∧ OwnC w B (.slice a (l ++ [x]).length c) (l ++ [x]) := by
  obtain ⟨a, c, rfl⟩ := rowV h
  refine ⟨a, c, by simp, ?_⟩
  show World.ownsRow _ _ _ _ _ _ _
  rw [List.map_append, List.flatten_append, List.length_append]
  exact h
set_option maxHeartbeats 2000000 in
theorem insertEnd_any {a : Option Addr} {l : List KcV} {c B vb : Nat} {x : KcV} (w : World) (h : OwnC w B (.slice a l.length c) l) (hx : w.heap[vb]? = some (.cells x.cells.toArray 63 (0, 0))) (hB : B ≤ w.heap.size) (hl : l.length ≤ 1000000) :
    Calls Tryz.prog 221 #[.slice a l.length c, .int .i64 l.length, .slice (some ⟨vb, 0, none⟩) 1 1] w fun e w' => ∃ a' c', e = .returned (.slice a' (l ++ [x]).length c') ∧ OwnC w' B (.slice a' (l ++ [x]).length c') (l ++ [x]) ∧ Upd (fun k => (Value.slice a l.length c).ownBlock = some k) w w' := by
  have HO := Lib.hid (show w.ownsRow B 63 4 (.slice a l.length c) l.length (l.map KcV.cells).flatten from h); have HB := Lib.hid hB
  have HI := Lib.hid (show Row 4 w (some ⟨vb, 0, none⟩) [x.cells] from by
    intro i y hy
    match i, hy with
    | 0, hy =>
      simp at hy
      subst hy
      refine ⟨rfl, vb, 0, rfl, fun t u hu => ?_⟩
      rw [Nat.zero_add, Nat.zero_mul, Nat.zero_add, cell_of_heap hx]
      simpa using hu
    | i + 1, hy => simp at hy)
  have hcn : l.length ≤ c ∧ c ≤ maxLen := by
    rcases h.2 with ⟨h1, h2⟩ | ⟨g, cap, cur, h1, _, _, h4, h5, _⟩
    · injection h1 with e1 e2 e3
      subst e3
      rw [h2]; exact ⟨Nat.le_refl _, by unfold maxLen; omega⟩
    · injection h1 with e1 e2 e3
      subst e3
      exact ⟨h4, h5⟩
  obtain ⟨hcn, hcm⟩ := hcn
  unfold maxLen at hcm
  obtain ⟨n, hn⟩ : ∃ n, n = l.length := ⟨_, rfl⟩
  have HN := Lib.hid hn
  rw [← hn] at hl hcn HO ⊢
  have hne : a = none → n = 0 := fun e => by
    subst e
    rcases h.2 with ⟨h1, h2⟩ | ⟨g, cap, cur, h1, _⟩
    · rw [hn]; exact h2
    · cases h1
  clear h hx hB hn
  by_cases hc : c = n
  all_goals
    cases a with
    | none =>
      obtain rfl : 0 = n := (hne rfl).symm
      clear hne
      go_enter Tryz.func221, Tryz.ntmps221
      go_wp2_with (at_builtin; obtain ⟨i0, hi, hz0, hs, hb⟩ := info_parts infoKC; refine wpList_appR rfl (.tmp 23) (.tmp 24) 49 rfl B 63 i0 (.agg #[.int .i64 0, .int .i64 0, .int .i64 0, .int .i64 0]) 4 32 Tryz.underlying49 hi hz0 hs hb rfl (by decide) _ 0 _ rfl HO.out (some ⟨vb, 0, none⟩) 1 1 [x.cells] rfl HI.out rfl (fun u hu => oneC [x] u (by simpa using hu)) (by unfold maxLen; omega) (by omega) HB.out ?_; clear hi hz0 hs hb; intro v5 w5 hown5 hu5; rw [HN.out] at hown5; obtain ⟨a5, c5, rfl, hi5⟩ := appC1 hown5; clear hown5)
      go_ret
      exact ⟨a5, c5, by rw [List.length_append]; rfl, hi5, hu5⟩
    | some ad =>
      clear hne
      go_enter Tryz.func221, Tryz.ntmps221
      go_wp2_with (at_builtin; obtain ⟨i0, hi, hz0, hs, hb⟩ := info_parts infoKC; refine wpList_appR rfl (.tmp 23) (.tmp 24) 49 rfl B 63 i0 (.agg #[.int .i64 0, .int .i64 0, .int .i64 0, .int .i64 0]) 4 32 Tryz.underlying49 hi hz0 hs hb rfl (by decide) _ n _ rfl HO.out (some ⟨vb, 0, none⟩) 1 1 [x.cells] rfl HI.out rfl (fun u hu => oneC [x] u (by simpa using hu)) (by unfold maxLen; omega) (by omega) HB.out ?_; clear hi hz0 hs hb; intro v5 w5 hown5 hu5; rw [HN.out] at hown5; obtain ⟨a5, c5, rfl, hi5⟩ := appC1 hown5; clear hown5)
      go_ret
      exact ⟨a5, c5, by rw [List.length_append]; rfl, hi5, hu5⟩
end Go.Proofs.YtbonfdkgkcbkmaaGreat
end

section
namespace Go.Proofs.YtbonfdkgkcbkmaaGreat
set_option maxRecDepth 100000
open Go.RowKit Go.Shelf

attribute [local go_sem] Oper.semAt_some
def setEnd (l : List KcV) (k : RecV) (cl : CellV) : List KcV := if cl.none then l else l ++ [⟨k.src, k.key, cl.count, cl.sum⟩]
theorem own_low {w : World} {B c : Nat} {a : Option Addr} {l : List KcV} (h : OwnC w B (.slice a l.length c) l) : l.length ≤ c ∧ c ≤ maxLen := by
  rcases h.2 with ⟨h1, h2⟩ | ⟨g, cap, cur, h1, _, _, h4, h5, _⟩
  · injection h1 with e1 e2 e3
    subst e3
    rw [h2]; exact ⟨Nat.le_refl _, by unfold maxLen; omega⟩
  · injection h1 with e1 e2 e3
    subst e3
    exact ⟨h4, h5⟩
theorem neq_cell (cl : CellV) (h : ¬ (cl.count = 0 ∧ cl.sum = 0)) (w : World) : (binOp .neq 61 (.agg #[.int .i64 cl.count, .int .i64 cl.sum]) (.agg #[.int .i64 0, .int .i64 0])).run Tryz.prog w = .ok (.bool true) w := by
  by_cases h0 : cl.count = 0
  · have h1 : ¬ cl.sum = 0 := fun e => h ⟨h0, e⟩
    simp [go_sem, h0, h1]
  · simp [go_sem, h0]
set_option maxHeartbeats 8000000 in
theorem tset_end {a : Option Addr} {l : List KcV} {c B tb : Nat} (k : RecV) (cl : CellV) (w : World) (hb : w.heap[tb]? = some (.cells #[.slice a l.length c] 51 (0, 0))) (h : OwnC w B (.slice a l.length c) l) (hB : B ≤ w.heap.size) (hl : l.length ≤ 1000) (hlt : ∀ x ∈ l, ltK k x = true) :
    Calls Tryz.prog 143 #[.pointer (some ⟨tb, 0, none⟩), .agg #[.int .i64 k.src, .int .i64 k.key, .int .i64 k.val], .agg #[.int .i64 cl.count, .int .i64 cl.sum]] w fun e w' => e = .returned (.tuple #[]) ∧ ∃ a' c', w'.heap[tb]? = some (.cells #[.slice a' (setEnd l k cl).length c'] 51 (0, 0)) ∧ OwnC w' B (.slice a' (setEnd l k cl).length c') (setEnd l k cl) ∧ Upd (fun q => q = tb ∨ (Value.slice a l.length c).ownBlock = some q) w w' := by
  obtain ⟨w1, hw1⟩ : ∃ w1, w1 = (w.alloc (.cells #[.int .i64 k.src, .int .i64 k.key, .int .i64 k.val] 36)).alloc (.cells #[.int .i64 cl.count, .int .i64 cl.sum] 61) := ⟨_, rfl⟩
  have hu1 : Upd0 w w1 := by rw [hw1]; exact ((Upd.refl _ w).alloc _).alloc _
  obtain ⟨bk, hbk⟩ : ∃ bk, bk = w.heap.size := ⟨_, rfl⟩
  have HK := Lib.hid (show w1.heap[bk]? = some (.cells #[.int .i64 k.src, .int .i64 k.key, .int .i64 k.val] 36 (0, 0)) by rw [hw1, hbk]; exact (alloc_lt (by simp)).trans (alloc_at rfl))
  have HC := Lib.hid (show w1.heap[bk + 1]? = some (.cells #[.int .i64 cl.count, .int .i64 cl.sum] 61 (0, 0)) by rw [hw1, hbk]; exact alloc_at (by simp))
  have HB := Lib.hid ((hu1.block _ (lt_of_heap hb) (fun e => e)).trans hb)
  have HO := Lib.hid (ownsRow_any h hu1 (fun _ _ e => e))
  have HU := Lib.hid hu1
  have HAT := Lib.hid (fun (W : World) (hW : Upd0 w1 W) => at_any (c := c) (m := l.length) k W (OwnC.in' (ownsRow_any (ownsRow_any h hu1 (fun _ _ e => e)) hW (fun _ _ e => e))) (by omega) (Nat.le_refl _) (fun i x hi _ => hlt x (List.mem_of_getElem? hi)) (fun i x hi hm => by have := (List.getElem?_eq_some_iff.1 hi).1; omega))
  rw [show foundB l l.length k = false by rw [foundB, List.getElem?_eq_none (Nat.le_refl _)]] at HAT
  have HBW := Lib.hid (show B ≤ w1.heap.size from Nat.le_trans hB hu1.size)
  clear h hb hu1 hlt hB
  go_enter Tryz.func143, Tryz.ntmps143
  go_wp2
  rw [← hw1, ← hbk]
  clear hw1 hbk
  have hA : Upd0 w1 w1.drew := (Upd.refl _ _).drew
  refine wp_region_G 9 (fun W => Upd0 w1 W) [false, false, false, false, false, false, false, false, false, false, false] rfl (by kernel_rfl) ?_
  refine wpG_takeP (i := 0) (v := .pointer (some ⟨tb, 0, none⟩)) rfl (by kernel_rfl) (fun _ _ _ h => h) hA (.inl ⟨rfl, fun w5 q1 => ?_⟩) ?_
  · go_simp
  simp only [Act.put, List.setIfInBounds_toArray, List.set]
  refine wpG_takeP (i := 1) (v := .pointer (some ⟨tb, 0, none⟩)) rfl (by kernel_rfl) (fun _ _ _ h => h) hA (.inl ⟨rfl, fun w5 q1 => ?_⟩) ?_
  · go_simp
  simp only [Act.put, List.setIfInBounds_toArray, List.set]
  refine wpG_takeP (i := 2) (v := .pointer (some ⟨tb, 0, none⟩)) rfl (by kernel_rfl) (fun _ _ _ h => h) hA (.inl ⟨rfl, fun w5 q1 => ?_⟩) ?_
  · go_simp
  simp only [Act.put, List.setIfInBounds_toArray, List.set]
  refine wpG_takeT (i := 3) (v := .slice a l.length c) rfl (fun L hc h => (hc.waits (n := 9) (i := 3) (by kernel_rfl) h)) (by kernel_rfl) (fun _ _ _ h => h) hA (.inl ⟨rfl, fun w5 q1 => ?_⟩) ?_
  · have c0 := cells1_of ((q1.block _ (lt_of_heap HB.out) (fun e => e)).trans HB.out)
    go_simp
  simp only [Act.put, List.setIfInBounds_toArray, List.set]
  refine wpG_takeT (i := 4) (v := .agg #[.int .i64 k.src, .int .i64 k.key, .int .i64 k.val]) rfl (fun L hc h => (hc.waits (n := 9) (i := 4) (by kernel_rfl) h)) (by kernel_rfl) (fun _ _ _ h => h) hA (.inl ⟨rfl, fun w5 q1 => ?_⟩) ?_
  · have kk := (q1.block _ (lt_of_heap HK.out) (fun e => e)).trans HK.out
    obtain ⟨c0, c1, c2⟩ := cells3_of kk
    go_simp
  simp only [Act.put, List.setIfInBounds_toArray, List.set]
  refine wpG_doIf (i := 5) rfl (by kernel_rfl) rfl (fun K hK => ?_)
  have HKK := Lib.hid hK
  clear hK
  go_step
  refine (HAT.out _ hA).mono ?_
  rintro _ w7 ⟨rfl, hu6⟩
  have hA6 := hA.trans hu6
  clear hu6
  simp only []
  refine HKK.out _ _ hA6 ?_
  clear HKK
  simp only [Act.put, List.setIfInBounds_toArray, List.set]
  refine wpG_takeP (i := 6) (v := .tuple #[.int .i64 l.length, .bool false]) rfl (by kernel_rfl) (fun _ _ _ h => h) hA6 (.inl ⟨rfl, fun w5 q1 => ?_⟩) ?_
  · go_simp
  simp only [Act.put, List.setIfInBounds_toArray, List.set]
  refine wpG_takeP (i := 7) (v := .int .i64 l.length) rfl (by kernel_rfl) (fun _ _ _ h => h) hA6 (.inl ⟨rfl, fun w5 q1 => ?_⟩) ?_
  · go_simp
  simp only [Act.put, List.setIfInBounds_toArray, List.set]
  refine wpG_takeP (i := 8) (v := .bool false) rfl (by kernel_rfl) (fun _ _ _ h => h) hA6 (.inl ⟨rfl, fun w5 q1 => ?_⟩) ?_
  · go_simp
  simp only [Act.put, List.setIfInBounds_toArray, List.set]
  refine wpG_tail_lit (k := 9) rfl rfl (by kernel_rfl) ?_
  simp only [List.drop]
  have HA6 := Lib.hid hA6
  clear hA hA6
  have HC6 := Lib.hid ((HA6.out.block _ (lt_of_heap HC.out) (fun e => e)).trans HC.out)
  have HK6 := Lib.hid ((HA6.out.block _ (lt_of_heap HK.out) (fun e => e)).trans HK.out)
  have HB6 := Lib.hid ((HA6.out.block _ (lt_of_heap HB.out) (fun e => e)).trans HB.out)
  have HO6 := Lib.hid (ownsRow_any HO.out HA6.out (fun _ _ e => e))
  have HBW6 := Lib.hid (Nat.le_trans HBW.out HA6.out.size)
  have HU6 := Lib.hid (HU.out.trans HA6.out)
  clear HC HK HB HO HAT HBW HA6 HU
  obtain ⟨e0, e1⟩ := cells2_of HC6.out
  by_cases hz : cl.count = 0 ∧ cl.sum = 0
  · obtain ⟨hz1, hz2⟩ := hz
    obtain ⟨cc, cs⟩ := cl
    simp only at hz1 hz2
    subst hz1 hz2
    go_wp2
    refine bodyPost_end (results_none rfl _ _ _) rfl ⟨rfl, a, c, HB6.out, HO6.out, HU6.out.mono (fun _ _ e => e.elim)⟩
  · have hzb : cl.none = false := by
      simp only [CellV.none, Bool.and_eq_false_iff, beq_eq_false_iff_ne]
      by_cases h1 : cl.count = 0
      · exact .inr (fun h2 => hz ⟨h1, h2⟩)
      · exact .inl h1
    have HSE := Lib.hid (show setEnd l k cl = l ++ [⟨k.src, k.key, cl.count, cl.sum⟩] by rw [setEnd, hzb]; rfl)
    clear hzb
    have HNE := Lib.hid (show ∀ (j : Nat) (cs : Array Value) (t : TypeId), (Value.slice a l.length c).ownBlock = some j → w7.heap[j]? = some (.cells cs t (0, 0)) → t = 63 from fun j cs t hj he => by
      obtain ⟨cur, hcur⟩ := ownsRow_at HO6.out hj
      rw [hcur] at he
      injection he with he
      injection he with _ he
      exact he.symm)
    have hlt7 := lt_of_heap HB6.out
    have hneq := neq_cell cl hz
    clear hz
    go_upto_region 7 with fail
    all_goals
      clear hneq
      have hA : Upd (fun q => (Value.slice a l.length c).ownBlock = some q) w7 w7.drew := (Upd.refl _ _).drew
      refine wp_region_G 16 (fun W => Upd (fun q => (Value.slice a l.length c).ownBlock = some q) w7 W) [false, false, false, false, false, false, false, false, false, false, false, false, false, false, false, false, false] rfl (by kernel_rfl) ?_
      refine wpG_takeP (i := 0) (v := .pointer (some ⟨tb, 0, none⟩)) rfl (by kernel_rfl) (fun _ _ _ h => h) hA (.inl ⟨rfl, fun w5 q1 => ?_⟩) ?_
      · go_simp
      simp only [Act.put, List.setIfInBounds_toArray, List.set]
      refine wpG_takeP (i := 1) (v := .pointer (some ⟨tb, 0, none⟩)) rfl (by kernel_rfl) (fun _ _ _ h => h) hA (.inl ⟨rfl, fun w5 q1 => ?_⟩) ?_
      · go_simp
      simp only [Act.put, List.setIfInBounds_toArray, List.set]
      refine wpG_takeP (i := 2) (v := .pointer (some ⟨tb, 0, none⟩)) rfl (by kernel_rfl) (fun _ _ _ h => h) hA (.inl ⟨rfl, fun w5 q1 => ?_⟩) ?_
      · go_simp
      simp only [Act.put, List.setIfInBounds_toArray, List.set]
      refine wpG_takeP (i := 3) (v := .pointer (some ⟨tb, 0, none⟩)) rfl (by kernel_rfl) (fun _ _ _ h => h) hA (.inl ⟨rfl, fun w5 q1 => ?_⟩) ?_
      · go_simp
      simp only [Act.put, List.setIfInBounds_toArray, List.set]
      refine wpG_takeT (i := 4) (v := .slice a l.length c) rfl (fun L hc h => (hc.waits (n := 16) (i := 4) (by kernel_rfl) h)) (by kernel_rfl) (fun _ _ _ h => h) hA (.inl ⟨rfl, fun w5 q1 => ?_⟩) ?_
      · have c0 := cells1_of ((q1.block _ (lt_of_heap HB6.out) (fun e => by have := HNE.out _ _ _ e HB6.out; revert this; decide)).trans HB6.out)
        go_simp
      simp only [Act.put, List.setIfInBounds_toArray, List.set]
      refine wpG_takeP (i := 5) (v := .int .i64 l.length) rfl (by kernel_rfl) (fun _ _ _ h => h) hA (.inl ⟨rfl, fun w5 q1 => ?_⟩) ?_
      · go_simp
      simp only [Act.put, List.setIfInBounds_toArray, List.set]
      refine wpG_takeP (i := 6) (v := .pointer (some ⟨bk, 0, none⟩)) rfl (by kernel_rfl) (fun _ _ _ h => h) hA (.inl ⟨rfl, fun w5 q1 => ?_⟩) ?_
      · go_simp
      simp only [Act.put, List.setIfInBounds_toArray, List.set]
      refine wpG_takeT (i := 7) (v := .int .i64 k.src) rfl (fun L hc h => (hc.waits (n := 16) (i := 7) (by kernel_rfl) h)) (by kernel_rfl) (fun _ _ _ h => h) hA (.inl ⟨rfl, fun w5 q1 => ?_⟩) ?_
      · have kk := (q1.block _ (lt_of_heap HK6.out) (fun e => by have := HNE.out _ _ _ e HK6.out; revert this; decide)).trans HK6.out
        obtain ⟨c0, c1, c2⟩ := cells3_of kk
        go_simp
      simp only [Act.put, List.setIfInBounds_toArray, List.set]
      refine wpG_takeP (i := 8) (v := .pointer (some ⟨bk, 1, none⟩)) rfl (by kernel_rfl) (fun _ _ _ h => h) hA (.inl ⟨rfl, fun w5 q1 => ?_⟩) ?_
      · go_simp
      simp only [Act.put, List.setIfInBounds_toArray, List.set]
      refine wpG_takeT (i := 9) (v := .int .i64 k.key) rfl (fun L hc h => (hc.waits (n := 16) (i := 9) (by kernel_rfl) h)) (by kernel_rfl) (fun _ _ _ h => h) hA (.inl ⟨rfl, fun w5 q1 => ?_⟩) ?_
      · have kk := (q1.block _ (lt_of_heap HK6.out) (fun e => by have := HNE.out _ _ _ e HK6.out; revert this; decide)).trans HK6.out
        obtain ⟨c0, c1, c2⟩ := cells3_of kk
        go_simp
      simp only [Act.put, List.setIfInBounds_toArray, List.set]
      refine wpG_takeT (i := 10) (v := .agg #[.int .i64 cl.count, .int .i64 cl.sum]) rfl (fun L hc h => (hc.waits (n := 16) (i := 10) (by kernel_rfl) h)) (by kernel_rfl) (fun _ _ _ h => h) hA (.inl ⟨rfl, fun w5 q1 => ?_⟩) ?_
      · have kk := (q1.block _ (lt_of_heap HC6.out) (fun e => by have := HNE.out _ _ _ e HC6.out; revert this; decide)).trans HC6.out
        obtain ⟨c0, c1⟩ := cells2_of kk
        go_simp
      simp only [Act.put, List.setIfInBounds_toArray, List.set]
      refine wpG_takeT (i := 11) (v := .agg #[.int .i64 k.src, .int .i64 k.key, .int .i64 cl.count, .int .i64 cl.sum]) rfl (fun L hc h => (hc.waits (n := 16) (i := 11) (by kernel_rfl) h)) (by kernel_rfl) (fun _ _ _ h => h) hA (.inl ⟨rfl, fun w5 q1 => ?_⟩) ?_
      · go_simp
      simp only [Act.put, List.setIfInBounds_toArray, List.set]
      refine wpG_doIf (i := 12) rfl (by kernel_rfl) rfl (fun K hK => ?_)
      have HKK := Lib.hid hK
      clear hK
      go_step
      obtain ⟨w8, hw8⟩ : ∃ w8, w8 = (World.alloc w7 (.cells #[.int .i64 k.src, .int .i64 k.key, .int .i64 cl.count, .int .i64 cl.sum] 63)).drew := ⟨_, rfl⟩
      have hA8 : Upd (fun q => (Value.slice a l.length c).ownBlock = some q) w7 w8 := by rw [hw8]; exact ((Upd.refl _ w7).alloc _).drew
      have hv8 : w8.heap[w7.heap.size]? = some (.cells #[.int .i64 k.src, .int .i64 k.key, .int .i64 cl.count, .int .i64 cl.sum] 63 (0, 0)) := by rw [hw8]; exact alloc_at (w := w7) rfl
      have hu8 : Upd0 w7 w8 := by rw [hw8]; exact ((Upd.refl _ w7).alloc _).drew
      have HIN := Lib.hid (insertEnd_any (x := ⟨k.src, k.key, cl.count, cl.sum⟩) w8 (ownsRow_any HO6.out hu8 (fun _ _ e => e)) hv8 (Nat.le_trans HBW6.out hu8.size) (by omega))
      rw [← hw8]
      clear hw8 hv8 hu8
      refine HKK.out _ _ hA8 ?_
      clear HKK
      simp only [Act.put, List.setIfInBounds_toArray, List.set]
      refine wpG_doIf (i := 13) rfl (by kernel_rfl) rfl (fun K hK => ?_)
      have HKK := Lib.hid hK
      clear hK
      go_step
      (with_reducible refine (HIN.out).mono ?_)
      rintro _ w9 ⟨a9, c9, rfl, ho9, hu9⟩
      have hA9 := hA8.trans hu9
      clear hu9 HIN
      simp only []
      refine HKK.out _ _ hA9 ?_
      clear HKK
      simp only [Act.put, List.setIfInBounds_toArray, List.set]
      refine wpG_takeP (i := 14) (v := .pointer (some ⟨tb, 0, none⟩)) rfl (by kernel_rfl) (fun _ _ _ h => h) hA9 (.inl ⟨rfl, fun w5 q1 => ?_⟩) ?_
      · go_simp
      simp only [Act.put, List.setIfInBounds_toArray, List.set]
      refine wpG_takeP (i := 15) (v := .pointer (some ⟨tb, 0, none⟩)) rfl (by kernel_rfl) (fun _ _ _ h => h) hA9 (.inl ⟨rfl, fun w5 q1 => ?_⟩) ?_
      · go_simp
      simp only [Act.put, List.setIfInBounds_toArray, List.set]
      refine wpG_tail_lit (k := 16) rfl rfl (by kernel_rfl) ?_
      simp only [List.drop]
      have HB9 := Lib.hid ((hA9.block tb (lt_of_heap HB6.out) (fun e => by have := HNE.out _ _ _ e HB6.out; revert this; decide)).trans HB6.out)
      have c0 := cells1_of HB9.out
      have f0 : w9.frozen? ⟨tb, 0, none⟩ = false := frozen_of_heap HB9.out
      have HA9 := Lib.hid hA9
      have HO9 := Lib.hid ho9
      clear hA9 hA8 hA hlt7
      go_wp2
      refine bodyPost_end (results_none rfl _ _ _) rfl ⟨rfl, a9, c9, ?_, ?_, ?_⟩
      · have := blk_set (i := 0) (v := .slice a9 (l ++ [(⟨k.src, k.key, cl.count, cl.sum⟩ : KcV)]).length c9) HB9.out
        rw [HSE.out]
        simpa using this
      · rw [HSE.out]
        refine ownsRow_heap HO9.out (fun q hq => set_ne (fun e => ?_))
        obtain ⟨cur, hcur⟩ := ownsRow_at HO9.out hq
        have e' : q = tb := e
        rw [e', HB9.out] at hcur
        injection hcur with hcur
        injection hcur with _ hcur
        exact absurd hcur (by decide)
      · exact ((HU6.out.mono (fun _ _ e => e.elim)).trans (HA9.out.mono (fun _ _ e => .inr e))).setCell (p := ⟨tb, 0, none⟩) (.inl (.inl rfl)) _
end Go.Proofs.YtbonfdkgkcbkmaaGreat
end

