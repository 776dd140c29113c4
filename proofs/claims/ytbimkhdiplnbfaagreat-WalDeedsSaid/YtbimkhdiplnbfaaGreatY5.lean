/- Walks of the disk: New. -/
import Derived.Test.YtbimkhdiplnbfaaGreatY4
import Derived.Deep.LoopGhost
import Derived.Deep.OwnRows
import Derived.Deep.Cut
import Derived.Maps.Own
import Derived.Lib.SliceRun
set_option linter.unusedVariables false
set_option linter.unusedSimpArgs false
namespace Go.Proofs.YtbimkhdiplnbfaaGreat
set_option maxRecDepth 1000000
set_option maxHeartbeats 16000000
section
open Go.RowKit Go.Deep
theorem wpList_exec {P : Program} {ops : Array Oper} {rest : List Oper} {o : Oper} {a : Act} {w w' : World} {v : Value} {Q : Exit → Act → World → Prop} (hg : o.guard = none) (h : (execOp a.eval o).run P w = .ok (.value v) w')
  (hK : wpList P ops Q rest (a.put o.dst v) w') : wpList P ops Q (o :: rest) a w :=
 wpList_plain hg fun _ hk => wp_exec h (hk _ _ hK)
def Dk.new (n : Nat) : Dk := ⟨List.replicate n zblk, [], 0, 0, -1, -1, false⟩
theorem Tryz.info125 : (Tryz.prog.info? 125).map (fun i => (i.zero, i.size, i.bytes)) = some (some (.slice none 0 0), 1, 24) := by kernel_rfl
structure NewAt (w wr : World) (n k : Nat) : Prop where
 upd : Upd (fun _ => False) w wr
 size : wr.heap.size = w.heap.size + 2 + k
 main : wr.heap[w.heap.size + 1]? = some (mainObj w.heap.size n 0 0 (-1) (-1) false)
 sec : wr.heap[w.heap.size]? = some (.cells ((List.range n).map fun i => if i < k then Value.slice (some ⟨w.heap.size + 2 + i, 0, none⟩) 1 1 else .slice none 0 0).toArray 125 (0, 0))
 rows : ∀ i, i < k → wr.heap[w.heap.size + 2 + i]? = some (.cells Z130 124 (0, 0))
theorem NewAt.start (w : World) (n : Nat) : NewAt w ((w.alloc (.cells (madeCells #[.slice none 0 0] n) 125)).alloc (mainObj w.heap.size n 0 0 (-1) (-1) false)) n 0 := by
 refine ⟨((Upd.refl _ w).alloc _).alloc _, by simp, alloc_at (by simp), ?_, fun i hi => by omega⟩
 rw [alloc_lt (by simp), alloc_at rfl]
 congr 2
 apply Array.toList_inj.1
 rw [toList_madeCells_one]
 simp [List.map_const']
theorem NewAt.step {w wr : World} {n k : Nat} (h : NewAt w wr n k) :
  NewAt w ((wr.alloc (.cells Z130 124)).setCell ⟨w.heap.size, k, none⟩ (.slice (some ⟨w.heap.size + 2 + k, 0, none⟩) 1 1)) n (k + 1) := by
 have hs := h.size
 refine ⟨(h.upd.alloc _).setCell (p := ⟨w.heap.size, k, none⟩) (.inr (Nat.le_refl _)) _, by simp [World.setCell, hs]; omega, ?_, ?_, fun i hi => ?_⟩
 ·rw [set_ne (by simp), alloc_lt (by omega)]; exact h.main
 ·have h1 : (wr.alloc (.cells Z130 124)).heap[w.heap.size]? = _ := (alloc_lt (by omega)).trans h.sec
  rw [blk_set h1]
  congr 2
  apply Array.toList_inj.1
  apply List.ext_getElem
  ·simp
  ·intro j h1 h2
   simp only [Array.toList_setIfInBounds, List.getElem_set, List.getElem_map, List.getElem_range]
   by_cases e : k = j
   ·subst e; simp
   ·rw [if_neg e]
    by_cases hj : j < k
    ·rw [if_pos hj, if_pos (by omega)]
    ·rw [if_neg hj, if_neg (by omega)]
 ·rw [set_ne (by simp; omega)]
  by_cases hi2 : i = k
  ·subst hi2; exact alloc_at hs.symm
  ·rw [alloc_lt (by omega)]; exact h.rows i (by omega)
theorem new_good (n : Nat) (w : World) (hn : 1 ≤ n ∧ n ≤ 2048) :
  Calls Tryz.prog 13 #[.int .i64 n] w fun e w' => e = .returned (.tuple #[.pointer (some ⟨w.heap.size + 1, 0, none⟩), .int .i64 0]) ∧ NewAt w w' n n := by
 have hmk := run_make_row' (P := Tryz.prog) 120 125 (.slice none 0 0) 24 Tryz.underlying120 Tryz.info125 rfl .i64 .i64 n (by omega) (by omega)
 obtain ⟨hn1, hn2⟩ := hn
 have hn3 : ¬ ((n : Int) < 1) := by omega
 go_enter Tryz.func13, Tryz.ntmps13
 go_wp2
 clear hmk
 go_loopg [21] n (fun g i wr => ∃ k : Nat, k ≤ n ∧ g = n - k ∧ i = .int .i64 k ∧ NewAt w wr n k)
 case atStart => exact ⟨0, Nat.zero_le _, rfl, rfl, NewAt.start w n⟩
 case round =>
  obtain ⟨k, hk, rfl, rfl, hN⟩ := hrel
  have hs := hN.size
  have hm := hN.main
  have c0 := (cells6_of hm).1
  have hkc : k < n → ∀ o, (wr.alloc o).cell? ⟨w.heap.size, k, none⟩ = some (.slice none 0 0) := fun h o => by
   rw [cell_of_heap ((alloc_lt (by omega)).trans hN.sec)]; simp [h]
  have hkf : ∀ o, (wr.alloc o).frozen? ⟨w.heap.size, k, none⟩ = false := fun o => frozen_of_heap ((alloc_lt (by omega)).trans hN.sec)
  have HN := Lib.hid hN
  clear hN hm
  go_upto_region 7 with fail
  ·have hlt : k < n := by assumption
   iterate 16 go_step
   refine wpList_exec rfl (run_exec_build (run_build130_zero _) rfl (by simp)) ?_
   refine wpList_exec rfl (run_exec_buildSlice (run_buildSlice131 Z130.toList _ (by simp [Z130_size])) rfl (by simp [Act.eval, Act.put])) ?_
   go_wp2
   go_roundg (n - (k + 1))
   case measure => omega
   case rel => exact ⟨k + 1, by omega, rfl, rfl, HN.out.step⟩
  ·have hkn : k = n := by omega
   subst hkn
   go_returns
   exact ⟨rfl, HN.out⟩
theorem NewAt.dsk {w w' : World} {n : Nat} (h : NewAt w w' n n) (hn : 1 ≤ n ∧ n ≤ 2048) : ∃ F, Dsk w' (w.heap.size + 1) (Dk.new n) F ∧ (∀ k, F k → w.heap.size ≤ k) ∧ Upd (fun _ => False) w w' := by
 have hv : ∀ i, i < n → (Dk.new n).vers i = [(zblk, 0)] := fun i hi => by simp [Dk.vers, Dk.new, hi]
 have hl : (Dk.new n).arr.length = n := by simp [Dk.new]
 refine ⟨_, ⟨w.heap.size, fun i => w.heap.size + 2 + i, fun _ => 1, ⟨?_, ?_, ?_, by omega, ?_, ?_, ?_⟩, fun _ => Iff.rfl⟩, ?_, h.upd⟩
 ·rw [hl]; exact h.main
 ·rw [h.sec, hl]
  congr 3
  apply List.ext_getElem
  ·simp
  ·intro j h1 h2
   have hj : j < n := by simpa using h1
   simp [hj, hv j hj]
 ·intro i hi
  rw [hl] at hi
  rw [hv i hi]
  refine ⟨by simp [vcells, zblk], .inr ⟨_, _, Z130, rfl, Nat.zero_le _, h.rows i hi, by simp, by decide, by simp [Z130_size], ?_⟩⟩
  simp [vcells, zblk, Z130]
 ·intro i hi; omega
 ·intro i hi; omega
 ·intro i j _ _ e
  have e' : w.heap.size + 2 + i = w.heap.size + 2 + j := e
  omega
 ·rintro k (rfl | rfl | ⟨i, _, rfl⟩)
  ·omega
  ·exact Nat.le_refl _
  ·show w.heap.size ≤ w.heap.size + 2 + i; omega
theorem Dk.new_ok {n : Nat} (hn : 1 ≤ n ∧ n ≤ 2048) (K : Nat) : (Dk.new n).Ok K := by
 refine ⟨by simpa [Dk.new] using hn, ?_, by simp [Dk.new], by simp [Dk.new], by simp [Dk.new], by simp [Dk.new], by simp [Dk.new], by simp [Dk.new], by simp [Dk.new]⟩
 intro b hb
 have : b = zblk := by simp [Dk.new] at hb; exact hb.2
 rw [this]; exact zblk_ok
end
section
open Go.RowKit
def Dk.count (D : Dk) (lost : Int → Bool) (i : Nat) : Nat := ((D.vers i).tail.takeWhile (fun v => !lost v.2)).length
def Dk.kept (D : Dk) (lost : Int → Bool) (i : Nat) : List Int := ((D.vers i).getD (D.count lost i) (zblk, 0)).1
def Dk.settled (D : Dk) (lost : Int → Bool) (k : Nat) : Dk :=
 { D with arr := (List.range D.arr.length).map (fun i => if i < k then D.kept lost i else D.arr.getD i []), row := D.row.filter (fun x => decide (k ≤ x.1)) }
theorem settled_length (D : Dk) (lost : Int → Bool) (k : Nat) : (D.settled lost k).arr.length = D.arr.length := by simp [Dk.settled]
theorem settled_vers_lt (D : Dk) (lost : Int → Bool) {k i : Nat} (hi : i < D.arr.length) (h : i < k) : (D.settled lost k).vers i = [(D.kept lost i, 0)] := by
 have e : (D.row.filter (fun x => decide (k ≤ x.1))).filter (fun x => x.1 == i) = [] := by
  rw [List.filter_filter, List.filter_eq_nil_iff]
  intro x _
  simp; omega
 simp only [Dk.vers, Dk.settled, e]
 simp [List.getD_eq_getElem?_getD, hi, h]
theorem settled_vers_ge (D : Dk) (lost : Int → Bool) {k i : Nat} (hi : i < D.arr.length) (h : k ≤ i) : (D.settled lost k).vers i = D.vers i := by
 have e : (D.row.filter (fun x => decide (k ≤ x.1))).filter (fun x => x.1 == i) = D.row.filter (fun x => x.1 == i) := by
  rw [List.filter_filter]
  refine List.filter_congr (fun x _ => ?_)
  by_cases hx : x.1 = i
  ·simp [hx, h]
  ·simp [hx]
 have hk : ¬ i < k := by omega
 simp only [Dk.vers, Dk.settled, e]
 simp [List.getD_eq_getElem?_getD, hi, hk]
theorem settled_zero (D : Dk) (lost : Int → Bool) : D.settled lost 0 = D := by
 have e1 : (List.range D.arr.length).map (fun i => if i < 0 then D.kept lost i else D.arr.getD i []) = D.arr := by
  apply List.ext_getElem
  ·simp
  ·intro j h1 h2; simp [h2]
 have e2 : D.row.filter (fun x => decide (0 ≤ x.1)) = D.row := by simp
 unfold Dk.settled
 rw [e1, e2]
def Dk.arrive (D : Dk) (lost : Int → Bool) : Dk := { D with arr := (List.range D.arr.length).map (fun i => D.kept lost i), row := [] }
theorem settled_all {D : Dk} {K : Nat} (h : D.Ok K) (lost : Int → Bool) : D.settled lost D.arr.length = D.arrive lost := by
 have e1 : (List.range D.arr.length).map (fun i => if i < D.arr.length then D.kept lost i else D.arr.getD i []) = (List.range D.arr.length).map (fun i => D.kept lost i) := by
  refine List.map_congr_left (fun i hi => ?_)
  rw [if_pos (by simpa using hi)]
 have e2 : D.row.filter (fun x => decide (D.arr.length ≤ x.1)) = [] := by
  rw [List.filter_eq_nil_iff]
  intro x hx
  have := (h.rblks x hx).2.1
  simp; omega
 unfold Dk.settled Dk.arrive
 rw [e1, e2]
theorem takeWhile_count {α : Type} (f : α → Bool) : ∀ (l : List α) (q : Nat), (∀ j x, j < q → l[j]? = some x → f x = true) → q ≤ l.length → (∀ x, l[q]? = some x → f x = false) → (l.takeWhile f).length = q
 | [], q, _, hq, _ => by simp at hq; simp [hq]
 |x :: l, 0, _, _, h => by
  have := h x (by simp)
  simp [this]
 |x :: l, q + 1, h1, hq, h2 => by
  have hx := h1 0 x (by omega) (by simp)
  have := takeWhile_count f l q (fun j y hj hy => h1 (j + 1) y (by omega) (by simpa using hy)) (by simpa using hq) (fun y hy => h2 y (by simpa using hy))
  simp [hx, this]
theorem DiskAt.settle {w0 W : World} {p s : Nat} {D : Dk} {lost : Int → Bool} {g c : Nat → Nat} {k : Nat} (h : DiskAt w0 p (D.settled lost k) s g c) (hk : k < D.arr.length) (hb : (D.kept lost k).length = 64) (hu : Upd (fun _ => False) w0 W) :
  DiskAt ((W.alloc (.cells (bcells (D.kept lost k) ++ [Value.int .i64 0]).toArray 124)).setCell ⟨s, k, none⟩ (.slice (some ⟨W.heap.size, 0, none⟩) 1 1)) p (D.settled lost (k + 1)) s
   (fun j => if j = k then W.heap.size else g j) (fun j => if j = k then 1 else c j) := by
 have hl := settled_length D lost k
 have hl1 := settled_length D lost (k + 1)
 have lp := lt_of_heap h.main
 have ls := lt_of_heap h.sec
 have hz := hu.size
 have lg : ∀ i, i < D.arr.length → g i < w0.heap.size := fun i hi => by
  rcases (h.rows i (by rw [hl]; exact hi)).2 with ⟨h3, _⟩ | ⟨gg, cap, cur, hv, hb, hh, r⟩
  ·simp at h3
  ·simp at hv; rw [hv.1]; exact lt_of_heap hh
 have hA : ∀ j, j < w0.heap.size → (W.alloc (.cells (bcells (D.kept lost k) ++ [Value.int .i64 0]).toArray 124)).heap[j]? = w0.heap[j]? := fun j hj =>
  (alloc_lt (by omega)).trans (hu.block j hj (fun e => e))
 refine ⟨?_, ?_, ?_, h.ps, ?_, ?_, ?_⟩
 ·rw [set_ne (fun e => h.ps e), hA p lp, h.main, hl, hl1]; rfl
 ·rw [blk_set ((hA s ls).trans h.sec), hl, hl1]
  congr 2
  apply Array.toList_inj.1
  apply List.ext_getElem
  ·simp
  ·intro j h1 h2
   have hj : j < D.arr.length := by simpa using h2
   simp only [Array.toList_setIfInBounds, List.getElem_set, List.getElem_map, List.getElem_range]
   by_cases e : k = j
   ·subst e
    simp [settled_vers_lt D lost hk (Nat.lt_succ_self k)]
   ·rw [if_neg e]
    by_cases hjk : j < k
    ·rw [settled_vers_lt D lost hj hjk, settled_vers_lt D lost hj (by omega : j < k + 1)]
     simp [Ne.symm e]
    ·rw [settled_vers_ge D lost hj (by omega : k ≤ j), settled_vers_ge D lost hj (by omega : k + 1 ≤ j)]
     simp [Ne.symm e]
 ·intro i hi
  rw [hl1] at hi
  by_cases hik : i = k
  ·subst hik
   rw [settled_vers_lt D lost hi (Nat.lt_succ_self i)]
   simp only [if_true]
   refine ⟨by simp [vcells, hb], .inr ⟨W.heap.size, 1, (bcells (D.kept lost i) ++ [Value.int .i64 0]).toArray, by simp, Nat.zero_le _, ?_, by simp, by decide, by simp [bcells, hb], ?_⟩⟩
   ·rw [set_ne (by simp; omega)]; exact alloc_at rfl
   ·simp only [vcells, bcells, List.flatMap_cons, List.flatMap_nil, List.append_nil]
    exact List.take_of_length_le (by simp [hb])
  ·have hvv : (D.settled lost (k + 1)).vers i = (D.settled lost k).vers i := by
    by_cases hjk : i < k
    ·rw [settled_vers_lt D lost hi hjk, settled_vers_lt D lost hi (by omega : i < k + 1)]
    ·rw [settled_vers_ge D lost hi (by omega : k ≤ i), settled_vers_ge D lost hi (by omega : k + 1 ≤ i)]
   rw [hvv]
   simp only [hik, if_false]
   obtain ⟨h1, h2⟩ := h.rows i (by rw [hl]; exact hi)
   refine ⟨h1, ?_⟩
   rcases h2 with ⟨h2, _⟩ | ⟨gg, cap, cur, hv, hb, hh, r⟩
   ·simp at h2
   ·refine .inr ⟨gg, cap, cur, hv, hb, ?_, r⟩
    simp at hv
    rw [set_ne (fun e => h.gs i (by rw [hl]; exact hi) (hv.1.trans e)), hA gg (lt_of_heap hh)]
    exact hh
 ·intro i hi
  rw [hl1] at hi
  by_cases hik : i = k
  ·simp only [hik, if_true]; omega
  ·simp only [hik, if_false]; exact h.gp i (by rw [hl]; exact hi)
 ·intro i hi
  rw [hl1] at hi
  by_cases hik : i = k
  ·simp only [hik, if_true]; omega
  ·simp only [hik, if_false]; exact h.gs i (by rw [hl]; exact hi)
 ·intro i j hi hj
  rw [hl1] at hi hj
  have li := lg i hi
  have lj := lg j hj
  by_cases hik : i = k <;> by_cases hjk : j = k
  ·intro _; omega
  ·simp only [hik, hjk, if_true, if_false]; intro e; omega
  ·simp only [hik, hjk, if_true, if_false]; intro e; omega
  ·simp only [hik, hjk, if_false]; exact h.gg i j (by rw [hl]; exact hi) (by rw [hl]; exact hj)
theorem kept_at (D : Dk) (lost : Int → Bool) (i : Nat) : ∃ v, (D.vers i)[D.count lost i]? = some v ∧ v ∈ D.vers i ∧ D.kept lost i = v.1 := by
 have h0 : D.count lost i ≤ (D.vers i).tail.length := (List.takeWhile_sublist _).length_le
 have hn := List.length_pos_iff.2 (vers_ne D i)
 have hl : D.count lost i < (D.vers i).length := by rw [List.length_tail] at h0; omega
 exact ⟨(D.vers i)[D.count lost i], by simp [hl], List.getElem_mem _, by simp [Dk.kept, List.getD_eq_getElem?_getD, hl]⟩
theorem kept_blk {D : Dk} {K : Nat} (h : D.Ok K) (lost : Int → Bool) {i : Nat} (hi : i < D.arr.length) : okBlk (D.kept lost i) := by
 obtain ⟨v, _, h2, h3⟩ := kept_at D lost i
 rw [h3]; exact vers_blk h hi v h2
end
section
open Go.RowKit Go.Deep
theorem run_slice1 {o : Oper} {a : Act} {w : World} {g m cap : Nat} {x : Operand} (ho : o.op = .slice 125 x (some (.const (.int .i64 1))) none none) (hx : a.eval x = .slice (some ⟨g, 0, none⟩) (m + 1) cap) (hc : m + 1 ≤ cap) :
  ∃ off, (m ≠ 0 → off = 65) ∧ (execOp a.eval o).run Tryz.prog w = .ok (.value (.slice (some ⟨g, off, none⟩) m (cap - 1))) w := by
 by_cases h1 : cap = 1
 ·subst h1
  obtain rfl : m = 0 := by omega
  refine ⟨0, by simp, ?_⟩
  unfold execOp
  simp only [ho, hx]
  simp [go_sem]
 ·refine ⟨65, fun _ => rfl, ?_⟩
  unfold execOp
  simp only [ho, hx]
  have e1 : (1 : Int) ≤ (m : Int) + 1 := by omega
  have e2 : ¬ (cap = 1) := h1
  simp [go_sem, e1, e2]
theorem wpList_slice1 {ops : Array Oper} {rest : List Oper} {Q : Exit → Act → World → Prop} {o : Oper} {a : Act} {w : World} {g m cap : Nat} {x : Operand} (hg : o.guard = none) (ho : o.op = .slice 125 x (some (.const (.int .i64 1))) none none) (hx : a.eval x = .slice (some ⟨g, 0, none⟩) (m + 1) cap) (hc : m + 1 ≤ cap)
  (h : ∀ off, (m ≠ 0 → off = 65) → wpList Tryz.prog ops Q rest (a.put o.dst (.slice (some ⟨g, off, none⟩) m (cap - 1))) w) : wpList Tryz.prog ops Q (o :: rest) a w := by
 obtain ⟨off, h1, h2⟩ := run_slice1 (w := w) ho hx hc
 exact wpList_exec hg h2 (h off h1)
theorem ownsRow_upd {w w' : World} {G : Nat → Prop} {e : TypeId} {sz g n cap : Nat} {xs : List Value} (h : w.ownsRow 0 e sz (.slice (some ⟨g, 0, none⟩) n cap) n xs) (hu : Upd G w w') (hg : ¬ G g) : w'.ownsRow 0 e sz (.slice (some ⟨g, 0, none⟩) n cap) n xs := by
 obtain ⟨h1, h2⟩ := h
 refine ⟨h1, ?_⟩
 rcases h2 with ⟨h2, _⟩ | ⟨gg, cap', cur, hv, hb, hh, r⟩
 ·simp at h2
 ·refine .inr ⟨gg, cap', cur, hv, hb, ?_, r⟩
  simp at hv
  exact (hu.block gg (lt_of_heap hh) (fun e => hg (by rw [hv.1]; exact e))).trans hh
theorem vcells_whole : ∀ (L : List (List Int × Int)) (j : Nat) (v : List Int × Int), L[j]? = some v → (∀ v ∈ L, v.1.length = 64) → ((L.flatMap vcells).drop (j * 65)).take 65 = vcells v
 | [], j, v, h, _ => by simp at h
 |x :: L, 0, v, h, hl => by
  simp at h; subst h
  have := vcells_length (hl x (by simp))
  rw [List.flatMap_cons, Nat.zero_mul, List.drop_zero, List.take_append, this]
  simp [List.take_of_length_le (Nat.le_of_eq this)]
 |x :: L, j + 1, v, h, hl => by
  have h1 := vcells_length (hl x (by simp))
  have := vcells_whole L j v (by simpa using h) (fun v hv => hl v (by simp [hv]))
  rw [List.flatMap_cons, List.drop_append, h1, show (j + 1) * 65 - 65 = j * 65 by omega, List.drop_eq_nil_of_le (by omega)]
  simpa using this
theorem Tryz.size124 : (Tryz.prog.info? 124).map (·.size) = some 65 := by kernel_rfl
theorem Tryz.zsize124 : Tryz.zeroCells124.size = 65 := by kernel_rfl
theorem vcells_one (v : List Int × Int) : ∀ u ∈ vcells v, u.oneCell' = true := by
 intro u hu
 simp [vcells] at hu
 rcases hu with ⟨x, _, rfl⟩ | rfl <;> rfl
structure ArrAt (w wr : World) (p s : Nat) (D : Dk) (lost : Int → Bool) (g : Nat → Nat) (F : Nat → Prop) (k : Nat) (g' c' : Nat → Nat) : Prop where
 upd : Upd F w wr
 at_ : DiskAt wr p (D.settled lost k) s g' c'
 news : ∀ j, j < D.arr.length → g' j = g j ∨ w.heap.size ≤ g' j
theorem vers_rng {D : Dk} {K : Nat} (h : D.Ok K) (i : Nat) : ∀ v ∈ D.vers i, 0 ≤ v.2 ∧ v.2 ≤ K := by
 intro v hv
 have hs := h.sent
 simp only [Dk.vers, List.mem_cons, List.mem_map, List.mem_filter] at hv
 rcases hv with rfl | ⟨x, ⟨hx, _⟩, rfl⟩
 ·exact ⟨Int.le_refl _, by omega⟩
 ·obtain ⟨_, _, h3, h4⟩ := h.rblks x hx
  exact ⟨by omega, by omega⟩
theorem arr_tail {w wo W : World} {p s : Nat} {D : Dk} {lost : Int → Bool} {g : Nat → Nat} {F : Nat → Prop} {k q : Nat} {g' c' : Nat → Nat} {hd : List Int × Int} {t : List (List Int × Int)}
  (hA : ArrAt w wo p s D lost g F k g' c') (hu : Upd (fun _ => False) wo W) (hk : k < D.arr.length) (hv : D.vers k = hd :: t) (hok : D.Ok 1099511627774) (hc : D.count lost k = q) :
  RowKit.Hid (W.drew.cell? ⟨p, 0, none⟩ = some (.slice (some ⟨s, 0, none⟩) D.arr.length D.arr.length) ∧ W.drew.rangeAt (g' k) (q * 65) (bcells (D.kept lost k)) ∧ (bcells (D.kept lost k)).length = 64) := by
 have hl := settled_length D lost k
 have hm := (hu.block p (lt_of_heap hA.at_.main) (fun e => e)).trans hA.at_.main
 have hr := hA.at_.rows k (by rw [hl]; exact hk)
 rw [settled_vers_ge D lost hk (Nat.le_refl k), hv] at hr
 have hr2 := ownsRow_upd hr hu (fun e => e)
 obtain ⟨v, h1, h2, h3⟩ := kept_at D lost k
 rw [hc, hv] at h1
 refine Lib.hid ⟨?_, ?_, ?_⟩
 ·have := (cells6_of hm).1
  rw [hl] at this
  exact this
 ·rw [h3]
  exact rangeAt_row (w := W.drew) hr2 (vcells_at _ q v h1 (fun v hv' => by rw [← hv] at hv'; exact (vers_blk hok hk v hv').1))
 ·rw [bcells_length]; exact (kept_blk hok lost hk).1
theorem arr_cell {w wo W : World} {p s : Nat} {D : Dk} {lost : Int → Bool} {g : Nat → Nat} {F : Nat → Prop} {k : Nat} {g' c' : Nat → Nat} {hd : List Int × Int} {t : List (List Int × Int)}
  (hA : ArrAt w wo p s D lost g F k g' c') (hu : Upd (fun _ => False) wo W) (hk : k < D.arr.length) (hv : D.vers k = hd :: t) (o : Obj) :
  (W.alloc o).cell? ⟨s, k, none⟩ = some (.slice (some ⟨g' k, 0, none⟩) (t.length + 1) (c' k)) := by
 have hl := settled_length D lost k
 have ls := lt_of_heap hA.at_.sec
 have hs := (hu.block s ls (fun e => e)).trans hA.at_.sec
 have hs2 : (W.alloc o).heap[s]? = _ := (alloc_lt (Nat.lt_of_lt_of_le ls hu.size)).trans hs
 rw [cell_of_heap hs2, hl]
 simp [hk, settled_vers_ge D lost hk (Nat.le_refl k), hv]
theorem arr_frozen {w wo W : World} {p s : Nat} {D : Dk} {lost : Int → Bool} {g : Nat → Nat} {F : Nat → Prop} {k : Nat} {g' c' : Nat → Nat}
  (hA : ArrAt w wo p s D lost g F k g' c') (hu : Upd (fun _ => False) wo W) (o : Obj) : (W.alloc o).frozen? ⟨s, k, none⟩ = false := by
 have ls := lt_of_heap hA.at_.sec
 have hs := (hu.block s ls (fun e => e)).trans hA.at_.sec
 have hs2 : (W.alloc o).heap[s]? = _ := (alloc_lt (Nat.lt_of_lt_of_le ls hu.size)).trans hs
 exact frozen_of_heap hs2
theorem ArrAt.next {w wo W : World} {p s : Nat} {D : Dk} {lost : Int → Bool} {g : Nat → Nat} {F : Nat → Prop} {k : Nat} {g' c' : Nat → Nat}
  (hA : ArrAt w wo p s D lost g F k g' c') (hu : Upd (fun _ => False) wo W) (hk : k < D.arr.length) (hok : D.Ok 1099511627774) (hF : F s) :
  ArrAt w ((W.drew.alloc (.cells (bcells (D.kept lost k) ++ [Value.int .i64 0]).toArray 124)).setCell ⟨s, k, none⟩ (.slice (some ⟨W.heap.size, 0, none⟩) 1 1)) p s D lost g F (k + 1)
   (fun j => if j = k then W.heap.size else g' j) (fun j => if j = k then 1 else c' j) := by
 have hu2 : Upd (fun _ => False) wo W.drew := hu.drew
 refine ⟨?_, hA.at_.settle hk (kept_blk hok lost hk).1 hu2, fun j hj => ?_⟩
 ·exact ((hA.upd.trans (hu2.mono (fun _ _ e => e.elim))).alloc _).setCell (p := ⟨s, k, none⟩) (.inl hF) _
 ·by_cases hjk : j = k
  ·simp only [hjk, if_true]
   exact .inr (Nat.le_trans hA.upd.size hu.size)
  ·simp only [hjk, if_false]; exact hA.news j hj
theorem arrive_any {p : Nat} {D : Dk} {F : Nat → Prop} {lost : Int → Bool} (f : Nat) (caps : Array Value) (w : World) (h : Dsk w p D F) (hok : D.Ok 1099511627774)
  (eg : ∀ args w, (callFunc f args).run Tryz.prog w = .ok (.enter f args) w)
  (hcl : ∀ W1, Upd F w W1 → ∀ v : List Int × Int, okBlk v.1 → (0 ≤ v.2 ∧ v.2 ≤ 1099511627774) → Calls Tryz.prog f (#[.agg (vcells v).toArray] ++ caps) W1 fun e w' => e = .returned (.bool (lost v.2)) ∧ Upd (fun _ => False) W1 w') :
  Calls Tryz.prog 77 #[.pointer (some ⟨p, 0, none⟩), .func (.func f) #[] caps] w fun e w' => e = .returned (.tuple #[]) ∧ Left w p (D.arrive lost) F w' := by
 obtain ⟨s, g, c, hD, hF⟩ := h
 have hn := hok.len
 have hA0 : ArrAt w w p s D lost g F 0 g c := ⟨Upd.refl _ _, by rw [settled_zero]; exact hD, fun j _ => .inl rfl⟩
 have hm := hD.main
 have c0 := (cells6_of hm).1
 have HC := Lib.hid hcl; have HF := Lib.hid hF; have HO := Lib.hid hok; have HA0 := Lib.hid hA0; have HN := Lib.hid hn
 clear hcl hF hok hA0 hm hD hn
 go_enter Tryz.func77, Tryz.ntmps77
 go_wp2
 go_loopg [14] D.arr.length (fun gk i wr => ∃ k : Nat, k ≤ D.arr.length ∧ gk = D.arr.length - k ∧ i = .int .i64 k ∧ ∃ g' c', ArrAt w wr p s D lost g F k g' c')
 case atStart => exact ⟨0, Nat.zero_le _, rfl, rfl, _, _, HA0.out⟩
 case round =>
  obtain ⟨k, hk, rfl, rfl, g', c', hA⟩ := hrel
  clear c0
  have hl := settled_length D lost k
  have hm := hA.at_.main
  have c0 := (cells6_of hm).1
  rw [hl] at c0
  obtain ⟨hd, t, hv⟩ : ∃ hd t, D.vers k = hd :: t := ⟨_, _, rfl⟩
  have cs : k < D.arr.length → wr.cell? ⟨s, k, none⟩ = some (.slice (some ⟨g' k, 0, none⟩) (t.length + 1) (c' k)) := fun h => by
   rw [cell_of_heap hA.at_.sec, hl]
   simp [h, settled_vers_ge D lost h (Nat.le_refl k), hv]
  have hr : k < D.arr.length → wr.ownsRow 0 124 65 (.slice (some ⟨g' k, 0, none⟩) (t.length + 1) (c' k)) (t.length + 1) ((hd :: t).flatMap vcells) := fun h => by
   have := hA.at_.rows k (by rw [hl]; exact h)
   rwa [settled_vers_ge D lost h (Nat.le_refl k), hv] at this
  have HA := Lib.hid hA
  have HV := Lib.hid hv
  have HR := Lib.hid hr
  clear hA hm hl hv hr
  go_upto_region 4 with fail
  ·have hlt : k < D.arr.length := by assumption
   have cs := cs hlt
   go_wp2
   go_step3
   go_wp2
   go_step3
   have hcap : t.length + 1 ≤ c' k := by
    rcases (HR.out hlt).2 with ⟨e, _⟩ | ⟨_, _, _, e, _, _, e2, _⟩
    ·simp at e
    ·simp at e; omega
   iterate 8 go_step
   refine wpList_slice1 rfl rfl rfl hcap (fun off hoff => ?_)
   have HOF := Lib.hid hoff
   have htl : t.length ≤ 1099511627774 := by
    have h1 := vers_length_le D k
    rw [HV.out] at h1
    have := HO.out.rowlen
    simp at h1; omega
   clear hoff cs hcap
   go_wp2
   obtain ⟨wo, rfl⟩ : ∃ wo : World, wo = wr := ⟨_, rfl⟩
   go_loopg [6, 22] t.length (fun gi n i wi => ∃ q : Nat, q ≤ t.length ∧ gi = t.length - q ∧ n = .int .i64 q ∧ i = .int .i64 q ∧ Upd (fun _ => False) wo wi ∧ ∀ j x, j < q → t[j]? = some x → lost x.2 = false)
   case atStart => exact ⟨0, Nat.zero_le _, rfl, rfl, rfl, Upd.refl _ _, fun j x hj => by omega⟩
   case round =>
    obtain ⟨q, hq, rfl, rfl, rfl, hU, hL⟩ := hrel
    have HU := Lib.hid hU; have HL := Lib.hid hL
    clear hU hL
    go_upto_region 6 with fail
    ·have hqt : q < t.length := by assumption
     obtain rfl := HOF.out (by omega)
     have hqi : (q : Int) < t.length := by omega
     iterate 7 go_step
     obtain ⟨x, hx⟩ : ∃ x, t[q]? = some x := ⟨t[q], by simp [hqt]⟩
     have hvs : ∀ v ∈ hd :: t, okBlk v.1 := by rw [← HV.out]; exact vers_blk HO.out hlt
     have hxb : okBlk x.1 := hvs x (List.mem_cons_of_mem _ (List.mem_of_getElem? hx))
     have hxl := vcells_length hxb.1
     have HXN := Lib.hid (vers_rng HO.out k x (by rw [HV.out]; exact List.mem_cons_of_mem _ (List.mem_of_getElem? hx)))
     have hrW := ownsRow_upd (HR.out hlt) HU.out (fun e => e)
     have hi130 : (Tryz.prog.info? 124).map (·.size) = some (vcells x).length := by rw [Tryz.size124, hxl]
     have hrg : wr.rangeAt (g' k) (65 + q * 65) (vcells x) := by
      have := rangeAt_row hrW (vcells_whole (hd :: t) (q + 1) x (by simpa using hx) (fun v hv => (hvs v hv).1))
      rwa [show (q + 1) * 65 = 65 + q * 65 by omega] at this
     have HX := Lib.hid hx; have HXB := Lib.hid hxb; have HXL := Lib.hid hxl; have HI := Lib.hid hi130; have HRG := Lib.hid hrg
     clear hx hvs hxb hxl hrW hi130 hrg
     refine wpList_load_mid rfl 124 (.tmp 25) rfl (g' k) (65 + q * 65) rfl (vcells x) _ HRG.out Tryz.underlying124 rfl HI.out ?_
     iterate 6 go_step
     have hblk : (wr.alloc (.cells Tryz.zeroCells124 124)).heap[wr.heap.size]? = some (.cells Tryz.zeroCells124 124 (0, 0)) := alloc_at rfl
     have hth : (wr.alloc (.cells Tryz.zeroCells124 124)).there wr.heap.size 0 (vcells x).toArray.size := by
      have := there_block hblk
      rwa [show Tryz.zeroCells124.size = (vcells x).toArray.size by rw [Tryz.zsize124]; simp [HXL.out]] at this
     refine wpList_store_mid rfl 124 (.tmp 8) (.tmp 26) rfl wr.heap.size 0 (vcells x).toArray rfl rfl hth (by rw [HI.out]; simp) (all_oneCell_toArray (vcells_one x)) ?_
     have hb2 := heap_setCells_whole (vs := vcells x) hblk (by rw [Tryz.zsize124, HXL.out])
     have hU2 : Upd (fun _ => False) wo ((wr.alloc (.cells Tryz.zeroCells124 124)).setCells wr.heap.size 0 (vcells x)) := by
      have := Upd.setCells (F := fun j => wo.heap.size ≤ j) (b := wr.heap.size) HU.out.size (vcells x) 0 ((HU.out.mono (G := fun j => wo.heap.size ≤ j) (fun _ _ e => e.elim)).alloc (.cells Tryz.zeroCells124 124))
      exact this.mono (fun j hj e => by omega)
     clear hblk hth
     obtain ⟨b2, hb2e⟩ : ∃ b2, b2 = wr.heap.size := ⟨_, rfl⟩
     simp only []
     generalize (wr.alloc (.cells Tryz.zeroCells124 124)).setCells wr.heap.size 0 (vcells x) = W2 at *
     rw [← hb2e] at hb2 ⊢
     have HB2 := Lib.hid hb2; have HU2 := Lib.hid hU2
     clear hb2 hU2 hb2e
     go_upto_region 7 with fail
     iterate 4 go_step
     refine wpList_load_mid rfl 124 (.tmp 8) rfl b2 0 rfl (vcells x) _ (rangeAt_block HB2.out) Tryz.underlying124 rfl HI.out ?_
     go_wp2_with fail
     have hcx := HC.out W2 (HA.out.upd.trans (HU2.out.mono (fun _ _ e => e.elim))) x HXB.out HXN.out
     obtain ⟨lx, hlx⟩ : ∃ lx, lost x.2 = lx := ⟨_, rfl⟩
     rw [hlx] at hcx
     have HLX := Lib.hid hlx
     clear hlx
     refine hcx.mono ?_
     clear hcx
     rintro e w' ⟨rfl, h3⟩
     have HU3 := Lib.hid (HU2.out.trans h3)
     clear h3
     cases lx
     ·simp only []
      go_step
      go_wp2
      go_roundg (t.length - (q + 1))
      case measure => omega
      case rel =>
       refine ⟨q + 1, by omega, rfl, by go_num, by go_num, HU3.out, fun j y hj hy => ?_⟩
       by_cases hjq : j = q
       ·subst hjq
        rw [HX.out] at hy
        obtain rfl := Option.some.inj hy
        exact HLX.out
       ·exact HL.out j y (by omega) hy
     ·simp only []
      go_step
      go_wp2
      have hcnt : D.count lost k = q := by
       unfold Dk.count
       rw [HV.out]
       refine takeWhile_count _ t q (fun j y hj hy => by simp [HL.out j y hj hy]) hq (fun y hy => ?_)
       rw [HX.out] at hy
       obtain rfl := Option.some.inj hy
       simp [HLX.out]
      have HK := arr_tail HA.out HU3.out hlt HV.out HO.out (q := q) hcnt
      clear hcnt
      have HK6 : RowKit.Hid ((Tryz.prog.info? 48).map (·.size) = some (bcells (D.kept lost k)).length) := Lib.hid (by rw [Tryz.info56p, HK.out.2.2])
      have HKL := Lib.hid HK.out.2.2
      have hk1 : (0 : Int) ≤ (q : Int) := Int.natCast_nonneg _
      have hk2 : (q : Int) < ((t.length + 1 : Nat) : Int) := by omega
      have hA : w'.drew.cell? ⟨p, 0, none⟩ = some (.slice (some ⟨s, 0, none⟩) D.arr.length D.arr.length) ∧ w'.drew.rangeAt (g' k) (q * 65) (bcells (D.kept lost k)) := ⟨HK.out.1, HK.out.2.1⟩
      clear c0 cs
      refine wp_region_G 12 (fun W' => W'.cell? ⟨p, 0, none⟩ = some (.slice (some ⟨s, 0, none⟩) D.arr.length D.arr.length) ∧ W'.rangeAt (g' k) (q * 65) (bcells (D.kept lost k))) [false, false, false, false, false, false, false, false, false, false, false, false, false, false] rfl (by kernel_rfl) ?_
      refine wpG_take (i := 0) (v := .pointer (some ⟨p, 0, none⟩)) rfl (by kernel_rfl) (fun _ _ _ h => h) hA (.inl ⟨rfl, fun w ⟨q1, q2⟩ => ?_⟩) ?_
      ·go_simp
      simp only [Act.put, List.setIfInBounds_toArray, List.set]
      refine wpG_take (i := 1) (v := .pointer (some ⟨p, 0, none⟩)) rfl (by kernel_rfl) (fun _ _ _ h => h) hA (.inl ⟨rfl, fun w ⟨q1, q2⟩ => ?_⟩) ?_
      ·go_simp
      simp only [Act.put, List.setIfInBounds_toArray, List.set]
      refine wpG_take (i := 2) (v := .pointer (some ⟨p, 0, none⟩)) rfl (by kernel_rfl) (fun _ _ _ h => h) hA (.inl ⟨rfl, fun w ⟨q1, q2⟩ => ?_⟩) ?_
      ·go_simp
      simp only [Act.put, List.setIfInBounds_toArray, List.set]
      refine wpG_take (i := 3) (v := .slice (some ⟨s, 0, none⟩) D.arr.length D.arr.length) rfl (by kernel_rfl) (fun _ _ _ h => h) hA (.inl ⟨rfl, fun w ⟨q1, q2⟩ => ?_⟩) ?_
      ·go_simp
      simp only [Act.put, List.setIfInBounds_toArray, List.set]
      refine wpG_take (i := 4) (v := .int .i64 (k : Int)) rfl (by kernel_rfl) (fun _ _ _ h => h) hA (.inl ⟨rfl, fun w ⟨q1, q2⟩ => ?_⟩) ?_
      ·go_simp
      simp only [Act.put, List.setIfInBounds_toArray, List.set]
      refine wpG_take (i := 5) (v := .slice (some ⟨g' k, 0, none⟩) (t.length + 1) (c' k)) rfl (by kernel_rfl) (fun _ _ _ h => h) hA (.inl ⟨rfl, fun w ⟨q1, q2⟩ => ?_⟩) ?_
      ·go_simp
      simp only [Act.put, List.setIfInBounds_toArray, List.set]
      refine wpG_take (i := 6) (v := .int .i64 (q : Int)) rfl (by kernel_rfl) (fun _ _ _ h => h) hA (.inl ⟨rfl, fun w ⟨q1, q2⟩ => ?_⟩) ?_
      ·go_simp
      simp only [Act.put, List.setIfInBounds_toArray, List.set]
      refine wpG_take (i := 7) (v := .pointer (some ⟨g' k, q * 65, none⟩)) rfl (by kernel_rfl) (fun _ _ _ h => h) hA (.inl ⟨rfl, fun w ⟨q1, q2⟩ => ?_⟩) ?_
      ·(go_simp; intro hx; omega)
      simp only [Act.put, List.setIfInBounds_toArray, List.set]
      refine wpG_take (i := 8) (v := .pointer (some ⟨g' k, q * 65, none⟩)) rfl (by kernel_rfl) (fun _ _ _ h => h) hA (.inl ⟨rfl, fun w ⟨q1, q2⟩ => ?_⟩) ?_
      ·go_simp
      simp only [Act.put, List.setIfInBounds_toArray, List.set]
      refine wpG_take (i := 9) (v := .agg (bcells (D.kept lost k)).toArray) rfl (by kernel_rfl) (fun _ _ _ h => h) hA (.inl ⟨rfl, fun w ⟨q1, q2⟩ => ?_⟩) ?_
      ·exact run_load_mid' rfl rfl (bcells (D.kept lost k)) q2 Tryz.underlying48 rfl HK6.out
      simp only [Act.put, List.setIfInBounds_toArray, List.set]
      refine wpG_take (i := 10) (v := .agg (bcells (D.kept lost k) ++ [Value.int .i64 0]).toArray) rfl (by kernel_rfl) (fun _ _ _ h => h) hA (.inl ⟨rfl, fun w ⟨q1, q2⟩ => ?_⟩) ?_
      ·exact run_exec_build (run_build130_one (bcells (D.kept lost k)) _ HKL.out) rfl (by simp [Act.eval])
      simp only [Act.put, List.setIfInBounds_toArray, List.set]
      refine wpG_do (i := 11) rfl (by kernel_rfl) rfl (fun K hK => ?_)
      refine wp_exec (run_exec_buildSlice (run_buildSlice131 (bcells (D.kept lost k) ++ [Value.int .i64 0]) _ (by simp [HKL.out])) rfl (by simp [Act.eval])) ?_
      refine hK _ _ ⟨keepa (W := w'.drew) hA.1, World.rangeAt_alloc hA.2 _⟩ ?_
      simp only [Act.put, List.setIfInBounds_toArray, List.set]
      refine wpG_tail_lit (k := 12) rfl rfl (by kernel_rfl) ?_
      simp only [List.drop]
      clear hA
      have HNX := Lib.hid (ArrAt.next HA.out HU3.out hlt HO.out ((HF.out s).2 (.inr (.inl rfl))))
      have cs2 : ∀ o, (w'.alloc o).cell? ⟨s, k, none⟩ = some (.slice (some ⟨g' k, 0, none⟩) (t.length + 1) (c' k)) := arr_cell HA.out HU3.out hlt HV.out
      have cf2 : ∀ o, (w'.alloc o).frozen? ⟨s, k, none⟩ = false := arr_frozen HA.out HU3.out
      go_wp2
      simp only [Exit.noGoto]
      go_wp2
      go_roundg (D.arr.length - (k + 1))
      case measure => omega
      case rel =>
       have := HN.out.2
       exact ⟨k + 1, by omega, rfl, congrArg _ ((IntWalk.wrap64_in _ (by omega)).trans (by omega)), _, _, HNX.out⟩
    ·have hqe : q = t.length := by omega
     have hcnt : D.count lost k = q := by
      unfold Dk.count
      rw [HV.out]
      refine takeWhile_count _ t q (fun j y hj hy => by simp [HL.out j y hj hy]) hq (fun y hy => ?_)
      rw [hqe] at hy
      simp at hy
     clear hqe
     have HK := arr_tail HA.out HU.out hlt HV.out HO.out (q := q) hcnt
     clear hcnt
     have HK6 : RowKit.Hid ((Tryz.prog.info? 48).map (·.size) = some (bcells (D.kept lost k)).length) := Lib.hid (by rw [Tryz.info56p, HK.out.2.2])
     have HKL := Lib.hid HK.out.2.2
     have hk1 : (0 : Int) ≤ (q : Int) := Int.natCast_nonneg _
     have hk2 : (q : Int) < ((t.length + 1 : Nat) : Int) := by omega
     have hA : wr.drew.cell? ⟨p, 0, none⟩ = some (.slice (some ⟨s, 0, none⟩) D.arr.length D.arr.length) ∧ wr.drew.rangeAt (g' k) (q * 65) (bcells (D.kept lost k)) := ⟨HK.out.1, HK.out.2.1⟩
     clear c0 cs
     refine wp_region_G 12 (fun W' => W'.cell? ⟨p, 0, none⟩ = some (.slice (some ⟨s, 0, none⟩) D.arr.length D.arr.length) ∧ W'.rangeAt (g' k) (q * 65) (bcells (D.kept lost k))) [false, false, false, false, false, false, false, false, false, false, false, false, false, false] rfl (by kernel_rfl) ?_
     refine wpG_take (i := 0) (v := .pointer (some ⟨p, 0, none⟩)) rfl (by kernel_rfl) (fun _ _ _ h => h) hA (.inl ⟨rfl, fun w ⟨q1, q2⟩ => ?_⟩) ?_
     ·go_simp
     simp only [Act.put, List.setIfInBounds_toArray, List.set]
     refine wpG_take (i := 1) (v := .pointer (some ⟨p, 0, none⟩)) rfl (by kernel_rfl) (fun _ _ _ h => h) hA (.inl ⟨rfl, fun w ⟨q1, q2⟩ => ?_⟩) ?_
     ·go_simp
     simp only [Act.put, List.setIfInBounds_toArray, List.set]
     refine wpG_take (i := 2) (v := .pointer (some ⟨p, 0, none⟩)) rfl (by kernel_rfl) (fun _ _ _ h => h) hA (.inl ⟨rfl, fun w ⟨q1, q2⟩ => ?_⟩) ?_
     ·go_simp
     simp only [Act.put, List.setIfInBounds_toArray, List.set]
     refine wpG_take (i := 3) (v := .slice (some ⟨s, 0, none⟩) D.arr.length D.arr.length) rfl (by kernel_rfl) (fun _ _ _ h => h) hA (.inl ⟨rfl, fun w ⟨q1, q2⟩ => ?_⟩) ?_
     ·go_simp
     simp only [Act.put, List.setIfInBounds_toArray, List.set]
     refine wpG_take (i := 4) (v := .int .i64 (k : Int)) rfl (by kernel_rfl) (fun _ _ _ h => h) hA (.inl ⟨rfl, fun w ⟨q1, q2⟩ => ?_⟩) ?_
     ·go_simp
     simp only [Act.put, List.setIfInBounds_toArray, List.set]
     refine wpG_take (i := 5) (v := .slice (some ⟨g' k, 0, none⟩) (t.length + 1) (c' k)) rfl (by kernel_rfl) (fun _ _ _ h => h) hA (.inl ⟨rfl, fun w ⟨q1, q2⟩ => ?_⟩) ?_
     ·go_simp
     simp only [Act.put, List.setIfInBounds_toArray, List.set]
     refine wpG_take (i := 6) (v := .int .i64 (q : Int)) rfl (by kernel_rfl) (fun _ _ _ h => h) hA (.inl ⟨rfl, fun w ⟨q1, q2⟩ => ?_⟩) ?_
     ·go_simp
     simp only [Act.put, List.setIfInBounds_toArray, List.set]
     refine wpG_take (i := 7) (v := .pointer (some ⟨g' k, q * 65, none⟩)) rfl (by kernel_rfl) (fun _ _ _ h => h) hA (.inl ⟨rfl, fun w ⟨q1, q2⟩ => ?_⟩) ?_
     ·(go_simp; intro hx; omega)
     simp only [Act.put, List.setIfInBounds_toArray, List.set]
     refine wpG_take (i := 8) (v := .pointer (some ⟨g' k, q * 65, none⟩)) rfl (by kernel_rfl) (fun _ _ _ h => h) hA (.inl ⟨rfl, fun w ⟨q1, q2⟩ => ?_⟩) ?_
     ·go_simp
     simp only [Act.put, List.setIfInBounds_toArray, List.set]
     refine wpG_take (i := 9) (v := .agg (bcells (D.kept lost k)).toArray) rfl (by kernel_rfl) (fun _ _ _ h => h) hA (.inl ⟨rfl, fun w ⟨q1, q2⟩ => ?_⟩) ?_
     ·exact run_load_mid' rfl rfl (bcells (D.kept lost k)) q2 Tryz.underlying48 rfl HK6.out
     simp only [Act.put, List.setIfInBounds_toArray, List.set]
     refine wpG_take (i := 10) (v := .agg (bcells (D.kept lost k) ++ [Value.int .i64 0]).toArray) rfl (by kernel_rfl) (fun _ _ _ h => h) hA (.inl ⟨rfl, fun w ⟨q1, q2⟩ => ?_⟩) ?_
     ·exact run_exec_build (run_build130_one (bcells (D.kept lost k)) _ HKL.out) rfl (by simp [Act.eval])
     simp only [Act.put, List.setIfInBounds_toArray, List.set]
     refine wpG_do (i := 11) rfl (by kernel_rfl) rfl (fun K hK => ?_)
     refine wp_exec (run_exec_buildSlice (run_buildSlice131 (bcells (D.kept lost k) ++ [Value.int .i64 0]) _ (by simp [HKL.out])) rfl (by simp [Act.eval])) ?_
     refine hK _ _ ⟨keepa (W := wr.drew) hA.1, World.rangeAt_alloc hA.2 _⟩ ?_
     simp only [Act.put, List.setIfInBounds_toArray, List.set]
     refine wpG_tail_lit (k := 12) rfl rfl (by kernel_rfl) ?_
     simp only [List.drop]
     clear hA
     have HNX := Lib.hid (ArrAt.next HA.out HU.out hlt HO.out ((HF.out s).2 (.inr (.inl rfl))))
     have cs2 : ∀ o, (wr.alloc o).cell? ⟨s, k, none⟩ = some (.slice (some ⟨g' k, 0, none⟩) (t.length + 1) (c' k)) := arr_cell HA.out HU.out hlt HV.out
     have cf2 : ∀ o, (wr.alloc o).frozen? ⟨s, k, none⟩ = false := arr_frozen HA.out HU.out
     go_wp2
     simp only [Exit.noGoto]
     go_wp2
     go_roundg (D.arr.length - (k + 1))
     case measure => omega
     case rel =>
      have := HN.out.2
      exact ⟨k + 1, by omega, rfl, congrArg _ ((IntWalk.wrap64_in _ (by omega)).trans (by omega)), _, _, HNX.out⟩
  ·have hkn : k = D.arr.length := by omega
   subst hkn
   have hA := HA.out
   have hat := hA.at_
   rw [settled_all HO.out lost] at hat
   go_returns
   refine ⟨rfl, _, ⟨s, g', c', hat, fun _ => Iff.rfl⟩, ?_, hA.upd⟩
   rintro j (e | e | ⟨i, hi, e⟩)
   ·exact .inl ((HF.out j).2 (.inl e))
   ·exact .inl ((HF.out j).2 (.inr (.inl e)))
   ·have hi' : i < D.arr.length := by simpa [Dk.arrive] using hi
    rcases hA.news i hi' with e2 | e2
    ·exact .inl ((HF.out j).2 (.inr (.inr ⟨i, hi', e.trans e2⟩)))
    ·exact .inr (by omega)
end
section
open Go.RowKit
theorem callF_enters84 : ∀ args w, (callFunc 186 args).run Tryz.prog w = .ok (.enter 186 args) w := enters_of Tryz.func186 (by kernel_rfl) rfl
theorem callF_enters86 : ∀ args w, (callFunc 187 args).run Tryz.prog w = .ok (.enter 187 args) w := enters_of Tryz.func187 (by kernel_rfl) rfl
theorem callF_enters87 : ∀ args w, (callFunc 188 args).run Tryz.prog w = .ok (.enter 188 args) w := enters_of Tryz.func188 (by kernel_rfl) rfl
theorem callF_enters89 : ∀ args w, (callFunc 78 args).run Tryz.prog w = .ok (.enter 78 args) w := enters_of Tryz.func78 (by kernel_rfl) rfl
theorem Dk.Ok.mono {D : Dk} {K K' : Nat} (h : D.Ok K) (hk : K ≤ K') : D.Ok K' :=
 ⟨h.len, h.blks, h.rblks, h.sorted, ⟨h.sent.1, by have := h.sent.2; omega⟩, ⟨h.ops.1, by have := h.ops.2; omega⟩, h.arm, h.fail, Nat.le_trans h.rowlen hk⟩
theorem Dk.Ok.callD {D : Dk} {K : Nat} (h : D.Ok K) (i : Int) (wr : Bool) : (D.callD i wr).Ok (K + 1) := by
 have h1 := h.mono (Nat.le_succ K)
 obtain ⟨a1, a2⟩ := h.arm
 obtain ⟨f1, f2⟩ := h.fail
 obtain ⟨o1, o2⟩ := h.ops
 unfold Dk.callD
 split
 ·exact h1
 ·split
  ·exact h1
  ·split
   ·exact ⟨h1.len, h1.blks, h1.rblks, h1.sorted, h1.sent, h1.ops, h1.arm, ⟨by show -1 ≤ max (D.fail - 1) (-1); omega, by show max (D.fail - 1) (-1) ≤ _; omega⟩, h1.rowlen⟩
   ·split
    ·exact ⟨h1.len, h1.blks, h1.rblks, h1.sorted, h1.sent, h1.ops, h1.arm, ⟨by show (-1 : Int) ≤ -1; omega, by show (-1 : Int) ≤ 9223372036854775807; omega⟩, h1.rowlen⟩
    ·refine ⟨h1.len, h1.blks, h1.rblks, h1.sorted, h1.sent, ⟨by show 0 ≤ D.ops + 1; omega, by show D.ops + 1 ≤ _; omega⟩, ?_, ⟨by show -1 ≤ max (D.fail - 1) (-1); omega, by show max (D.fail - 1) (-1) ≤ _; omega⟩, h1.rowlen⟩
     cases wr
     ·exact h1.arm
     ·exact ⟨by show -1 ≤ max (D.arm - 1) (-1); omega, by show max (D.arm - 1) (-1) ≤ _; omega⟩
theorem Dk.Ok.arrive {D : Dk} {K : Nat} (h : D.Ok K) (lost : Int → Bool) : (D.arrive lost).Ok K := by
 refine ⟨by simpa [Dk.arrive] using h.len, ?_, by simp [Dk.arrive], by simp [Dk.arrive], h.sent, h.ops, h.arm, h.fail, by simp [Dk.arrive]⟩
 intro b hb
 simp [Dk.arrive] at hb
 obtain ⟨i, hi, rfl⟩ := hb
 exact kept_blk h lost hi
theorem Dk.Ok.send {D : Dk} {K : Nat} (h : D.Ok K) {i : Nat} (hi : i < D.arr.length) {b : List Int} (hb : okBlk b) : (D.send i b).Ok (K + 1) := by
 have h1 := h.mono (Nat.le_succ K)
 obtain ⟨s1, s2⟩ := h.sent
 refine ⟨h1.len, h1.blks, ?_, ?_, ⟨by show 0 ≤ D.sent + 1; omega, by show D.sent + 1 ≤ _; omega⟩, h1.ops, h1.arm, h1.fail, ?_⟩
 ·intro x hx
  simp only [Dk.send, List.mem_append, List.mem_singleton] at hx
  rcases hx with hx | rfl
  ·obtain ⟨q1, q2, q3, q4⟩ := h.rblks x hx
   exact ⟨q1, q2, q3, by show x.2.2 ≤ D.sent + 1; omega⟩
  ·exact ⟨hb, hi, by show 1 ≤ D.sent + 1; omega, Int.le_refl _⟩
 ·simp only [Dk.send]
  rw [List.pairwise_append]
  refine ⟨h.sorted, by simp, fun x hx y hy => ?_⟩
  simp at hy; subst hy
  have := (h.rblks x hx).2.2.2
  show x.2.2 < D.sent + 1; omega
 ·have := h.rowlen
  simp [Dk.send]; omega
theorem Dk.Ok.write {D : Dk} {K : Nat} (h : D.Ok K) (i : Int) {b : List Int} (hb : okBlk b) : (D.write i b).Ok (K + 2) := by
 unfold Dk.write
 split
 ·rename_i hc
  refine (h.callD i true).send ?_ hb
  have : (D.callD i true).arr = D.arr := by unfold Dk.callD; split <;> (try rfl); split <;> (try rfl); split <;> (try rfl); split <;> rfl
  rw [this]
  simp [Dk.callR] at hc; omega
 ·exact (h.callD i true).mono (by omega)
def Dk.sync (D : Dk) : Dk := if D.callE 0 true = 0 then (D.callD 0 true).arrive (fun _ => false) else D.callD 0 true
theorem Dk.Ok.sync {D : Dk} {K : Nat} (h : D.Ok K) : D.sync.Ok (K + 1) := by
 unfold Dk.sync
 split
 ·exact (h.callD 0 true).arrive _
 ·exact h.callD 0 true
theorem never_lost (v : List Int × Int) (w : World) (hv : okBlk v.1) : Calls Tryz.prog 187 (#[.agg (vcells v).toArray] ++ #[]) w fun e w' => e = .returned (.bool false) ∧ Upd (fun _ => False) w w' := by
 have hl := vcells_length hv.1
 generalize vcells v = cs at *
 have HL := Lib.hid hl
 clear hl
 show Calls Tryz.prog 187 #[.agg cs.toArray] w _
 go_enter Tryz.func187, Tryz.ntmps187
 go_wp2
 go_ret
 exact ⟨rfl, (Upd.refl _ w).alloc _⟩
theorem nothing (s : Nat) (w : World) : Calls Tryz.prog 188 (#[.pointer (some ⟨s, 0, none⟩)] ++ #[]) w fun e w' => e = .returned (.tuple #[]) ∧ w = w' := by
 show Calls Tryz.prog 188 #[.pointer (some ⟨s, 0, none⟩)] w _
 go_enter Tryz.func188, Tryz.ntmps188
 go_wp2
 go_returns
 exact ⟨rfl, rfl⟩
theorem arrives_all {p s bx : Nat} {D : Dk} {F : Nat → Prop} (w : World) (h : Dsk w p D F) (hok : D.Ok 1099511627774) (hb : w.heap[bx]? = some (.cells #[.pointer (some ⟨p, 0, none⟩)] 25 (0, 0))) :
  Calls Tryz.prog 186 (#[.pointer (some ⟨s, 0, none⟩)] ++ #[.pointer (some ⟨bx, 0, none⟩)]) w fun e w' => e = .returned (.tuple #[]) ∧ Left w p (D.arrive (fun _ => false)) F w' := by
 have HC := Lib.hid (arrive_any (lost := fun _ => false) 187 #[] w h hok callF_enters86 (fun W1 _ v hv _ => never_lost v W1 hv))
 have c0 := cells1_of hb
 clear h hok hb
 show Calls Tryz.prog 186 #[.pointer (some ⟨s, 0, none⟩), .pointer (some ⟨bx, 0, none⟩)] w _
 go_enter Tryz.func186, Tryz.ntmps186
 go_wp2_with fail
 refine HC.out.mono ?_
 rintro e w' ⟨rfl, h⟩
 go_wp2
 go_returns
 exact ⟨rfl, h⟩
theorem sync_any {p : Nat} {D : Dk} {F : Nat → Prop} (w : World) (h : Dsk w p D F) (hok : D.Ok 1099511627773) :
  Calls Tryz.prog 159 #[.pointer (some ⟨p, 0, none⟩)] w fun e w' => e = .returned (.int .i64 (D.callE 0 true)) ∧ Left w p D.sync F w' := by
 have hlt := h.lt
 have hokD := hok.callD 0 true
 have hok0 := hok.mono (K' := 1099511627774) (by omega)
 obtain ⟨s, g, c, hD, hF⟩ := h
 have hlen := hok.len
 have hU1 : Upd F w (w.alloc (.cells #[.pointer (some ⟨p, 0, none⟩)] 25)) := (Upd.refl _ w).alloc _
 have hD1 : DiskAt (w.alloc (.cells #[.pointer (some ⟨p, 0, none⟩)] 25)) p D s g c := hD.kept (G := fun _ => False) ((Upd.refl _ w).alloc _) (fun _ _ h => h)
 have hbd : (w.alloc (.cells #[.pointer (some ⟨p, 0, none⟩)] 25)).heap[w.heap.size]? = some (.cells #[.pointer (some ⟨p, 0, none⟩)] 25 (0, 0)) := alloc_at rfl
 have hz : w.heap.size ≤ (w.alloc (.cells #[.pointer (some ⟨p, 0, none⟩)] 25)).heap.size := by simp
 have hcall : Calls Tryz.prog 79 #[.pointer (some ⟨p, 0, none⟩), .int .i64 0, .bool true, .func (.func 186) #[] #[.pointer (some ⟨w.heap.size, 0, none⟩)], .func (.func 188) #[] #[]]
   (w.alloc (.cells #[.pointer (some ⟨p, 0, none⟩)] 25)) fun e w' => e = .returned (.int .i64 (D.callE 0 true)) ∧ Left w p D.sync F w' := by
  generalize w.alloc (.cells #[.pointer (some ⟨p, 0, none⟩)] 25) = w0 at *
  have hm : w0.heap[p]? = some (mainObj s D.arr.length D.sent D.ops D.arm D.fail D.dead) := hD1.main
  have hk : 0 < D.arr.length := by omega
  have hk2 : D.arr ≠ [] := by intro e; rw [e] at hk; simp at hk
  cases hd : D.dead
  ·rw [hd] at hm
   by_cases ha0 : D.arm = 0
   ·rw [ha0] at hm
    have e1 : D.callE 0 true = 9 := by simp [Dk.callE, hd, hk2, ha0]
    have e2 : D.sync = ({ D with fail := max (D.fail - 1) (-1), dead := true } : Dk) := by
     unfold Dk.sync; rw [e1]; simp [Dk.callD, hd, hk2, ha0]
    rw [e1, e2]
    refine call_dies 0 _ 188 _ _ w0 hm hk callF_enters87 hok.fail (fun W1 h1 h2 => (nothing s W1).mono ?_)
    rintro e w' ⟨rfl, rfl⟩
    exact ⟨rfl, (Left.main hD1 hF (D' := { D with fail := max (D.fail - 1) (-1), dead := true }) rfl rfl (by rw [ha0]; exact h1) h2).of_upd hU1 hz⟩
   ·by_cases hf0 : D.fail = 0
    ·rw [hf0] at hm
     have e1 : D.callE 0 true = 8 := by simp [Dk.callE, hd, hk2, ha0, hf0]
     have e2 : D.sync = ({ D with fail := -1 } : Dk) := by
      unfold Dk.sync; rw [e1]; simp [Dk.callD, hd, hk2, ha0, hf0]
     rw [e1, e2]
     refine (call_fails_t 0 _ _ w0 hm hk ha0).mono ?_
     rintro e w' ⟨rfl, h1, h2⟩
     exact ⟨rfl, (Left.main hD1 hF (D' := { D with fail := -1 }) rfl rfl (by rw [hd]; exact h1) h2).of_upd hU1 hz⟩
    ·have e1 : D.callE 0 true = 0 := by simp [Dk.callE, hd, hk2, ha0, hf0]
     have e3 : D.callD 0 true = ({ D with fail := max (D.fail - 1) (-1), ops := D.ops + 1, arm := max (D.arm - 1) (-1) } : Dk) := by simp [Dk.callD, hd, hk2, ha0, hf0]
     have e2 : D.sync = (D.callD 0 true).arrive (fun _ => false) := by unfold Dk.sync; rw [e1]; rfl
     rw [e1, e2, e3]
     rw [e3] at hokD
     refine call_go_t 0 _ 186 _ _ w0 hm hk callF_enters84 ha0 hok.arm hf0 hok.fail ⟨hok.ops.1, by have := hok.ops.2; omega⟩ (fun W1 h1 h2 => ?_)
     have hA : Dsk W1 p { D with fail := max (D.fail - 1) (-1), ops := D.ops + 1, arm := max (D.arm - 1) (-1) } F := Dsk.withMain hD1 hF rfl rfl (by rw [hd]; exact h1) h2
     have hz1 := h2.size
     refine (arrives_all (s := s) W1 hA hokD ((h2.block _ (lt_of_heap hbd) (fun e => by have := hlt p ((hF p).2 (.inl rfl)); omega)).trans hbd)).mono ?_
     rintro e w' ⟨rfl, hl⟩
     exact ⟨rfl, hl.of_upd (hU1.trans (h2.mono (fun _ _ e => (hF _).2 (.inl e)))) (by omega)⟩
  ·rw [hd] at hm
   refine (call_dead 0 true _ _ w0 hm).mono ?_
   rintro e w' ⟨rfl, rfl⟩
   have e1 : D.callE 0 true = 9 := by simp [Dk.callE, hd]
   have e2 : D.sync = D := by unfold Dk.sync; rw [e1]; simp [Dk.callD, hd]
   rw [e1, e2]
   exact ⟨rfl, (Left.same ⟨s, g, c, hD1, hF⟩).of_upd hU1 hz⟩
 have HC := Lib.hid hcall
 clear hcall hD1 hU1 hbd hz hD hF hlt hlen hok hok0 hokD
 go_enter Tryz.func159, Tryz.ntmps159
 go_wp2_with (go_at_call 79; refine HC.out.mono ?_; rintro e w' ⟨rfl, hl⟩)
 go_ret
 exact ⟨rfl, hl⟩
def layF (x : Int) (bits : Nat) : List Int := (List.range (bits / 8)).map fun i => (x / 2 ^ (bits - 8 * (i + 1))) % 256
theorem layF_length (x : Int) (bits : Nat) : (layF x bits).length = bits / 8 := by simp [layF]
theorem layF_byte {x : Int} {bits : Nat} : ∀ y ∈ layF x bits, 0 ≤ y ∧ y ≤ 255 := by
 intro y hy
 simp only [layF, List.mem_map] at hy
 obtain ⟨i, _, rfl⟩ := hy
 have h1 := Int.emod_nonneg (x / 2 ^ (bits - 8 * (i + 1))) (b := 256) (by omega)
 have h2 := Int.emod_lt_of_pos (x / 2 ^ (bits - 8 * (i + 1))) (b := 256) (by omega)
 omega
def sumStep (p : Int × Int) (c : Int) : Int × Int := ((p.1 + c) % 65521, (p.2 + (p.1 + c) % 65521) % 65521)
def sumP (bs : List Int) : Int × Int := bs.foldl sumStep (1, 0)
def sumF (bs : List Int) : Int := (sumP bs).2 * 65536 + (sumP bs).1
def Bytes (bs : List Int) : Prop := ∀ x ∈ bs, 0 ≤ x ∧ x ≤ 255
def okP (p : Int × Int) : Prop := (0 ≤ p.1 ∧ p.1 < 65521) ∧ 0 ≤ p.2 ∧ p.2 < 65521
theorem okP_step {p : Int × Int} (c : Int) : okP (sumStep p c) := by
 unfold sumStep okP
 exact ⟨⟨Int.emod_nonneg _ (by omega), Int.emod_lt_of_pos _ (by omega)⟩, Int.emod_nonneg _ (by omega), Int.emod_lt_of_pos _ (by omega)⟩
theorem okP_fold : ∀ (bs : List Int) (p : Int × Int), okP p → okP (bs.foldl sumStep p)
 | [], _, h => h
 |c :: bs, _p, _ => okP_fold bs _ (okP_step c)
theorem sumP_bound (bs : List Int) : (0 ≤ (sumP bs).1 ∧ (sumP bs).1 < 65521) ∧ 0 ≤ (sumP bs).2 ∧ (sumP bs).2 < 65521 :=
 okP_fold bs (1, 0) (by unfold okP; omega)
def sectorF (b : List Int) : List Int := (b ++ List.replicate (60 - b.length) 0) ++ layF (sumF (b ++ List.replicate (60 - b.length) 0)) 32
structure Hd where
 turn : Int
 area : Int
 place : Int
 number : Int
def lettersF : List Int := [104, 101, 97, 100, 114, 97, 99, 101]
def headF (h : Hd) : List Int := sectorF (lettersF ++ layF h.turn 32 ++ layF h.area 32 ++ layF h.place 32 ++ layF h.number 32)
def secsN (n : Nat) : Nat := (n + 51) / 48
def manyF (n : Nat) (snap : Bool) : Int := (secsN n : Int) + (if snap then 32768 else 0)
def allF (b : List Int) (k : Nat) : List Int :=
 let a := (if k = 0 then layF b.length 32 else []) ++ (b.drop (48 * k - 4)).take (min (48 * k + 44) b.length - (48 * k - 4))
 a ++ List.replicate (48 - a.length) 0
def leadF (turn number : Int) (snap : Bool) (n k : Nat) : List Int := layF turn 32 ++ layF number 32 ++ layF k 16 ++ layF (manyF n snap) 16
def cutF (turn number : Int) (snap : Bool) (b : List Int) (k : Nat) : List Int :=
 leadF turn number snap b.length k ++ layF (sumF (leadF turn number snap b.length k ++ allF b k)) 32 ++ allF b k
def Dk.lays : Dk → List (Int × List Int) → Dk
 | D, [] => D.sync
 | D, (i, b) :: l => if D.callE i true = 0 then (D.write i b).lays l else D.write i b
def Dk.laysE : Dk → List (Int × List Int) → Int
 | D, [] => D.callE 0 true
 | D, (i, b) :: l => if D.callE i true = 0 then (D.write i b).laysE l else D.callE i true
def atF (area place : Int) : Int := 2 + place % (2 * area)
def ecells (x : Nat × List Int × Int) : List Value := .int .i64 x.1 :: vcells x.2
def Z163 : Array Value := ((List.replicate 1 (Value.int .i64 0)) ++ (List.replicate 64 (Value.int .u8 0)) ++ [Value.int .i64 0]).toArray
theorem Z163_size : Z163.size = 66 := by simp [Z163]
theorem zero163 (w : World) : (zeroValue 221).run Tryz.prog w = .ok (.agg Z163) w := by kernel_rfl
theorem run_build163 (i : Int) (cs : List Value) (w : World) (hc : cs.length = 65) :
  (Instr.build 221 #[(0, .int .i64 i), (1, .agg cs.toArray)]).run Tryz.prog w = .ok (.agg (Value.int .i64 i :: cs).toArray) w := by
 have hz := zero163 w
 have hne : Z163 ≠ #[] := fun e => by have := Z163_size; rw [e] at this; simp at this
 have hf : List.foldl (fun (cs : Array Value) (x : Value × Nat) => cs.setIfInBounds (1 + x.snd) x.fst) (Z163.setIfInBounds 0 (Value.int IntKind.i64 i)) cs.zipIdx = (Value.int .i64 i :: cs).toArray := by
  apply Array.toList_inj.1
  have h := splice_fold cs 1 0 (Z163.setIfInBounds 0 (Value.int IntKind.i64 i)) (by simp [Z163_size, hc])
  rw [h]
  have e1 : (Z163.setIfInBounds 0 (Value.int IntKind.i64 i)).toList.take (1 + 0) = [Value.int .i64 i] := by simp [Z163]
  have e2 : (Z163.setIfInBounds 0 (Value.int IntKind.i64 i)).toList.drop (1 + 0 + cs.length) = [] := by rw [List.drop_eq_nil_iff]; simp [Z163_size, hc]
  rw [e1, e2]; simp
 simp [Instr.build, hz, go_sem, hne, hc, Z163_size, hf]
theorem fold161 (cs : List Value) (Z : Array Value) (hc : cs.length = 66) (hz : Z.size = 66) : List.foldl (fun (cs : Array Value) (x : Value × Nat) => cs.setIfInBounds x.snd x.fst) Z cs.zipIdx = cs.toArray := by
 apply Array.toList_inj.1
 have h := splice_fold cs 0 0 Z (by simp [hz, hc])
 simp only [Nat.zero_add] at h
 rw [h]
 have e : Z.toList.drop 66 = [] := by rw [List.drop_eq_nil_iff]; simp [hz]
 simp [hc, e]
theorem run_buildSlice161 (cs : List Value) (w : World) (hc : cs.length = 66) :
  (Instr.buildSlice 219 1 #[(0, .agg cs.toArray)]).run Tryz.prog w = .ok (.slice (some ⟨w.heap.size, 0, none⟩) 1 1) (w.alloc (.cells cs.toArray 221)) := by
 simp [Instr.buildSlice, go_sem]
 rw [fold161 cs _ hc (by simp)]
 simp [hc]
theorem Tryz.info163p : (Tryz.prog.info? 221).map (fun i => (i.zero, i.size, i.bytes)) = some (some (.agg Z163), 66, 80) := by kernel_rfl
def Dk.pile (D : Dk) (k : Nat) : List (Nat × List Int × Int) := (List.range k).flatMap fun i => (D.vers i).tail.map fun v => (i, v)
theorem pile_succ (D : Dk) (k : Nat) : D.pile (k + 1) = D.pile k ++ (D.vers k).tail.map fun v => (k, v) := by
 simp [Dk.pile, List.range_succ]
end
section
open Go.RowKit Go.Deep
theorem ecells_length {x : Nat × List Int × Int} (h : x.2.1.length = 64) : (ecells x).length = 66 := by simp [ecells, vcells_length h]
theorem ecells_one (x : Nat × List Int × Int) : ∀ u ∈ ecells x, u.oneCell' = true := by
 intro u hu
 rcases List.mem_cons.1 hu with rfl | hu
 ·rfl
 ·exact vcells_one _ u hu
theorem ownsRow_any {w w' : World} {G : Nat → Prop} {B : Nat} {e : TypeId} {sz n : Nat} {v : Value} {xs : List Value} (h : w.ownsRow B e sz v n xs) (hu : Upd G w w') (hg : ∀ k, v.ownBlock = some k → ¬ G k) : w'.ownsRow B e sz v n xs := by
 obtain ⟨h1, h2⟩ := h
 refine ⟨h1, ?_⟩
 rcases h2 with h2 | ⟨gg, cap', cur, hv, hb, hh, r⟩
 ·exact .inl h2
 ·exact .inr ⟨gg, cap', cur, hv, hb, (hu.block gg (lt_of_heap hh) (hg gg (by rw [hv]; rfl))).trans hh, r⟩
structure RowAt (w wr : World) (v : Value) (L : List (Nat × List Int × Int)) : Prop where
 upd : Upd (fun _ => False) w wr
 cell : wr.heap[w.heap.size]? = some (.cells #[v] 219 (0, 0))
 own : wr.ownsRow w.heap.size 221 66 v L.length (L.flatMap ecells)
 ne : v.ownBlock ≠ some w.heap.size
theorem RowAt.start (w : World) : RowAt w (w.alloc (.cells #[.slice none 0 0] 219)) (.slice none 0 0) [] :=
 ⟨(Upd.refl _ w).alloc _, alloc_at rfl, World.ownsRow_nil _ _ _ _, by simp [Value.ownBlock]⟩
theorem RowAt.kept {w W W2 : World} {v : Value} {L : List (Nat × List Int × Int)} (h : RowAt w W v L) (hu : Upd (fun _ => False) W W2) : RowAt w W2 v L :=
 ⟨h.upd.trans hu, (hu.block _ (lt_of_heap h.cell) (fun e => e)).trans h.cell, ownsRow_any h.own hu (fun _ _ e => e), h.ne⟩
theorem RowAt.grow {w W w4 : World} {v : Value} {L : List (Nat × List Int × Int)} {x : Nat × List Int × Int} {gg cap' : Nat} {o : Obj} (h : RowAt w W v L)
  (hown : w4.ownsRow w.heap.size 221 66 (.slice (some ⟨gg, 0, none⟩) (L.length + 1) cap') (L.length + 1) (L.flatMap ecells ++ ecells x))
  (hg : (W.alloc o).grownBy w4 v.ownBlock) (hat : v.ownBlock = some gg ∨ gg = W.heap.size + 1) :
  RowAt w (w4.setCell ⟨w.heap.size, 0, none⟩ (.slice (some ⟨gg, 0, none⟩) (L.length + 1) cap')) (.slice (some ⟨gg, 0, none⟩) (L.length + 1) cap') (L ++ [x]) := by
 have hlt := h.own.lt
 have hz := h.upd.size
 have hb := lt_of_heap h.cell
 have hgn : gg ≠ w.heap.size := by
  rcases hat with e | e
  ·intro e2; rw [e2] at e; exact h.ne e
  ·omega
 have hc4 : w4.heap[w.heap.size]? = some (.cells #[v] 219 (0, 0)) := ((hg.block _ (by simp; omega) (fun e => h.ne e.symm)).trans (alloc_lt hb)).trans h.cell
 have hu1 : Upd (fun j => w.heap.size ≤ j) w w4 :=
  ((h.upd.mono (G := fun j => w.heap.size ≤ j) (fun _ _ e => e.elim)).alloc o).step (Upd.of_grown (F := fun j => w.heap.size ≤ j) hg (fun k hk => (hlt k hk).1)) (fun _ _ e => e)
 refine ⟨?_, ?_, ?_, ?_⟩
 ·exact (hu1.setCell (p := ⟨w.heap.size, 0, none⟩) (.inl (Nat.le_refl _)) _).mono (fun j hj e => by omega)
 ·have := blk_set (i := 0) (v := .slice (some ⟨gg, 0, none⟩) (L.length + 1) cap') hc4
  simpa using this
 ·have := ownsRow_any hown (upd_own w4 w.heap.size 0 (.slice (some ⟨gg, 0, none⟩) (L.length + 1) cap')) (fun k hk e => by simp [Value.ownBlock] at hk; omega)
  simpa using this
 ·simp [Value.ownBlock, hgn]
theorem filter_lt_succ_perm (n : Nat) : ∀ (l : List (Nat × List Int × Int)), ((l.filter (fun x => decide (x.1 < n))) ++ (l.filter (fun x => x.1 == n))).Perm (l.filter (fun x => decide (x.1 < n + 1)))
 | [] => by simp
 |x :: l => by
  have ih := filter_lt_succ_perm n l
  have e1 : ∀ p : Nat × List Int × Int → Bool, p x = true → (x :: l).filter p = x :: l.filter p := fun p h => List.filter_cons_of_pos h
  have e2 : ∀ p : Nat × List Int × Int → Bool, p x = false → (x :: l).filter p = l.filter p := fun p h => List.filter_cons_of_neg (by simp [h])
  rcases Nat.lt_trichotomy x.1 n with h | h | h
  ·rw [e1 (fun x => decide (x.1 < n)) (by simpa using h), e2 (fun x => x.1 == n) (by simp; omega), e1 (fun x => decide (x.1 < n + 1)) (by simp; omega)]
   exact ih.cons x
  ·rw [e2 (fun x => decide (x.1 < n)) (by simp; omega), e1 (fun x => x.1 == n) (by simpa using h), e1 (fun x => decide (x.1 < n + 1)) (by simp; omega)]
   exact List.perm_middle.trans (ih.cons x)
  ·rw [e2 (fun x => decide (x.1 < n)) (by simp; omega), e2 (fun x => x.1 == n) (by simp; omega), e2 (fun x => decide (x.1 < n + 1)) (by simp; omega)]
   exact ih
theorem tail_map (D : Dk) (k : Nat) : ((D.vers k).tail.map fun v => (k, v)) = D.row.filter (fun x => x.1 == k) := by
 simp only [Dk.vers, List.tail_cons, List.map_map]
 have : ∀ l : List (Nat × List Int × Int), (∀ x ∈ l, x.1 = k) → l.map ((fun v => (k, v)) ∘ (·.2)) = l := by
  intro l hl
  induction l with
  |nil => rfl
  |cons x l ih =>
   rw [List.map_cons, ih (fun y hy => hl y (by simp [hy]))]
   have := hl x (by simp)
   subst this; rfl
 exact this _ (fun x hx => by simpa using (List.mem_filter.1 hx).2)
theorem pile_perm (D : Dk) : ∀ n, (D.pile n).Perm (D.row.filter (fun x => decide (x.1 < n)))
 | 0 => by simp [Dk.pile]
 |n + 1 => by
  rw [pile_succ, tail_map]
  exact ((pile_perm D n).append_right _).trans (filter_lt_succ_perm n D.row)
theorem pile_le (D : Dk) (k : Nat) : (D.pile (k + 1)).length ≤ D.row.length := by
 rw [(pile_perm D (k + 1)).length_eq]; exact List.length_filter_le _ _
theorem row_run {p : Nat} {D : Dk} {F : Nat → Prop} {Q : Ending → World → Prop} (w : World) (h : Dsk w p D F) (hok : D.Ok 1099511627774)
  (hQ : ∀ v wr, RowAt w wr v (D.pile D.arr.length) → Calls Tryz.prog 139 #[v, .func (.func 140) #[] #[]] wr fun e w' => e = .returned (.tuple #[]) ∧ Q (.returned (.func (.func 141) #[] #[.pointer (some ⟨w.heap.size, 0, none⟩)])) w') :
  Calls Tryz.prog 76 #[.pointer (some ⟨p, 0, none⟩)] w Q := by
 obtain ⟨s, g, c, hD, hF⟩ := h
 have hm := hD.main
 have lp := lt_of_heap hm
 have c0 := (cells6_of hm).1
 have hn := hok.len
 have HD := Lib.hid hD; have HO := Lib.hid hok; have HN := Lib.hid hn; have HQ := Lib.hid hQ
 clear hD hok hn hQ hF hm
 go_enter Tryz.func76, Tryz.ntmps76
 go_wp2
 clear c0 lp
 go_loopg [13] D.arr.length (fun gk i wr => ∃ k : Nat, k ≤ D.arr.length ∧ gk = D.arr.length - k ∧ i = .int .i64 k ∧ ∃ v, RowAt w wr v (D.pile k))
 case atStart => exact ⟨0, Nat.zero_le _, rfl, rfl, _, RowAt.start w⟩
 case round =>
  obtain ⟨k, hk, rfl, rfl, v, hR⟩ := hrel
  have hDr := HD.out.kept (G := fun _ => False) hR.upd (fun _ _ e => e)
  obtain ⟨hd, t, hv⟩ : ∃ hd t, D.vers k = hd :: t := ⟨_, _, rfl⟩
  have cs : k < D.arr.length → wr.cell? ⟨s, k, none⟩ = some (.slice (some ⟨g k, 0, none⟩) (t.length + 1) (c k)) := fun h => by
   rw [cell_of_heap hDr.sec]
   simp [h, hv]
  have hr : k < D.arr.length → wr.ownsRow 0 124 65 (.slice (some ⟨g k, 0, none⟩) (t.length + 1) (c k)) (t.length + 1) ((hd :: t).flatMap vcells) := fun h => by
   have := hDr.rows k h
   rwa [hv] at this
  have c3 := cells1_of hR.cell
  have HR := Lib.hid hR
  have HV := Lib.hid hv
  have HW := Lib.hid hr
  clear hR hDr hv hr
  go_upto_region 5 with fail
  ·have hlt : k < D.arr.length := by assumption
   have hcap : t.length + 1 ≤ c k := by
    rcases (HW.out hlt).2 with ⟨e, _⟩ | ⟨_, _, _, e, _, _, e2, _⟩
    ·simp at e
    ·simp at e; omega
   iterate 4 go_step
   refine wpList_slice1 rfl rfl rfl hcap (fun off hoff => ?_)
   have HOF := Lib.hid hoff
   have htl : t.length ≤ 1099511627774 := by
    have h1 := vers_length_le D k
    rw [HV.out] at h1
    have := HO.out.rowlen
    simp at h1; omega
   have hpl : (D.pile k).length + t.length ≤ 1099511627774 := by
    have h1 := pile_le D k
    rw [pile_succ, HV.out] at h1
    have := HO.out.rowlen
    simp at h1; omega
   have HPL := Lib.hid hpl
   clear hoff cs hcap c3 hpl
   go_wp2
   obtain ⟨wo, rfl⟩ : ∃ wo : World, wo = wr := ⟨_, rfl⟩
   clear HW
   go_loopg [21] t.length (fun gi i wi => ∃ q : Nat, q ≤ t.length ∧ gi = t.length - q ∧ i = .int .i64 q ∧ ∃ v, RowAt w wi v (D.pile k ++ (t.take q).map fun v => (k, v)))
   case atStart => exact ⟨0, Nat.zero_le _, rfl, rfl, v, by simpa using HR.out⟩
   case round =>
    obtain ⟨q, hq, rfl, rfl, v2, hR2⟩ := hrel
    have HR2 := Lib.hid hR2
    clear hR2
    go_upto_region 7 with fail
    ·have hqt : q < t.length := by assumption
     obtain rfl := HOF.out (by omega)
     have hqi : (q : Int) < t.length := by omega
     have hvs : ∀ v ∈ hd :: t, okBlk v.1 := by rw [← HV.out]; exact vers_blk HO.out hlt
     obtain ⟨x, hx⟩ : ∃ x, t[q]? = some x := ⟨t[q], by simp [hqt]⟩
     have hxb : okBlk x.1 := hvs x (List.mem_cons_of_mem _ (List.mem_of_getElem? hx))
     have hxl := vcells_length hxb.1
     have hrW := ownsRow_upd (HV.out ▸ HD.out.rows k hlt) HR2.out.upd (fun e => e)
     have hi130 : (Tryz.prog.info? 124).map (·.size) = some (vcells x).length := by rw [Tryz.size124, hxl]
     have hrg : wr.rangeAt (g k) (65 + q * 65) (vcells x) := by
      have := rangeAt_row hrW (vcells_whole (hd :: t) (q + 1) x (by simpa using hx) (fun v hv => (hvs v hv).1))
      rwa [show (q + 1) * 65 = 65 + q * 65 by omega] at this
     have HX := Lib.hid hx; have HXB := Lib.hid hxb; have HXL := Lib.hid hxl; have HI := Lib.hid hi130; have HRG := Lib.hid hrg
     clear hx hvs hxb hxl hrW hi130 hrg
     iterate 4 go_step
     refine wpList_load_mid rfl 124 (.tmp 23) rfl (g k) (65 + q * 65) rfl (vcells x) _ HRG.out Tryz.underlying124 rfl HI.out ?_
     iterate 3 go_step
     have hblk : (wr.alloc (.cells Tryz.zeroCells124 124)).heap[wr.heap.size]? = some (.cells Tryz.zeroCells124 124 (0, 0)) := alloc_at rfl
     have hth : (wr.alloc (.cells Tryz.zeroCells124 124)).there wr.heap.size 0 (vcells x).toArray.size := by
      have := there_block hblk
      rwa [show Tryz.zeroCells124.size = (vcells x).toArray.size by rw [Tryz.zsize124]; simp [HXL.out]] at this
     refine wpList_store_mid rfl 124 (.tmp 7) (.tmp 24) rfl wr.heap.size 0 (vcells x).toArray rfl rfl hth (by rw [HI.out]; simp) (all_oneCell_toArray (vcells_one x)) ?_
     have hb2 := heap_setCells_whole (vs := vcells x) hblk (by rw [Tryz.zsize124, HXL.out])
     have hU2 : Upd (fun _ => False) wr ((wr.alloc (.cells Tryz.zeroCells124 124)).setCells wr.heap.size 0 (vcells x)) := by
      have := Upd.setCells (F := fun j => wr.heap.size ≤ j) (b := wr.heap.size) (Nat.le_refl _) (vcells x) 0 ((Upd.refl _ wr).alloc (.cells Tryz.zeroCells124 124))
      exact this.mono (fun j hj e => by omega)
     have HR3 := Lib.hid (HR2.out.kept hU2)
     clear hblk hth hU2
     obtain ⟨b2, hb2e⟩ : ∃ b2, b2 = wr.heap.size := ⟨_, rfl⟩
     simp only []
     generalize (wr.alloc (.cells Tryz.zeroCells124 124)).setCells wr.heap.size 0 (vcells x) = W2 at *
     rw [← hb2e] at hb2 ⊢
     have c3 := cells1_of HR3.out.cell
     have HB2 := Lib.hid hb2
     clear hb2 hb2e HR2
     go_upto_region 8 with fail
     iterate 7 go_step
     refine wpList_load_mid rfl 124 (.tmp 7) rfl b2 0 rfl (vcells x) _ (rangeAt_block HB2.out) Tryz.underlying124 rfl HI.out ?_
     refine wpList_exec rfl (run_exec_build (run_build163 k (vcells x) _ HXL.out) rfl (by simp [Act.eval, Act.put])) ?_
     refine wpList_exec rfl (run_exec_buildSlice (run_buildSlice161 (ecells (k, x)) _ (ecells_length (x := (k, x)) HXB.out.1)) rfl (by simp [Act.eval, Act.put, ecells])) ?_
     obtain ⟨i0, hi0, hz0, hz1, hz2⟩ := info_parts Tryz.info163p
     have hlen : (D.pile k ++ (t.take q).map fun v => (k, v)).length ≤ 1099511627773 := by
      have := HPL.out
      rw [List.length_append, List.length_map, List.length_take]
      omega
     refine wpList_append_lies _ rfl (.tmp 25) (.tmp 29) 219 rfl w.heap.size 221 i0 (.agg Z163) 66 80 Tryz.underlying219 hi0 hz0 hz1 hz2 (by simp [Value.cells, Z163_size]) (by omega) v2 _ _ rfl (HR3.out.own.alloc _) ⟨W2.heap.size, 0, none⟩ 1 1 (ecells (k, x)) rfl
      (by rw [ecells_length (x := (k, x)) HXB.out.1]) (World.news_of_block (cs := (ecells (k, x)).toArray) (t := 221) (fr := (0, 0)) (heap_alloc_new _ _)) (ecells_one _) (by omega) (by unfold maxLen; omega) (by omega) (by have := HR3.out.upd.size; simp; omega) (W2.heap.size + 1) (by simp) ?_
     intro gg cap' w4 hown hgrow hat hlt4
     have HR5 := Lib.hid (HR3.out.grow hown hgrow hat)
     have hb4 : w4.heap[w.heap.size]? = some (.cells #[v2] 219 (0, 0)) := by
      have hb := lt_of_heap HR3.out.cell
      exact ((hgrow.block _ (by simp; omega) (fun e => HR3.out.ne e.symm)).trans (alloc_lt hb)).trans HR3.out.cell
     have c4 := cells1_of hb4
     have f4 : w4.frozen? ⟨w.heap.size, 0, none⟩ = false := frozen_of_heap hb4
     clear c3 hown hgrow hat hi0 hz0 hz1 hz2 hb4
     go_wp2
     go_roundg (t.length - (q + 1))
     case measure => omega
     case rel =>
      refine ⟨q + 1, by omega, rfl, by go_num, .slice (some ⟨gg, 0, none⟩) ((D.pile k).length + q + 1) cap', ?_⟩
      have h5 := HR5.out
      have e : (D.pile k ++ (t.take q).map fun v => (k, v)) ++ [(k, x)] = D.pile k ++ (t.take (q + 1)).map fun v => (k, v) := by
       rw [List.take_add_one, HX.out]; simp
      have e2 : (D.pile k ++ (t.take q).map fun v => (k, v)).length = (D.pile k).length + q := by
       rw [List.length_append, List.length_map, List.length_take]; omega
      rw [e, e2] at h5
      exact h5
    ·have hqe : q = t.length := by omega
     subst hqe
     go_roundg (D.arr.length - (k + 1))
     case measure => omega
     case rel =>
      have := HN.out.2
      refine ⟨k + 1, by omega, rfl, congrArg _ ((IntWalk.wrap64_in _ (by omega)).trans (by omega)), v2, ?_⟩
      have h1 := HR2.out
      rw [List.take_length] at h1
      rw [pile_succ, HV.out]
      exact h1
  ·have hkn : k = D.arr.length := by omega
   subst hkn
   refine (HQ.out v wr HR.out).mono ?_
   rintro e w' ⟨rfl, hq⟩
   have HQ2 := Lib.hid hq
   clear hq
   simp only []
   go_step
   go_wp2
   exact HQ2.out
end
section
def Dk.keepsAt (D : Dk) (keep : List Bool) (n : Int) : Bool := D.row.zipIdx.any fun x => x.1.2.2 == n && keep.getD x.2 false
def Dk.crash (D : Dk) (keep : List Bool) : Dk := { D.arrive (fun n => !D.keepsAt keep n) with dead := false, arm := -1, fail := -1 }
theorem Dk.Ok.crash {D : Dk} {K : Nat} (h : D.Ok K) (keep : List Bool) : (D.crash keep).Ok K := by
 have h1 := h.arrive (fun n => !D.keepsAt keep n)
 exact ⟨h1.len, h1.blks, h1.rblks, h1.sorted, h1.sent, h1.ops, ⟨by show (-1 : Int) ≤ -1; omega, by show (-1 : Int) ≤ 9223372036854775807; omega⟩, ⟨by show (-1 : Int) ≤ -1; omega, by show (-1 : Int) ≤ 9223372036854775807; omega⟩, h1.rowlen⟩
end
section
open Go.RowKit
def keptOf (M : DataW Empty) (n : Int) : Bool := match M.atKey (.int .i64 n) (.lit (.bool false)) with
 |.lit (.bool x) => x
 | _ => false
theorem plainElem_bool_inv {P : Program} {e : TypeId} (he : P.underlying e = some .bool) {v : Value} {z : DataW Empty × List MemPlace} (h : plainElem P e v = some z) : ∃ x, v = .bool x ∧ z = (.lit (.bool x), []) := by
 unfold plainElem at h
 rw [he] at h
 cases v <;> simp at h
 case bool x => exact ⟨x, rfl, h.symm⟩
theorem look_bool {w : World} {mb m : Nat} {M : DataW Empty} {n : Int} (hown : w.ownsMap Tryz.prog 3 (plainElem Tryz.prog 4) mb m M) (hn : -9223372036854775808 ≤ n ∧ n ≤ 9223372036854775807) :
  (Instr.lookup 138 (.map (some mb)) (.int .i64 n) false).run Tryz.prog w = .ok (.bool (keptOf M n)) w := by
 have hwf : (Lit.int .i64 n).wf = true := by simp [Lit.wf, IntKind.min, IntKind.max, IntKind.signed, IntKind.bits]; omega
 obtain ⟨v, ps, hrun, hv⟩ := hown.lookup (Maps.int_keyed Tryz.underlying3) Tryz.underlying138 (z := .bool false) (by kernel_rfl) (plainElem_bool Tryz.underlying4 false) (key := .int .i64 n) (Maps.keyOf_int_mk Tryz.underlying3 hwf)
 obtain ⟨x, rfl, hx⟩ := plainElem_bool_inv Tryz.underlying4 hv
 rw [hrun]
 have : keptOf M n = x := by
  unfold keptOf
  rw [(Prod.mk.inj hx).1]
 rw [this]
end
section
end
section
open Go.RowKit Go.Deep
theorem clone_run {g m cap : Nat} {xs : List Value} (w : World) (hr : w.ownsRow 0 124 65 (.slice (some ⟨g, 0, none⟩) m cap) m xs) (hm : 0 < m) (hm2 : m ≤ 1099511627776) (h1 : ∀ u ∈ xs, u.oneCell' = true) :
  Calls Tryz.prog 103 #[.slice (some ⟨g, 0, none⟩) m cap] w fun e w' => ∃ g' cap', e = .returned (.slice (some ⟨g', 0, none⟩) m cap') ∧ w.heap.size ≤ g' ∧ w'.ownsRow 0 124 65 (.slice (some ⟨g', 0, none⟩) m cap') m xs ∧ Upd (fun _ => False) w w' := by
 have HR := Lib.hid hr
 have H1 := Lib.hid h1
 clear hr h1
 have q22 : (binOp .eql 125 (.slice (some ⟨g, 0, none⟩) m cap) (.slice none 0 0)).run Tryz.prog w = .ok (.bool false) w := Lib.run_eql_slice_nil w _ _ _ _ _ _ _ Tryz.underlying125
 go_enter Tryz.func103, Tryz.ntmps103
 go_upto_region 3 with fail
 clear q22
 iterate 7 go_step
 obtain ⟨i0, hi0, hz0, hz1, hz2⟩ := info_parts Tryz.info130p
 have hown0 : (w.alloc (.cells #[] 124)).ownsRow w.heap.size 124 65 (.slice (some ⟨w.heap.size, 0, none⟩) 0 0) 0 [] :=
  ⟨by simp, .inr ⟨w.heap.size, 0, #[], rfl, Nat.le_refl _, alloc_at rfl, Nat.le_refl _, Nat.zero_le _, rfl, rfl⟩⟩
 have hxl : xs.length = m * 65 := HR.out.1
 refine wpList_append_lies _ rfl (.tmp 5) (.tmp 6) 125 rfl w.heap.size 124 i0 (.agg Z130) 65 72 Tryz.underlying125 hi0 hz0 hz1 hz2 Z130_cells (by omega) _ 0 [] rfl hown0 ⟨g, 0, none⟩ m cap xs rfl hxl
  ((HR.out.alloc _).cells rfl) H1.out (by omega) (by unfold maxLen; omega) (by omega) (by simp) (w.heap.size + 1) (by simp) ?_
 intro gg cap' w1 hown hgrow hat hlt
 have HO := Lib.hid hown
 have HG := Lib.hid hgrow
 have HA := Lib.hid hat
 clear hown hgrow hat hi0 hz0 hz1 hz2 hown0 hxl
 simp only [Nat.zero_add]
 go_wp2
 go_ret
 refine ⟨gg, cap', rfl, ?_, ?_, ?_⟩
 ·rcases HA.out with e | e
  ·exact Nat.le_of_eq (Option.some.inj e)
  ·omega
 ·have h1 := HO.out
  rw [Nat.zero_add, List.nil_append] at h1
  obtain ⟨a, b⟩ := h1
  refine ⟨a, ?_⟩
  rcases b with ⟨b, _⟩ | ⟨g2, c2, cur, e, _, r⟩
  ·simp at b
  ·exact .inr ⟨g2, c2, cur, e, Nat.zero_le _, r⟩
 ·have h2 : Upd (fun j => w.heap.size ≤ j) w w1 := (((Upd.refl _ w).alloc _).step (Upd.of_grown (F := fun j => w.heap.size ≤ j) HG.out (fun k hk => Nat.le_of_eq (Option.some.inj hk))) (fun _ _ e => e))
  exact h2.mono (fun j hj e => by omega)
structure CopyAt (w wr : World) (D : Dk) (k : Nat) (g c : Nat → Nat) : Prop where
 upd : Upd (fun _ => False) w wr
 size : w.heap.size + 2 ≤ wr.heap.size
 main : wr.heap[w.heap.size]? = some (mainObj (w.heap.size + 1) D.arr.length D.sent D.ops D.arm D.fail D.dead)
 sec : wr.heap[w.heap.size + 1]? = some (.cells ((List.range D.arr.length).map fun i => if i < k then Value.slice (some ⟨g i, 0, none⟩) (D.vers i).length (c i) else .slice none 0 0).toArray 125 (0, 0))
 rows : ∀ i, i < k → wr.ownsRow 0 124 65 (.slice (some ⟨g i, 0, none⟩) (D.vers i).length (c i)) (D.vers i).length ((D.vers i).flatMap vcells)
 news : ∀ i, i < k → w.heap.size + 2 ≤ g i ∧ g i < wr.heap.size
 inj : ∀ i j, i < k → j < k → g i = g j → i = j
theorem CopyAt.step {w wr W : World} {D : Dk} {k : Nat} {g c : Nat → Nat} {g' c' : Nat} (h : CopyAt w wr D k g c) (hk : k < D.arr.length) (hu : Upd (fun _ => False) wr W) (hg : wr.heap.size ≤ g')
  (hr : W.ownsRow 0 124 65 (.slice (some ⟨g', 0, none⟩) (D.vers k).length c') (D.vers k).length ((D.vers k).flatMap vcells)) :
  CopyAt w (W.setCell ⟨w.heap.size + 1, k, none⟩ (.slice (some ⟨g', 0, none⟩) (D.vers k).length c')) D (k + 1) (fun j => if j = k then g' else g j) (fun j => if j = k then c' else c j) := by
 have hz := h.size
 have hz2 := hu.size
 have hlt : g' < W.heap.size := by
  rcases hr.2 with ⟨e, _⟩ | ⟨gg, cap, cur, hv, hb, hh, r⟩
  ·simp at e
  ·simp at hv; rw [hv.1]; exact lt_of_heap hh
 have hss : (W.setCell ⟨w.heap.size + 1, k, none⟩ (.slice (some ⟨g', 0, none⟩) (D.vers k).length c')).heap.size = W.heap.size := by simp [World.setCell]
 refine ⟨(h.upd.trans hu).setCell (p := ⟨w.heap.size + 1, k, none⟩) (.inr (Nat.le_succ _)) _, by rw [hss]; omega, ?_, ?_, ?_, ?_, ?_⟩
 ·rw [set_ne (by simp)]; exact (hu.block _ (lt_of_heap h.main) (fun e => e)).trans h.main
 ·rw [blk_set ((hu.block _ (lt_of_heap h.sec) (fun e => e)).trans h.sec)]
  congr 2
  apply Array.toList_inj.1
  apply List.ext_getElem
  ·simp
  ·intro j h1 h2
   simp only [Array.toList_setIfInBounds, List.getElem_set, List.getElem_map, List.getElem_range]
   by_cases e : k = j
   ·subst e; simp
   ·rw [if_neg e]
    by_cases hj : j < k
    ·have e2 : ¬ j = k := by omega
     rw [if_pos hj, if_pos (by omega)]
     simp [e2]
    ·rw [if_neg hj, if_neg (by omega)]
 ·intro i hi
  by_cases hik : i = k
  ·subst hik
   simp only [if_true]
   exact ownsRow_upd hr (upd_own W (w.heap.size + 1) i _) (fun e => by omega)
  ·simp only [hik, if_false]
   have hn := h.news i (by omega)
   exact ownsRow_upd (ownsRow_upd (h.rows i (by omega)) hu (fun e => e)) (upd_own W (w.heap.size + 1) k _) (fun e => by omega)
 ·intro i hi
  rw [hss]
  by_cases hik : i = k
  ·simp only [hik, if_true]; omega
  ·simp only [hik, if_false]
   have hn := h.news i (by omega)
   omega
 ·intro i j hi hj
  by_cases hik : i = k <;> by_cases hjk : j = k
  ·intro _; omega
  ·simp only [hik, hjk, if_true, if_false]
   have hn := h.news j (by omega)
   intro e; omega
  ·simp only [hik, hjk, if_true, if_false]
   have hn := h.news i (by omega)
   intro e; omega
  ·simp only [hik, hjk, if_false]; exact h.inj i j (by omega) (by omega)
theorem CopyAt.dsk {w w' : World} {D : Dk} {g c : Nat → Nat} (h : CopyAt w w' D D.arr.length g c) : ∃ F, Dsk w' w.heap.size D F ∧ (∀ k, F k → w.heap.size ≤ k) ∧ Upd (fun _ => False) w w' := by
 refine ⟨_, ⟨w.heap.size + 1, g, c, ⟨h.main, ?_, h.rows, by omega, ?_, ?_, h.inj⟩, fun _ => Iff.rfl⟩, ?_, h.upd⟩
 ·rw [h.sec]
  congr 3
  refine List.map_congr_left (fun i hi => ?_)
  rw [if_pos (by simpa using hi)]
 ·intro i hi; have := h.news i hi; omega
 ·intro i hi; have := h.news i hi; omega
 ·rintro k (rfl | rfl | ⟨i, hi, rfl⟩)
  ·exact Nat.le_refl _
  ·exact Nat.le_succ _
  ·have := h.news i hi; omega
theorem CopyAt.start (w : World) (D : Dk) : CopyAt w
  (((w.alloc (mainObj (w.heap.size + 1) D.arr.length D.sent D.ops D.arm D.fail D.dead)).alloc (.cells (madeCells #[.slice none 0 0] D.arr.length) 125))) D 0 (fun _ => 0) (fun _ => 0) := by
 refine ⟨((Upd.refl _ w).alloc _).alloc _, by simp, (alloc_lt (by simp)).trans (alloc_at rfl), ?_, fun i hi => by omega, fun i hi => by omega, fun i j hi => by omega⟩
 rw [alloc_at (by simp)]
 congr 2
 apply Array.toList_inj.1
 rw [toList_madeCells_one]
 simp [List.map_const']
theorem copy_run {p : Nat} {D : Dk} {F : Nat → Prop} (w : World) (h : Dsk w p D F) (hok : D.Ok 1099511627774) :
  Calls Tryz.prog 38 #[.pointer (some ⟨p, 0, none⟩)] w fun e w' => e = .returned (.pointer (some ⟨w.heap.size, 0, none⟩)) ∧ ∃ g c, CopyAt w w' D D.arr.length g c := by
 obtain ⟨s, g0, c0, hD, hF⟩ := h
 have hm := hD.main
 obtain ⟨m0, m1, m2, m3, m4, m5⟩ := cells6_of hm
 have lp := lt_of_heap hm
 have hn := hok.len
 have hmk := run_make_row' (P := Tryz.prog) 120 125 (.slice none 0 0) 24 Tryz.underlying120 Tryz.info125 rfl .i64 .i64 D.arr.length (by omega) (by omega)
 have HD := Lib.hid hD; have HO := Lib.hid hok; have HN := Lib.hid hn
 clear hD hok hn hF hm
 go_enter Tryz.func38, Tryz.ntmps38
 go_upto_region 5 with fail
 clear hmk
 go_wp2
 clear m0 m1 m2 m3 m4 m5 lp
 go_loopg [23] D.arr.length (fun gk i wr => ∃ k : Nat, k ≤ D.arr.length ∧ gk = D.arr.length - k ∧ i = .int .i64 k ∧ ∃ g c, CopyAt w wr D k g c)
 case atStart => exact ⟨0, Nat.zero_le _, rfl, rfl, _, _, CopyAt.start w D⟩
 case round =>
  obtain ⟨k, hk, rfl, rfl, g, c, hC⟩ := hrel
  have hDr := HD.out.kept (G := fun _ => False) hC.upd (fun _ _ e => e)
  have hcs : k < D.arr.length → wr.cell? ⟨s, k, none⟩ = some (.slice (some ⟨g0 k, 0, none⟩) (D.vers k).length (c0 k)) := fun h => by
   rw [cell_of_heap hDr.sec]; simp [h]
  have HC := Lib.hid hC; have HDR := Lib.hid hDr
  clear hC hDr
  go_upto_region 8 with fail
  ·have hlt : k < D.arr.length := by assumption
   have hl1 := vers_length_le D k
   have hl2 := HO.out.rowlen
   have hcl := clone_run wr.drew (HDR.out.rows k hlt) (List.length_pos_iff.2 (vers_ne D k)) (by omega) (by
    intro u hu
    obtain ⟨v, _, hv⟩ := List.mem_flatMap.1 hu
    exact vcells_one v u hv)
   have HCL := Lib.hid hcl
   clear hcl hcs hl1 hl2
   have hA : wr.drew.cell? ⟨w.heap.size, 0, none⟩ = some (.slice (some ⟨w.heap.size + 1, 0, none⟩) D.arr.length D.arr.length) := (cells6_of HC.out.main).1
   refine wp_region_G 5 (fun W' => W'.cell? ⟨w.heap.size, 0, none⟩ = some (.slice (some ⟨w.heap.size + 1, 0, none⟩) D.arr.length D.arr.length)) [false, false, false, false, false, false, false] rfl (by kernel_rfl) ?_
   refine wpG_take (i := 0) (v := .pointer (some ⟨w.heap.size, 0, none⟩)) rfl (by kernel_rfl) (fun _ _ _ h => h) hA (.inl ⟨rfl, fun w5 q1 => ?_⟩) ?_
   ·go_simp
   simp only [Act.put, List.setIfInBounds_toArray, List.set]
   refine wpG_take (i := 1) (v := .slice (some ⟨w.heap.size + 1, 0, none⟩) D.arr.length D.arr.length) rfl (by kernel_rfl) (fun _ _ _ h => h) hA (.inl ⟨rfl, fun w5 q1 => ?_⟩) ?_
   ·go_simp
   simp only [Act.put, List.setIfInBounds_toArray, List.set]
   refine wpG_take (i := 2) (v := .int .i64 (k : Int)) rfl (by kernel_rfl) (fun _ _ _ h => h) hA (.inl ⟨rfl, fun w5 q1 => ?_⟩) ?_
   ·go_simp
   simp only [Act.put, List.setIfInBounds_toArray, List.set]
   refine wpG_take (i := 3) (v := .slice (some ⟨g0 k, 0, none⟩) (D.vers k).length (c0 k)) rfl (by kernel_rfl) (fun _ _ _ h => h) hA (.inl ⟨rfl, fun w5 q1 => ?_⟩) ?_
   ·go_simp
   simp only [Act.put, List.setIfInBounds_toArray, List.set]
   refine wpG_do (i := 4) rfl (by kernel_rfl) rfl (fun K hK => ?_)
   have HK := Lib.hid hK
   clear hK
   go_step
   refine HCL.out.mono ?_
   rintro e w' ⟨g', cap', rfl, h1, h2, h3⟩
   have hu : Upd (fun _ => False) wr w' := h3.undrew
   have hA2 : w'.cell? ⟨w.heap.size, 0, none⟩ = some (.slice (some ⟨w.heap.size + 1, 0, none⟩) D.arr.length D.arr.length) := (cells6_of ((hu.block _ (lt_of_heap HC.out.main) (fun e => e)).trans HC.out.main)).1
   have hs2 := (hu.block _ (lt_of_heap HC.out.sec) (fun e => e)).trans HC.out.sec
   have cs2 : w'.cell? ⟨w.heap.size + 1, k, none⟩ = some (.slice none 0 0) := by rw [cell_of_heap hs2]; simp [hlt]
   have fs2 : w'.frozen? ⟨w.heap.size + 1, k, none⟩ = false := frozen_of_heap hs2
   have HNX := Lib.hid (HC.out.step hlt hu h1 h2)
   simp only []
   refine HK.out _ _ hA2 ?_
   clear HK h2 h3 hu hs2 hA2 hA HCL
   simp only [List.setIfInBounds_toArray, List.set]
   refine wpG_tail_lit (k := 5) rfl rfl (by kernel_rfl) ?_
   simp only [List.drop]
   go_wp2
   go_roundg (D.arr.length - (k + 1))
   case measure => omega
   case rel =>
    have := HN.out.2
    exact ⟨k + 1, by omega, rfl, congrArg _ ((IntWalk.wrap64_in _ (by omega)).trans (by omega)), _, _, HNX.out⟩
  ·have hkn : k = D.arr.length := by omega
   subst hkn
   go_ret
   exact ⟨rfl, g, c, HC.out⟩
end
section
open Go.RowKit
theorem lost_run {kb mb m : Nat} {M : DataW Empty} (v : List Int × Int) (w : World) (hv : okBlk v.1) (hn : 0 ≤ v.2 ∧ v.2 ≤ 1099511627774) (hb : w.heap[kb]? = some (.cells #[.map (some mb)] 138 (0, 0))) (hown : w.ownsMap Tryz.prog 3 (plainElem Tryz.prog 4) mb m M) :
  Calls Tryz.prog 78 (#[.agg (vcells v).toArray] ++ #[.pointer (some ⟨kb, 0, none⟩)]) w fun e w' => e = .returned (.bool (!keptOf M v.2)) ∧ Upd (fun _ => False) w w' := by
 have hl := look_bool (hown.alloc (.cells (vcells v).toArray 124)) (n := v.2) (by omega)
 have hc : (w.alloc (.cells (vcells v).toArray 124)).cell? ⟨w.heap.size, 64, none⟩ = some (.int .i64 v.2) := by
  rw [cell_of_heap (alloc_at rfl)]; simp [vcells, hv.1]
 have hk : (w.alloc (.cells (vcells v).toArray 124)).cell? ⟨kb, 0, none⟩ = some (.map (some mb)) := cells1_of ((alloc_lt (lt_of_heap hb)).trans hb)
 clear hb hown hv hn
 show Calls Tryz.prog 78 #[.agg (vcells v).toArray, .pointer (some ⟨kb, 0, none⟩)] w _
 generalize keptOf M v.2 = kk at *
 generalize v.2 = nn at *
 generalize vcells v = cs at *
 go_enter Tryz.func78, Tryz.ntmps78
 go_wp2
 go_ret
 exact ⟨rfl, (Upd.refl _ w).alloc _⟩
end
end Go.Proofs.YtbimkhdiplnbfaaGreat
