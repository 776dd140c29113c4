/- The disk as a value, and how it lies in memory. -/
import Derived.Test.YtbimkhdiplnbfaaGreatProg
import Derived.WalkKit
import Derived.WalkSpells
import Derived.WalkLawsBesides
import Derived.Deep.QuietTactic
import Derived.BigQuiet
import Derived.Handy
import Derived.StillTailTactics
import Derived.Lib.Hide
import Derived.Deep.RegionHeld3
set_option linter.unusedVariables false
set_option linter.unusedSimpArgs false
namespace Go.Proofs.YtbimkhdiplnbfaaGreat
set_option maxRecDepth 1000000
set_option maxHeartbeats 16000000
section
open Go.RowKit
theorem ret_int {k : IntKind} {a b : Int} (h : a = b) : Ending.returned (.int k a) = .returned (.int k b) := by rw [h]
theorem cell_of_heap {w : World} {b n : Nat} {cs : Array Value} {t : TypeId} (h : w.heap[b]? = some (.cells cs t (0, 0))) : w.cell? ⟨b, n, none⟩ = cs[n]? := by
 simp [World.cell?, h]
theorem frozen_of_heap {w : World} {b n : Nat} {cs : Array Value} {t : TypeId} (h : w.heap[b]? = some (.cells cs t (0, 0))) : w.frozen? ⟨b, n, none⟩ = false := by
 simp [World.frozen?, h]
theorem lt_of_heap {w : World} {b : Nat} {o : Obj} (h : w.heap[b]? = some o) : b < w.heap.size := by
 rcases Nat.lt_or_ge b w.heap.size with h' | h'
 ·exact h'
 ·simp [Array.getElem?_eq_none h'] at h
theorem alloc_at {w : World} {o : Obj} {k : Nat} (h : k = w.heap.size) : (w.alloc o).heap[k]? = some o := by
 subst h; show (w.heap.push o)[w.heap.size]? = _; simp
theorem alloc_lt {w : World} {o : Obj} {k : Nat} (h : k < w.heap.size) : (w.alloc o).heap[k]? = w.heap[k]? := Below.heap_alloc _ _ _ h
theorem set_ne {w : World} {a : Addr} {u : Value} {k : Nat} (h : k ≠ a.block) : (w.setCell a u).heap[k]? = w.heap[k]? := Below.heap_setCell _ _ _ _ h
theorem blk_set {w : World} {b i : Nat} {cs : Array Value} {v : Value} {t : TypeId} (h : w.heap[b]? = some (.cells cs t (0, 0))) :
  (w.setCell ⟨b, i, none⟩ v).heap[b]? = some (.cells (cs.setIfInBounds i v) t (0, 0)) := by
 simp [World.setCell, Array.getElem?_modify, h]
theorem cells1_of {w : World} {b : Nat} {x : Value} {t : TypeId} (h : w.heap[b]? = some (.cells #[x] t (0, 0))) : w.cell? ⟨b, 0, none⟩ = some x := by simp [World.cell?, h]
theorem cells6_of {w : World} {b : Nat} {x0 x1 x2 x3 x4 x5 : Value} {t : TypeId} (h : w.heap[b]? = some (.cells #[x0, x1, x2, x3, x4, x5] t (0, 0))) :
  w.cell? ⟨b, 0, none⟩ = some x0 ∧ w.cell? ⟨b, 1, none⟩ = some x1 ∧ w.cell? ⟨b, 2, none⟩ = some x2 ∧ w.cell? ⟨b, 3, none⟩ = some x3 ∧ w.cell? ⟨b, 4, none⟩ = some x4 ∧ w.cell? ⟨b, 5, none⟩ = some x5 := by simp [World.cell?, h]
structure Upd (F : Nat → Prop) (w w' : World) : Prop where
 os : w'.os = w.os
 tape : w'.tape = w.tape
 output : w'.output = w.output
 size : w.heap.size ≤ w'.heap.size
 block : ∀ k, k < w.heap.size → ¬ F k → w'.heap[k]? = w.heap[k]?
theorem Upd.refl (F : Nat → Prop) (w : World) : Upd F w w := ⟨rfl, rfl, rfl, Nat.le_refl _, fun _ _ _ => rfl⟩
theorem Upd.trans {F : Nat → Prop} {a b c : World} (h : Upd F a b) (k : Upd F b c) : Upd F a c :=
 ⟨k.os.trans h.os, k.tape.trans h.tape, k.output.trans h.output, Nat.le_trans h.size k.size, fun i hi hf => (k.block i (Nat.lt_of_lt_of_le hi h.size) hf).trans (h.block i hi hf)⟩
theorem Upd.mono {F G : Nat → Prop} {w w' : World} (h : Upd F w w') (hg : ∀ k, k < w.heap.size → F k → G k) : Upd G w w' := ⟨h.os, h.tape, h.output, h.size, fun k hk hn => h.block k hk (fun hf => hn (hg k hk hf))⟩
theorem Upd.drew {F : Nat → Prop} {a w : World} (h : Upd F a w) : Upd F a w.drew := ⟨h.os, h.tape, h.output, h.size, h.block⟩
theorem Upd.undrew {F : Nat → Prop} {a w : World} (h : Upd F a.drew w) : Upd F a w := ⟨h.os, h.tape, h.output, h.size, h.block⟩
theorem Upd.alloc {F : Nat → Prop} {a w : World} (h : Upd F a w) (o : Obj) : Upd F a (w.alloc o) :=
 ⟨h.os, h.tape, h.output, Nat.le_trans h.size (by simp), fun k hk hf => (alloc_lt (Nat.lt_of_lt_of_le hk h.size)).trans (h.block k hk hf)⟩
theorem Upd.setCell {F : Nat → Prop} {a w : World} (h : Upd F a w) {p : Addr} (hp : F p.block ∨ a.heap.size ≤ p.block) (u : Value) : Upd F a (w.setCell p u) :=
 ⟨h.os, h.tape, h.output, Nat.le_trans h.size (by simp [World.setCell]), fun k hk hf => by
  rw [set_ne]
  ·exact h.block k hk hf
  ·rintro rfl; rcases hp with hp | hp
   ·exact hf hp
   ·omega⟩
theorem Upd.of_grown {F : Nat → Prop} {w w' : World} {row : Option Nat} (h : w.grownBy w' row) (hr : ∀ k, row = some k → F k) : Upd F w w' :=
 ⟨h.os, h.tape, h.output, h.size, fun k hk hf => h.block k hk (fun e => hf (hr k e.symm))⟩
theorem Upd.step {F G : Nat → Prop} {w w1 w2 : World} (h : Upd F w w1) (k : Upd G w1 w2) (hg : ∀ k, k < w.heap.size → G k → F k) : Upd F w w2 :=
 ⟨k.os.trans h.os, k.tape.trans h.tape, k.output.trans h.output, Nat.le_trans h.size k.size, fun i hi hf =>
  (k.block i (Nat.lt_of_lt_of_le hi h.size) (fun hx => hf (hg i hi hx))).trans (h.block i hi hf)⟩
/-! ### The disk as a value -/
structure Dk where
 arr : List (List Int)
 row : List (Nat × List Int × Int)
 sent : Int
 ops : Int
 arm : Int
 fail : Int
 dead : Bool
def Dk.vers (D : Dk) (i : Nat) : List (List Int × Int) := (D.arr.getD i [], 0) :: (D.row.filter (fun x => x.1 == i)).map (·.2)
def vcells (v : List Int × Int) : List Value := v.1.map (Value.int .u8) ++ [.int .i64 v.2]
def zblk : List Int := List.replicate 64 0
def okBlk (b : List Int) : Prop := b.length = 64 ∧ ∀ x ∈ b, 0 ≤ x ∧ x ≤ 255
structure Dk.Ok (D : Dk) (K : Nat) : Prop where
 len : 1 ≤ D.arr.length ∧ D.arr.length ≤ 2048
 blks : ∀ b ∈ D.arr, okBlk b
 rblks : ∀ x ∈ D.row, okBlk x.2.1 ∧ x.1 < D.arr.length ∧ 1 ≤ x.2.2 ∧ x.2.2 ≤ D.sent
 sorted : D.row.Pairwise (fun x y => x.2.2 < y.2.2)
 sent : 0 ≤ D.sent ∧ D.sent ≤ K
 ops : 0 ≤ D.ops ∧ D.ops ≤ K
 arm : -1 ≤ D.arm ∧ D.arm ≤ 9223372036854775807
 fail : -1 ≤ D.fail ∧ D.fail ≤ 9223372036854775807
 rowlen : D.row.length ≤ K
structure DiskAt (w : World) (p : Nat) (D : Dk) (s : Nat) (g c : Nat → Nat) : Prop where
 main : w.heap[p]? = some (.cells #[.slice (some ⟨s, 0, none⟩) D.arr.length D.arr.length, .int .i64 D.sent, .int .i64 D.ops, .int .i64 D.arm, .int .i64 D.fail, .bool D.dead] 122 (0, 0))
 sec : w.heap[s]? = some (.cells ((List.range D.arr.length).map fun i => Value.slice (some ⟨g i, 0, none⟩) (D.vers i).length (c i)).toArray 125 (0, 0))
 rows : ∀ i, i < D.arr.length → w.ownsRow 0 124 65 (.slice (some ⟨g i, 0, none⟩) (D.vers i).length (c i)) (D.vers i).length ((D.vers i).flatMap vcells)
 ps : p ≠ s
 gp : ∀ i, i < D.arr.length → g i ≠ p
 gs : ∀ i, i < D.arr.length → g i ≠ s
 gg : ∀ i j, i < D.arr.length → j < D.arr.length → g i = g j → i = j
def Fp (p s : Nat) (g : Nat → Nat) (n : Nat) (k : Nat) : Prop := k = p ∨ k = s ∨ ∃ i, i < n ∧ k = g i
def Dsk (w : World) (p : Nat) (D : Dk) (F : Nat → Prop) : Prop := ∃ s g c, DiskAt w p D s g c ∧ ∀ k, F k ↔ Fp p s g D.arr.length k
theorem DiskAt.kept {w w' : World} {p s : Nat} {D : Dk} {g c : Nat → Nat} {G : Nat → Prop} (h : DiskAt w p D s g c) (hu : Upd G w w') (hd : ∀ k, Fp p s g D.arr.length k → ¬ G k) : DiskAt w' p D s g c where
 main := (hu.block p (lt_of_heap h.main) (hd p (.inl rfl))).trans h.main
 sec := (hu.block s (lt_of_heap h.sec) (hd s (.inr (.inl rfl)))).trans h.sec
 rows i hi := by
  obtain ⟨h1, h2⟩ := h.rows i hi
  refine ⟨h1, ?_⟩
  rcases h2 with ⟨h2, _⟩ | ⟨gg, cap, cur, hv, hb, hh, r⟩
  ·simp at h2
  ·refine .inr ⟨gg, cap, cur, hv, hb, ?_, r⟩
   simp at hv
   exact (hu.block gg (lt_of_heap hh) (hd gg (.inr (.inr ⟨i, hi, hv.1.symm⟩)))).trans hh
 ps := h.ps
 gp := h.gp
 gs := h.gs
 gg := h.gg
theorem Dsk.kept {w w' : World} {p : Nat} {D : Dk} {F G : Nat → Prop} (h : Dsk w p D F) (hu : Upd G w w') (hd : ∀ k, F k → ¬ G k) : Dsk w' p D F := by
 obtain ⟨s, g, c, h1, h2⟩ := h
 exact ⟨s, g, c, h1.kept hu (fun k hk => hd k ((h2 k).2 hk)), h2⟩
theorem Dsk.lt {w : World} {p : Nat} {D : Dk} {F : Nat → Prop} (h : Dsk w p D F) : ∀ k, F k → k < w.heap.size := by
 obtain ⟨s, g, c, h1, h2⟩ := h
 intro k hk
 rcases (h2 k).1 hk with rfl | rfl | ⟨i, hi, rfl⟩
 ·exact lt_of_heap h1.main
 ·exact lt_of_heap h1.sec
 ·rcases (h1.rows i hi).2 with ⟨h3, _⟩ | ⟨gg, cap, cur, hv, hb, hh, r⟩
  ·simp at h3
  ·simp at hv
   rw [hv.1]; exact lt_of_heap hh
theorem Dsk.mem {w : World} {p : Nat} {D : Dk} {F : Nat → Prop} (h : Dsk w p D F) : F p := by
 obtain ⟨s, g, c, _, h2⟩ := h
 exact (h2 p).2 (.inl rfl)
theorem len_at {p s n : Nat} {x1 x2 x3 x4 x5 : Value} (w : World) (hm : w.heap[p]? = some (.cells #[.slice (some ⟨s, 0, none⟩) n n, x1, x2, x3, x4, x5] 122 (0, 0))) :
  Calls Tryz.prog 105 #[.pointer (some ⟨p, 0, none⟩)] w fun e w' => e = .returned (.int .i64 n) ∧ w = w' := by
 have c0 := (cells6_of hm).1
 clear hm
 go_enter Tryz.func105, Tryz.ntmps105
 go_wp2
 go_ret
 exact ⟨rfl, rfl⟩
theorem len_any {p : Nat} {D : Dk} {F : Nat → Prop} (w : World) (h : Dsk w p D F) :
  Calls Tryz.prog 105 #[.pointer (some ⟨p, 0, none⟩)] w fun e w' => e = .returned (.int .i64 D.arr.length) ∧ w = w' := by
 obtain ⟨s, g, c, h1, _⟩ := h
 exact len_at w h1.main
theorem ops_at {p : Nat} {x0 x1 x3 x4 x5 : Value} {n : Int} (w : World) (hm : w.heap[p]? = some (.cells #[x0, x1, .int .i64 n, x3, x4, x5] 122 (0, 0))) :
  Calls Tryz.prog 65 #[.pointer (some ⟨p, 0, none⟩)] w fun e w' => e = .returned (.int .i64 n) ∧ w = w' := by
 have c0 := (cells6_of hm).2.2.1
 clear hm
 go_enter Tryz.func65, Tryz.ntmps65
 go_wp2
 go_ret
 exact ⟨rfl, rfl⟩
theorem ops_any {p : Nat} {D : Dk} {F : Nat → Prop} (w : World) (h : Dsk w p D F) :
  Calls Tryz.prog 65 #[.pointer (some ⟨p, 0, none⟩)] w fun e w' => e = .returned (.int .i64 D.ops) ∧ w = w' := by
 obtain ⟨s, g, c, h1, _⟩ := h
 exact ops_at w h1.main
theorem dead_at {p : Nat} {x0 x1 x2 x3 x4 : Value} {b : Bool} (w : World) (hm : w.heap[p]? = some (.cells #[x0, x1, x2, x3, x4, .bool b] 122 (0, 0))) :
  Calls Tryz.prog 66 #[.pointer (some ⟨p, 0, none⟩)] w fun e w' => e = .returned (.bool b) ∧ w = w' := by
 have c0 := (cells6_of hm).2.2.2.2.2
 clear hm
 go_enter Tryz.func66, Tryz.ntmps66
 go_wp2
 go_ret
 exact ⟨rfl, rfl⟩
theorem dead_any {p : Nat} {D : Dk} {F : Nat → Prop} (w : World) (h : Dsk w p D F) :
  Calls Tryz.prog 66 #[.pointer (some ⟨p, 0, none⟩)] w fun e w' => e = .returned (.bool D.dead) ∧ w = w' := by
 obtain ⟨s, g, c, h1, _⟩ := h
 exact dead_at w h1.main
def Dk.awake (D : Dk) : Int := if D.dead then 9 else 0
theorem awake_at {p : Nat} {x0 x1 x2 x3 x4 : Value} {b : Bool} (w : World) (hm : w.heap[p]? = some (.cells #[x0, x1, x2, x3, x4, .bool b] 122 (0, 0))) :
  Calls Tryz.prog 104 #[.pointer (some ⟨p, 0, none⟩)] w fun e w' => e = .returned (.int .i64 (if b then 9 else 0)) ∧ w = w' := by
 have c0 := (cells6_of hm).2.2.2.2.2
 clear hm
 cases b
 all_goals
  go_enter Tryz.func104, Tryz.ntmps104
  go_wp2
  go_ret
  exact ⟨rfl, rfl⟩
theorem upd_own (w : World) (p i : Nat) (v : Value) : Upd (fun k => k = p) w (w.setCell ⟨p, i, none⟩ v) := Upd.setCell (F := fun k => k = p) (Upd.refl _ _) (p := ⟨p, i, none⟩) (.inl rfl) _
theorem DiskAt.withMain {w w' : World} {p s : Nat} {D D' : Dk} {g c : Nat → Nat} (h : DiskAt w p D s g c) (ha : D'.arr = D.arr) (hr : D'.row = D.row)
  (hm : w'.heap[p]? = some (.cells #[.slice (some ⟨s, 0, none⟩) D'.arr.length D'.arr.length, .int .i64 D'.sent, .int .i64 D'.ops, .int .i64 D'.arm, .int .i64 D'.fail, .bool D'.dead] 122 (0, 0)))
  (hu : Upd (fun k => k = p) w w') : DiskAt w' p D' s g c := by
 have hv : ∀ i, D'.vers i = D.vers i := fun i => by simp [Dk.vers, ha, hr]
 refine ⟨hm, ?_, ?_, h.ps, ?_, ?_, ?_⟩
 ·rw [hu.block s (lt_of_heap h.sec) (fun e => h.ps e.symm), h.sec, ha]
  simp [hv]
 ·intro i hi
  rw [ha] at hi
  rw [hv]
  obtain ⟨h1, h2⟩ := h.rows i hi
  refine ⟨h1, ?_⟩
  rcases h2 with ⟨h2, _⟩ | ⟨gg, cap, cur, hv, hb, hh, r⟩
  ·simp at h2
  ·refine .inr ⟨gg, cap, cur, hv, hb, ?_, r⟩
   simp at hv
   exact (hu.block gg (lt_of_heap hh) (fun e => h.gp i hi (hv.1.trans e))).trans hh
 ·rw [ha]; exact h.gp
 ·rw [ha]; exact h.gs
 ·rw [ha]; exact h.gg
theorem doArm_dead {p : Nat} {x0 x1 x2 x3 x4 : Value} (n : Int) (w : World) (hm : w.heap[p]? = some (.cells #[x0, x1, x2, x3, x4, .bool true] 122 (0, 0))) :
  Calls Tryz.prog 39 #[.pointer (some ⟨p, 0, none⟩), .int .i64 n] w fun e w' => e = .returned (.int .i64 9) ∧ w = w' := by
 have H := Lib.hid hm; clear hm
 go_enter Tryz.func39, Tryz.ntmps39
 go_wp2_with (go_at_call 104; refine (awake_at _ H.out).mono ?_; rintro e w' ⟨rfl, rfl⟩)
 go_ret
 exact ⟨rfl, rfl⟩
theorem doArm_live {p : Nat} {x0 x1 x2 x3 x4 : Value} (n : Int) (w : World) (hm : w.heap[p]? = some (.cells #[x0, x1, x2, x3, x4, .bool false] 122 (0, 0))) :
  Calls Tryz.prog 39 #[.pointer (some ⟨p, 0, none⟩), .int .i64 n] w fun e w' => e = .returned (.int .i64 0) ∧ w'.heap[p]? = some (.cells #[x0, x1, x2, .int .i64 (max n (-1)), x4, .bool false] 122 (0, 0)) ∧ Upd (fun k => k = p) w w' := by
 have c0 := cells6_of hm
 have f0 : ∀ k, w.frozen? ⟨p, k, none⟩ = false := fun k => frozen_of_heap hm
 have H := Lib.hid hm; clear hm
 by_cases hn : n < -1
 ·have hx : max n (-1) = -1 := by omega
  rw [hx]; clear hx
  go_enter Tryz.func39, Tryz.ntmps39
  go_wp2_with (go_at_call 104; refine (awake_at _ H.out).mono ?_; rintro e w' ⟨rfl, rfl⟩)
  go_ret
  exact ⟨rfl, blk_set H.out, upd_own _ _ _ _⟩
 ·have hx : max n (-1) = n := by omega
  rw [hx]; clear hx
  go_enter Tryz.func39, Tryz.ntmps39
  go_wp2_with (go_at_call 104; refine (awake_at _ H.out).mono ?_; rintro e w' ⟨rfl, rfl⟩)
  go_ret
  exact ⟨rfl, blk_set H.out, upd_own _ _ _ _⟩
def Dk.doArm (D : Dk) (n : Int) : Dk := if D.dead then D else { D with arm := max n (-1) }
theorem doArm_any {p : Nat} {D : Dk} {F : Nat → Prop} (n : Int) (w : World) (h : Dsk w p D F) :
  Calls Tryz.prog 39 #[.pointer (some ⟨p, 0, none⟩), .int .i64 n] w fun e w' => e = .returned (.int .i64 D.awake) ∧ Dsk w' p (D.doArm n) F ∧ Upd (fun k => k = p) w w' := by
 obtain ⟨s, g, c, h1, h2⟩ := h
 have hm := h1.main
 cases hd : D.dead
 ·rw [hd] at hm
  refine (doArm_live n w hm).mono fun e w' ⟨he, h3, h4⟩ => ⟨by rw [he]; simp [Dk.awake, hd], ?_, h4⟩
  refine ⟨s, g, c, h1.withMain (by simp [Dk.doArm, hd]) (by simp [Dk.doArm, hd]) (by rw [h3]; simp [Dk.doArm, hd]) h4, ?_⟩
  simpa [Dk.doArm, hd] using h2
 ·rw [hd] at hm
  refine (doArm_dead n w hm).mono fun e w' ⟨he, h3⟩ => ⟨by rw [he]; simp [Dk.awake, hd], ?_, by subst h3; exact Upd.refl _ _⟩
  subst h3
  refine ⟨s, g, c, ?_, ?_⟩
  ·simpa [Dk.doArm, hd] using h1
  ·simpa [Dk.doArm, hd] using h2
theorem doFail_dead {p : Nat} {x0 x1 x2 x3 x4 : Value} (n : Int) (w : World) (hm : w.heap[p]? = some (.cells #[x0, x1, x2, x3, x4, .bool true] 122 (0, 0))) :
  Calls Tryz.prog 59 #[.pointer (some ⟨p, 0, none⟩), .int .i64 n] w fun e w' => e = .returned (.int .i64 9) ∧ w = w' := by
 have H := Lib.hid hm; clear hm
 go_enter Tryz.func59, Tryz.ntmps59
 go_wp2_with (go_at_call 104; refine (awake_at _ H.out).mono ?_; rintro e w' ⟨rfl, rfl⟩)
 go_ret
 exact ⟨rfl, rfl⟩
theorem doFail_live {p : Nat} {x0 x1 x2 x3 x4 : Value} (n : Int) (w : World) (hm : w.heap[p]? = some (.cells #[x0, x1, x2, x3, x4, .bool false] 122 (0, 0))) :
  Calls Tryz.prog 59 #[.pointer (some ⟨p, 0, none⟩), .int .i64 n] w fun e w' => e = .returned (.int .i64 0) ∧ w'.heap[p]? = some (.cells #[x0, x1, x2, x3, .int .i64 (max n (-1)), .bool false] 122 (0, 0)) ∧ Upd (fun k => k = p) w w' := by
 have c0 := cells6_of hm
 have f0 : ∀ k, w.frozen? ⟨p, k, none⟩ = false := fun k => frozen_of_heap hm
 have H := Lib.hid hm; clear hm
 by_cases hn : n < -1
 ·have hx : max n (-1) = -1 := by omega
  rw [hx]; clear hx
  go_enter Tryz.func59, Tryz.ntmps59
  go_wp2_with (go_at_call 104; refine (awake_at _ H.out).mono ?_; rintro e w' ⟨rfl, rfl⟩)
  go_ret
  exact ⟨rfl, blk_set H.out, upd_own _ _ _ _⟩
 ·have hx : max n (-1) = n := by omega
  rw [hx]; clear hx
  go_enter Tryz.func59, Tryz.ntmps59
  go_wp2_with (go_at_call 104; refine (awake_at _ H.out).mono ?_; rintro e w' ⟨rfl, rfl⟩)
  go_ret
  exact ⟨rfl, blk_set H.out, upd_own _ _ _ _⟩
def Dk.doFail (D : Dk) (n : Int) : Dk := if D.dead then D else { D with fail := max n (-1) }
theorem doFail_any {p : Nat} {D : Dk} {F : Nat → Prop} (n : Int) (w : World) (h : Dsk w p D F) :
  Calls Tryz.prog 59 #[.pointer (some ⟨p, 0, none⟩), .int .i64 n] w fun e w' => e = .returned (.int .i64 D.awake) ∧ Dsk w' p (D.doFail n) F ∧ Upd (fun k => k = p) w w' := by
 obtain ⟨s, g, c, h1, h2⟩ := h
 have hm := h1.main
 cases hd : D.dead
 ·rw [hd] at hm
  refine (doFail_live n w hm).mono fun e w' ⟨he, h3, h4⟩ => ⟨by rw [he]; simp [Dk.awake, hd], ?_, h4⟩
  refine ⟨s, g, c, h1.withMain (by simp [Dk.doFail, hd]) (by simp [Dk.doFail, hd]) (by rw [h3]; simp [Dk.doFail, hd]) h4, ?_⟩
  simpa [Dk.doFail, hd] using h2
 ·rw [hd] at hm
  refine (doFail_dead n w hm).mono fun e w' ⟨he, h3⟩ => ⟨by rw [he]; simp [Dk.awake, hd], ?_, by subst h3; exact Upd.refl _ _⟩
  subst h3
  refine ⟨s, g, c, ?_, ?_⟩
  ·simpa [Dk.doFail, hd] using h1
  ·simpa [Dk.doFail, hd] using h2
theorem Upd.drewN {F : Nat → Prop} {a w : World} (h : Upd F a w) (n : Nat) : Upd F a (w.drewN n) := ⟨h.os, h.tape, h.output, h.size, h.block⟩
theorem Upd.set0 {p : Nat} {a w : World} (h : Upd (fun k => k = p) a w) (i : Nat) (v : Value) : Upd (fun k => k = p) a (w.setCell ⟨p, i, none⟩ v) :=
 Upd.setCell (F := fun k => k = p) h (p := ⟨p, i, none⟩) (.inl rfl) v
def mainObj (s n : Nat) (sent ops arm fail : Int) (dead : Bool) : Obj :=
 .cells #[.slice (some ⟨s, 0, none⟩) n n, .int .i64 sent, .int .i64 ops, .int .i64 arm, .int .i64 fail, .bool dead] 122 (0, 0)
theorem call_dead {p s n : Nat} {sent ops arm fail : Int} (i : Int) (wr : Bool) (v1 v2 : Value) (w : World) (hm : w.heap[p]? = some (mainObj s n sent ops arm fail true)) :
  Calls Tryz.prog 79 #[.pointer (some ⟨p, 0, none⟩), .int .i64 i, .bool wr, v1, v2] w fun e w' => e = .returned (.int .i64 9) ∧ w = w' := by
 have H := Lib.hid hm; clear hm
 go_enter Tryz.func79, Tryz.ntmps79
 go_wp2_with (go_at_call 104; refine (awake_at _ H.out).mono ?_; rintro e w' ⟨rfl, rfl⟩)
 go_ret
 exact ⟨rfl, rfl⟩
theorem call_out {p s n : Nat} {sent ops arm fail : Int} (i : Int) (wr : Bool) (v1 v2 : Value) (w : World) (hm : w.heap[p]? = some (mainObj s n sent ops arm fail false)) (hi : i < 0 ∨ n ≤ i) :
  Calls Tryz.prog 79 #[.pointer (some ⟨p, 0, none⟩), .int .i64 i, .bool wr, v1, v2] w fun e w' => e = .returned (.int .i64 2) ∧ w = w' := by
 have c0 := cells6_of hm
 have H := Lib.hid hm; clear hm
 rcases hi with hi | hi
 all_goals
  go_enter Tryz.func79, Tryz.ntmps79
  go_wp2_with (go_at_call 104; refine (awake_at _ H.out).mono ?_; rintro e w' ⟨rfl, rfl⟩)
  go_ret
  exact ⟨rfl, rfl⟩
theorem call_dies {p s n : Nat} {sent ops fail : Int} (k : Nat) (v1 : Value) (f : Nat) (caps : Array Value) (R : World → Prop) (w : World) (hm : w.heap[p]? = some (mainObj s n sent ops 0 fail false)) (hk : k < n) 
  (eg : ∀ args w, (callFunc f args).run Tryz.prog w = .ok (.enter f args) w) (hf : -1 ≤ fail ∧ fail ≤ 9223372036854775807)
  (hcl : ∀ W1, W1.heap[p]? = some (mainObj s n sent ops 0 (max (fail - 1) (-1)) true) → Upd (fun k => k = p) w W1 →
   Calls Tryz.prog f (#[.pointer (some ⟨s, k, none⟩)] ++ caps) W1 fun e w' => e = .returned (.tuple #[]) ∧ R w') :
  Calls Tryz.prog 79 #[.pointer (some ⟨p, 0, none⟩), .int .i64 k, .bool true, v1, .func (.func f) #[] caps] w fun e w' => e = .returned (.int .i64 9) ∧ R w' := by
 have c0 := cells6_of hm
 have f0 : ∀ k, w.frozen? ⟨p, k, none⟩ = false := fun k => frozen_of_heap hm
 have H := Lib.hid hm
 have HC := Lib.hid hcl
 clear hm hcl
 obtain ⟨hf1, hf2⟩ := hf
 have hk' : (k : Int) < n := by omega
 have hx : (max (fail - 1) (-1) = -1 ∧ fail - 1 < -1) ∨ (max (fail - 1) (-1) = fail - 1 ∧ -1 ≤ fail - 1) := by omega
 rcases hx with ⟨hx, hy⟩ | ⟨hx, hy⟩
 all_goals
  rw [hx] at HC
  clear hx
  go_enter Tryz.func79, Tryz.ntmps79
  go_wp2_with (go_at_call 104; refine (awake_at _ H.out).mono ?_; rintro e w' ⟨rfl, rfl⟩)
  go_quiet (fail)
  go_wp2_with (fail)
  refine (HC.out _ (blk_set (blk_set H.out)) (((Upd.refl _ w).drewN nq).set0 _ _ |>.set0 _ _)).mono ?_
  rintro e w' ⟨rfl, hr⟩
  go_wp2
  go_ret
  exact ⟨rfl, hr⟩
theorem call_fails_t {p s n : Nat} {sent ops arm : Int} (k : Nat) (v1 v2 : Value) (w : World) (hm : w.heap[p]? = some (mainObj s n sent ops arm 0 false)) (hk : k < n) (ha : arm ≠ 0) :
  Calls Tryz.prog 79 #[.pointer (some ⟨p, 0, none⟩), .int .i64 k, .bool true, v1, v2] w fun e w' => e = .returned (.int .i64 8) ∧ w'.heap[p]? = some (mainObj s n sent ops arm (-1) false) ∧ Upd (fun k => k = p) w w' := by
 have c0 := cells6_of hm
 have f0 : ∀ k, w.frozen? ⟨p, k, none⟩ = false := fun k => frozen_of_heap hm
 have H := Lib.hid hm
 clear hm
 have hk' : (k : Int) < n := by omega
 have ha2 : (arm == 0) = false := by simp [ha]
 go_enter Tryz.func79, Tryz.ntmps79
 go_wp2_with (go_at_call 104; refine (awake_at _ H.out).mono ?_; rintro e w' ⟨rfl, rfl⟩)
 go_quiet (fail)
 go_wp2_with (fail)
 go_ret
 exact ⟨rfl, blk_set H.out, ((Upd.refl _ w).drewN nq).set0 _ _⟩
theorem call_fails_f {p s n : Nat} {sent ops arm : Int} (k : Nat) (v1 v2 : Value) (w : World) (hm : w.heap[p]? = some (mainObj s n sent ops arm 0 false)) (hk : k < n)  :
  Calls Tryz.prog 79 #[.pointer (some ⟨p, 0, none⟩), .int .i64 k, .bool false, v1, v2] w fun e w' => e = .returned (.int .i64 8) ∧ w'.heap[p]? = some (mainObj s n sent ops arm (-1) false) ∧ Upd (fun k => k = p) w w' := by
 have c0 := cells6_of hm
 have f0 : ∀ k, w.frozen? ⟨p, k, none⟩ = false := fun k => frozen_of_heap hm
 have H := Lib.hid hm
 clear hm
 have hk' : (k : Int) < n := by omega
 go_enter Tryz.func79, Tryz.ntmps79
 go_wp2_with (go_at_call 104; refine (awake_at _ H.out).mono ?_; rintro e w' ⟨rfl, rfl⟩)
 go_quiet (fail)
 go_wp2_with (fail)
 go_ret
 exact ⟨rfl, blk_set H.out, ((Upd.refl _ w).drewN nq).set0 _ _⟩
theorem call_go_t {p s n : Nat} {sent ops arm fail : Int} (k : Nat) (v2 : Value) (f : Nat) (caps : Array Value) (R : World → Prop) (w : World) (hm : w.heap[p]? = some (mainObj s n sent ops arm fail false)) (hk : k < n)
  (eg : ∀ args w, (callFunc f args).run Tryz.prog w = .ok (.enter f args) w) (ha : arm ≠ 0) (ha1 : -1 ≤ arm ∧ arm ≤ 9223372036854775807) (hf : fail ≠ 0) (hf1 : -1 ≤ fail ∧ fail ≤ 9223372036854775807) (ho : 0 ≤ ops ∧ ops ≤ 4611686018427387904)
  (hcl : ∀ W1, W1.heap[p]? = some (mainObj s n sent (ops + 1) (max (arm - 1) (-1)) (max (fail - 1) (-1)) false) → Upd (fun k => k = p) w W1 →
   Calls Tryz.prog f (#[.pointer (some ⟨s, k, none⟩)] ++ caps) W1 fun e w' => e = .returned (.tuple #[]) ∧ R w') :
  Calls Tryz.prog 79 #[.pointer (some ⟨p, 0, none⟩), .int .i64 k, .bool true, .func (.func f) #[] caps, v2] w fun e w' => e = .returned (.int .i64 0) ∧ R w' := by
 have c0 := cells6_of hm
 have f0 : ∀ k, w.frozen? ⟨p, k, none⟩ = false := fun k => frozen_of_heap hm
 have H := Lib.hid hm
 have HC := Lib.hid hcl
 clear hm hcl
 obtain ⟨hf2, hf3⟩ := hf1
 obtain ⟨ho1, ho2⟩ := ho
 have hf4 : (fail == 0) = false := by simp [hf]
 have ha2 : (arm == 0) = false := by simp [ha]
 obtain ⟨ha3, ha4⟩ := ha1
 have hk' : (k : Int) < n := by omega
 have hx : (max (fail - 1) (-1) = -1 ∧ fail - 1 < -1) ∨ (max (fail - 1) (-1) = fail - 1 ∧ -1 ≤ fail - 1) := by omega
 have hz : (max (arm - 1) (-1) = -1 ∧ arm - 1 < -1) ∨ (max (arm - 1) (-1) = arm - 1 ∧ -1 ≤ arm - 1) := by omega
 rcases hx with ⟨hx, hy⟩ | ⟨hx, hy⟩
 all_goals rcases hz with ⟨hz, hv⟩ | ⟨hz, hv⟩
 all_goals
  rw [hx, hz] at HC
  clear hx hz
  go_enter Tryz.func79, Tryz.ntmps79
  go_wp2_with (go_at_call 104; refine (awake_at _ H.out).mono ?_; rintro e w' ⟨rfl, rfl⟩)
  go_quiet (fail)
  go_wp2_with (fail)
  refine (HC.out _ (blk_set (blk_set (blk_set H.out))) (((Upd.refl _ w).drewN nq).set0 _ _ |>.set0 _ _ |>.set0 _ _)).mono ?_
  rintro e w' ⟨rfl, hr⟩
  go_wp2
  go_ret
  exact ⟨rfl, hr⟩
theorem call_go_f {p s n : Nat} {sent ops arm fail : Int} (k : Nat) (v2 : Value) (f : Nat) (caps : Array Value) (R : World → Prop) (w : World) (hm : w.heap[p]? = some (mainObj s n sent ops arm fail false)) (hk : k < n)
  (eg : ∀ args w, (callFunc f args).run Tryz.prog w = .ok (.enter f args) w)  (hf : fail ≠ 0) (hf1 : -1 ≤ fail ∧ fail ≤ 9223372036854775807) (ho : 0 ≤ ops ∧ ops ≤ 4611686018427387904)
  (hcl : ∀ W1, W1.heap[p]? = some (mainObj s n sent (ops + 1) arm (max (fail - 1) (-1)) false) → Upd (fun k => k = p) w W1 →
   Calls Tryz.prog f (#[.pointer (some ⟨s, k, none⟩)] ++ caps) W1 fun e w' => e = .returned (.tuple #[]) ∧ R w') :
  Calls Tryz.prog 79 #[.pointer (some ⟨p, 0, none⟩), .int .i64 k, .bool false, .func (.func f) #[] caps, v2] w fun e w' => e = .returned (.int .i64 0) ∧ R w' := by
 have c0 := cells6_of hm
 have f0 : ∀ k, w.frozen? ⟨p, k, none⟩ = false := fun k => frozen_of_heap hm
 have H := Lib.hid hm
 have HC := Lib.hid hcl
 clear hm hcl
 obtain ⟨hf2, hf3⟩ := hf1
 obtain ⟨ho1, ho2⟩ := ho
 have hf4 : (fail == 0) = false := by simp [hf]
 have hk' : (k : Int) < n := by omega
 have hx : (max (fail - 1) (-1) = -1 ∧ fail - 1 < -1) ∨ (max (fail - 1) (-1) = fail - 1 ∧ -1 ≤ fail - 1) := by omega
 rcases hx with ⟨hx, hy⟩ | ⟨hx, hy⟩
 all_goals
  rw [hx] at HC
  clear hx
  go_enter Tryz.func79, Tryz.ntmps79
  go_wp2_with (go_at_call 104; refine (awake_at _ H.out).mono ?_; rintro e w' ⟨rfl, rfl⟩)
  go_quiet (fail)
  go_wp2_with (fail)
  refine (HC.out _ (blk_set (blk_set H.out)) (((Upd.refl _ w).drewN nq).set0 _ _ |>.set0 _ _)).mono ?_
  rintro e w' ⟨rfl, hr⟩
  go_wp2
  go_ret
  exact ⟨rfl, hr⟩
end
end Go.Proofs.YtbimkhdiplnbfaaGreat
