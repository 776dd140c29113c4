/- The disk as a value, and how it lies in memory. -/
import Derived.Test.YtbimkhdiplnbfaaProg
import Derived.WalkKit
import Derived.WalkSpells
import Derived.WalkLawsBesides
import Derived.Deep.QuietTactic
import Derived.BigQuiet
import Derived.Handy
import Derived.StillTailTactics
import Derived.Lib.Hide
import Derived.Deep.RegionHeld3
namespace Go.Proofs.Ytbimkhdiplnbfaa
open Go.RowKit

theorem ret_bool {a b : Bool} (h : a = b) : Ending.returned (.bool a) = .returned (.bool b) := by rw [h]
theorem ret_int {k : IntKind} {a b : Int} (h : a = b) : Ending.returned (.int k a) = .returned (.int k b) := by rw [h]

theorem _root_.Go.RowKit.Below.step {B : Nat} {w w1 w2 : World} (h : Below B w w1) (hB : B ≤ w.heap.size) (k : Below w1.heap.size w1 w2) : Below B w w2 := h.trans (k.mono (Nat.le_trans hB h.size))
theorem undrew {B : Nat} {w w' : World} (h : Below B w.drew w') : Below B w w' := ⟨h.os, h.tape, h.output, h.size, h.block⟩

theorem cell_of_heap {w : World} {b n : Nat} {cs : Array Value} {t : TypeId} (h : w.heap[b]? = some (.cells cs t (0, 0))) : w.cell? ⟨b, n, none⟩ = cs[n]? := by
  simp [World.cell?, h]
theorem frozen_of_heap {w : World} {b n : Nat} {cs : Array Value} {t : TypeId} (h : w.heap[b]? = some (.cells cs t (0, 0))) : w.frozen? ⟨b, n, none⟩ = false := by
  simp [World.frozen?, h]
theorem lt_of_heap {w : World} {b : Nat} {o : Obj} (h : w.heap[b]? = some o) : b < w.heap.size := by
  rcases Nat.lt_or_ge b w.heap.size with h' | h'
  · exact h'
  · simp [Array.getElem?_eq_none h'] at h
theorem alloc_at {w : World} {o : Obj} {k : Nat} (h : k = w.heap.size) : (w.alloc o).heap[k]? = some o := by
  subst h; show (w.heap.push o)[w.heap.size]? = _; simp
theorem alloc_lt {w : World} {o : Obj} {k : Nat} (h : k < w.heap.size) : (w.alloc o).heap[k]? = w.heap[k]? := Below.heap_alloc _ _ _ h
theorem set_ne {w : World} {a : Addr} {u : Value} {k : Nat} (h : k ≠ a.block) : (w.setCell a u).heap[k]? = w.heap[k]? := Below.heap_setCell _ _ _ _ h
theorem blk_set {w : World} {b i : Nat} {cs : Array Value} {v : Value} {t : TypeId} (h : w.heap[b]? = some (.cells cs t (0, 0))) :
    (w.setCell ⟨b, i, none⟩ v).heap[b]? = some (.cells (cs.setIfInBounds i v) t (0, 0)) := by
  simp [World.setCell, Array.getElem?_modify, h]
theorem cells1_of {w : World} {b : Nat} {x : Value} {t : TypeId} (h : w.heap[b]? = some (.cells #[x] t (0, 0))) : w.cell? ⟨b, 0, none⟩ = some x := by simp [World.cell?, h]
theorem cells6_of {w : World} {b : Nat} {x0 x1 x2 x3 x4 x5 : Value} {t : TypeId} (h : w.heap[b]? = some (.cells #[x0, x1, x2, x3, x4, x5] t (0, 0))) :
    w.cell? ⟨b, 0, none⟩ = some x0 ∧ w.cell? ⟨b, 1, none⟩ = some x1 ∧ w.cell? ⟨b, 2, none⟩ = some x2 ∧ w.cell? ⟨b, 3, none⟩ = some x3 ∧ w.cell? ⟨b, 4, none⟩ = some x4 ∧ w.cell? ⟨b, 5, none⟩ = some x5 := by simp [World.cell?, h]

/-- Only what F names, and new blocks, may have changed. -/
structure Upd (F : Nat → Prop) (w w' : World) : Prop where
  os : w'.os = w.os
  tape : w'.tape = w.tape
  output : w'.output = w.output
  size : w.heap.size ≤ w'.heap.size
  block : ∀ k, k < w.heap.size → ¬ F k → w'.heap[k]? = w.heap[k]?

theorem Upd.refl (F : Nat → Prop) (w : World) : Upd F w w := ⟨rfl, rfl, rfl, Nat.le_refl _, fun _ _ _ => rfl⟩
theorem Upd.trans {F : Nat → Prop} {a b c : World} (h : Upd F a b) (k : Upd F b c) : Upd F a c :=
  ⟨k.os.trans h.os, k.tape.trans h.tape, k.output.trans h.output, Nat.le_trans h.size k.size, fun i hi hf => (k.block i (Nat.lt_of_lt_of_le hi h.size) hf).trans (h.block i hi hf)⟩
theorem Upd.mono {F G : Nat → Prop} {w w' : World} (h : Upd F w w') (hg : ∀ k, k < w.heap.size → F k → G k) : Upd G w w' := ⟨h.os, h.tape, h.output, h.size, fun k hk hn => h.block k hk (fun hf => hn (hg k hk hf))⟩
theorem Upd.drew {F : Nat → Prop} {a w : World} (h : Upd F a w) : Upd F a w.drew := ⟨h.os, h.tape, h.output, h.size, h.block⟩
theorem Upd.undrew {F : Nat → Prop} {a w : World} (h : Upd F a.drew w) : Upd F a w := ⟨h.os, h.tape, h.output, h.size, h.block⟩
theorem Upd.alloc {F : Nat → Prop} {a w : World} (h : Upd F a w) (o : Obj) : Upd F a (w.alloc o) :=
  ⟨h.os, h.tape, h.output, Nat.le_trans h.size (by simp), fun k hk hf => (alloc_lt (Nat.lt_of_lt_of_le hk h.size)).trans (h.block k hk hf)⟩
theorem Upd.setCell {F : Nat → Prop} {a w : World} (h : Upd F a w) {p : Addr} (hp : F p.block ∨ a.heap.size ≤ p.block) (u : Value) : Upd F a (w.setCell p u) :=
  ⟨h.os, h.tape, h.output, Nat.le_trans h.size (by simp [World.setCell]), fun k hk hf => by
    rw [set_ne]
    · exact h.block k hk hf
    · rintro rfl; rcases hp with hp | hp
      · exact hf hp
      · omega⟩
theorem Upd.of_below {F : Nat → Prop} {w w' : World} (h : Below w.heap.size w w') : Upd F w w' := ⟨h.os, h.tape, h.output, h.size, fun k hk _ => h.block k hk⟩
theorem Upd.of_grown {F : Nat → Prop} {w w' : World} {row : Option Nat} (h : w.grownBy w' row) (hr : ∀ k, row = some k → F k) : Upd F w w' :=
  ⟨h.os, h.tape, h.output, h.size, fun k hk hf => h.block k hk (fun e => hf (hr k e.symm))⟩
theorem Upd.step {F G : Nat → Prop} {w w1 w2 : World} (h : Upd F w w1) (k : Upd G w1 w2) (hg : ∀ k, k < w.heap.size → G k → F k) : Upd F w w2 :=
  ⟨k.os.trans h.os, k.tape.trans h.tape, k.output.trans h.output, Nat.le_trans h.size k.size, fun i hi hf =>
    (k.block i (Nat.lt_of_lt_of_le hi h.size) (fun hx => hf (hg i hi hx))).trans (h.block i hi hf)⟩

/-! ### The disk as a value -/
structure Dk where
  arr : List (List Int)
  row : List (Nat × List Int × Int)
  sent : Int
  ops : Int
  arm : Int
  fail : Int
  dead : Bool

def Dk.vers (D : Dk) (i : Nat) : List (List Int × Int) := (D.arr.getD i [], 0) :: (D.row.filter (fun x => x.1 == i)).map (·.2)
def vcells (v : List Int × Int) : List Value := v.1.map (Value.int .u8) ++ [.int .i64 v.2]
def zblk : List Int := List.replicate 64 0

def okBlk (b : List Int) : Prop := b.length = 64 ∧ ∀ x ∈ b, 0 ≤ x ∧ x ≤ 255

/-- The numbers of a disk are in their ranges. K bounds what was ever counted. -/
structure Dk.Ok (D : Dk) (K : Nat) : Prop where
  len : 1 ≤ D.arr.length ∧ D.arr.length ≤ 2048
  blks : ∀ b ∈ D.arr, okBlk b
  rblks : ∀ x ∈ D.row, okBlk x.2.1 ∧ x.1 < D.arr.length ∧ 1 ≤ x.2.2 ∧ x.2.2 ≤ D.sent
  sorted : D.row.Pairwise (fun x y => x.2.2 < y.2.2)
  sent : 0 ≤ D.sent ∧ D.sent ≤ K
  ops : 0 ≤ D.ops ∧ D.ops ≤ K
  arm : -1 ≤ D.arm ∧ D.arm ≤ 9223372036854775807
  fail : -1 ≤ D.fail ∧ D.fail ≤ 9223372036854775807
  rowlen : D.row.length ≤ K

structure DiskAt (w : World) (p : Nat) (D : Dk) (s : Nat) (g c : Nat → Nat) : Prop where
  main : w.heap[p]? = some (.cells #[.slice (some ⟨s, 0, none⟩) D.arr.length D.arr.length, .int .i64 D.sent, .int .i64 D.ops, .int .i64 D.arm, .int .i64 D.fail, .bool D.dead] 128 (0, 0))
  sec : w.heap[s]? = some (.cells ((List.range D.arr.length).map fun i => Value.slice (some ⟨g i, 0, none⟩) (D.vers i).length (c i)).toArray 131 (0, 0))
  rows : ∀ i, i < D.arr.length → w.ownsRow 0 130 65 (.slice (some ⟨g i, 0, none⟩) (D.vers i).length (c i)) (D.vers i).length ((D.vers i).flatMap vcells)
  ps : p ≠ s
  gp : ∀ i, i < D.arr.length → g i ≠ p
  gs : ∀ i, i < D.arr.length → g i ≠ s
  gg : ∀ i j, i < D.arr.length → j < D.arr.length → g i = g j → i = j

/-- The blocks of a disk. -/
def Fp (p s : Nat) (g : Nat → Nat) (n : Nat) (k : Nat) : Prop := k = p ∨ k = s ∨ ∃ i, i < n ∧ k = g i

/-- A disk that lies in memory. -/
def Dsk (w : World) (p : Nat) (D : Dk) (F : Nat → Prop) : Prop := ∃ s g c, DiskAt w p D s g c ∧ ∀ k, F k ↔ Fp p s g D.arr.length k

/-- Another disk's blocks, or none, turned: this one lies as it lay. -/
theorem DiskAt.kept {w w' : World} {p s : Nat} {D : Dk} {g c : Nat → Nat} {G : Nat → Prop} (h : DiskAt w p D s g c) (hu : Upd G w w') (hd : ∀ k, Fp p s g D.arr.length k → ¬ G k) : DiskAt w' p D s g c where
  main := (hu.block p (lt_of_heap h.main) (hd p (.inl rfl))).trans h.main
  sec := (hu.block s (lt_of_heap h.sec) (hd s (.inr (.inl rfl)))).trans h.sec
  rows i hi := by
    obtain ⟨h1, h2⟩ := h.rows i hi
    refine ⟨h1, ?_⟩
    rcases h2 with ⟨h2, _⟩ | ⟨gg, cap, cur, hv, hb, hh, r⟩
    · simp at h2
    · refine .inr ⟨gg, cap, cur, hv, hb, ?_, r⟩
      simp at hv
      exact (hu.block gg (lt_of_heap hh) (hd gg (.inr (.inr ⟨i, hi, hv.1.symm⟩)))).trans hh
  ps := h.ps
  gp := h.gp
  gs := h.gs
  gg := h.gg

theorem Dsk.kept {w w' : World} {p : Nat} {D : Dk} {F G : Nat → Prop} (h : Dsk w p D F) (hu : Upd G w w') (hd : ∀ k, F k → ¬ G k) : Dsk w' p D F := by
  obtain ⟨s, g, c, h1, h2⟩ := h
  exact ⟨s, g, c, h1.kept hu (fun k hk => hd k ((h2 k).2 hk)), h2⟩

theorem Dsk.lt {w : World} {p : Nat} {D : Dk} {F : Nat → Prop} (h : Dsk w p D F) : ∀ k, F k → k < w.heap.size := by
  obtain ⟨s, g, c, h1, h2⟩ := h
  intro k hk
  rcases (h2 k).1 hk with rfl | rfl | ⟨i, hi, rfl⟩
  · exact lt_of_heap h1.main
  · exact lt_of_heap h1.sec
  · rcases (h1.rows i hi).2 with ⟨h3, _⟩ | ⟨gg, cap, cur, hv, hb, hh, r⟩
    · simp at h3
    · simp at hv
      rw [hv.1]; exact lt_of_heap hh

theorem Dsk.mem {w : World} {p : Nat} {D : Dk} {F : Nat → Prop} (h : Dsk w p D F) : F p := by
  obtain ⟨s, g, c, _, h2⟩ := h
  exact (h2 p).2 (.inl rfl)

end Go.Proofs.Ytbimkhdiplnbfaa
