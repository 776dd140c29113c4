/- The disk: what holds between two rounds of Crash. -/
import Derived.Test.YtbimkhdiplnbfaaD7
import Derived.Test.YtbimkhdiplnbfaaD5
import Derived.Test.YtbimkhdiplnbfaaR1
import Derived.Test.YtbimkhdiplnbfaaI3
import Derived.Maps.OwnIn
namespace Go.Proofs.Ytbimkhdiplnbfaa
open Go.RowKit Go.Shelf

/-- What holds between two rounds of Crash's loop. -/
structure CrAt (w w1 : World) (kv : Value) (keep : List Bool) (pre : List El) (W : World) : Prop where
  upd : Upd (fun _ => False) w W
  size : w1.heap.size ≤ W.heap.size
  ck : W.heap[w.heap.size]? = some (.cells #[kv] 49 (0, 0))
  map : W.ownsMap Try.prog 3 (plainElem Try.prog 4) (w.heap.size + 1) pre.length (kmap keep 0 (.map []) pre)
  cm : W.heap[w.heap.size + 2]? = some (.cells #[.map (some (w.heap.size + 1))] 138 (0, 0))
  cn : W.heap[w.heap.size + 3]? = some (.cells #[.int .i64 pre.length] 3 (0, 0))

theorem CrAt.kept {w w1 W W' : World} {kv : Value} {keep : List Bool} {pre : List El} {row : Option Nat} (h : CrAt w w1 kv keep pre W) (hw : w.heap.size + 3 < w1.heap.size) (hg : W.grownBy W' row) (hr : ∀ r, row = some r → w1.heap.size ≤ r) : CrAt w w1 kv keep pre W' := by
  have hb : ∀ k, k < w.heap.size + 4 → W'.heap[k]? = W.heap[k]? := fun k hk =>
    hg.block k (Nat.lt_of_lt_of_le (by omega) h.size) (fun e => by have := hr _ e.symm; omega)
  refine ⟨h.upd.step (Upd.of_grown (F := fun j => w1.heap.size ≤ j) hg (fun k hk => hr k hk)) (fun j hj e => by omega), Nat.le_trans h.size hg.size, (hb _ (by omega)).trans h.ck, h.map.kept hg (fun e => by have := hr _ e.symm; omega), (hb _ (by omega)).trans h.cm, (hb _ (by omega)).trans h.cn⟩

theorem CrAt.step {w w1 W W4 : World} {kv : Value} {keep : List Bool} {pre : List El} {x : El} (h : CrAt w w1 kv keep pre W) (hw : w.heap.size + 3 < w1.heap.size)
    (hm : W4.ownsMap Try.prog 3 (plainElem Try.prog 4) (w.heap.size + 1) (pre.length + 1) ((kmap keep 0 (.map []) pre).put (.int .i64 x.1.2.2) (.lit (.bool (keep.getD pre.length false))))) (hg : W.grownBy W4 (some (w.heap.size + 1))) :
    CrAt w w1 kv keep (pre ++ [x]) (W4.setCell ⟨w.heap.size + 3, 0, none⟩ (.int .i64 (pre.length + 1 : Nat))) := by
  have hb : ∀ k, k < w.heap.size + 4 → k ≠ w.heap.size + 1 → W4.heap[k]? = W.heap[k]? := fun k hk hne =>
    hg.block k (Nat.lt_of_lt_of_le (by omega) h.size) (fun e => hne (Option.some.inj e))
  have hu : Upd (fun j => w.heap.size ≤ j) w W4 := (h.upd.mono (G := fun j => w.heap.size ≤ j) (fun _ _ e => e.elim)).step (Upd.of_grown (F := fun j => w.heap.size ≤ j) hg (fun k hk => by have := Option.some.inj hk; omega)) (fun _ _ e => e)
  refine ⟨?_, ?_, ?_, ?_, ?_, ?_⟩
  · exact (hu.setCell (p := ⟨w.heap.size + 3, 0, none⟩) (.inl (by show w.heap.size ≤ w.heap.size + 3; omega)) _).mono (fun j hj e => by omega)
  · have h1 := hg.size
    have h2 := h.size
    simp [World.setCell]; omega
  · rw [set_ne (by simp)]; exact (hb _ (by omega) (by omega)).trans h.ck
  · have := hm.kept (Upd.grown1 (upd_own W4 (w.heap.size + 3) 0 (.int .i64 (pre.length + 1 : Nat)))) (by simp)
    rw [kmap_snoc]
    simpa using this
  · rw [set_ne (by simp)]; exact (hb _ (by omega) (by omega)).trans h.cm
  · have := blk_set (i := 0) (v := .int .i64 (pre.length + 1 : Nat)) ((hb (w.heap.size + 3) (by omega) (by omega)).trans h.cn)
    simpa using this

end Go.Proofs.Ytbimkhdiplnbfaa
