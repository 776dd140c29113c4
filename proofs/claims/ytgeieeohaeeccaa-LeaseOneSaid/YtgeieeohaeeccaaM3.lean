/- Whole blocks: made, written, read. -/
import Derived.Test.YtgeieeohaeeccaaM2
import Derived.OwnWalk
import Derived.Deep.LoopGhost
import Derived.Deep.OwnRows
import Derived.Deep.Cut
import Derived.Laws.CopyOwn
import Derived.Laws.CopyRow
namespace Go.Proofs.Ytgeieeohaeeccaa
open Go.RowKit Go.Deep

theorem splice_fold (vs : List Value) : ∀ (off k : Nat) (cells : Array Value), off + k + vs.length ≤ cells.size →
    ((vs.zipIdx k).foldl (fun (cs : Array Value) (x : Value × Nat) => cs.setIfInBounds (off + x.2) x.1) cells).toList = cells.toList.take (off + k) ++ vs ++ cells.toList.drop (off + k + vs.length) := by
  induction vs with
  | nil => intro off k cells _; simp
  | cons v vs ih =>
    intro off k cells h
    simp only [List.length_cons] at h
    rw [List.zipIdx_cons, List.foldl_cons, ih off (k + 1) _ (by simp; omega)]
    simp only [Array.toList_setIfInBounds, List.length_cons]
    apply List.ext_getElem?
    intro j
    simp only [List.getElem?_append, List.getElem?_take, List.length_take, List.length_set, Array.length_toList, List.getElem?_set, List.getElem?_drop, List.length_append, List.length_cons]
    by_cases h1 : j < off + k
    · simp [h1, show j < off + (k + 1) by omega, show off + k ≠ j by omega, show j < min (off + (k + 1)) cells.size by omega, show j < min (off + k) cells.size by omega, show j < min (off + (k + 1)) cells.size + vs.length by omega, show j < min (off + k) cells.size + (vs.length + 1) by omega]
    · by_cases h2 : j = off + k
      · subst h2
        simp [show off + k < off + (k + 1) by omega, show off + k < min (off + (k + 1)) cells.size by omega, show off + k < min (off + (k + 1)) cells.size + vs.length by omega, show min (off + k) cells.size = off + k by omega, show off + k < cells.size by omega]
      · obtain ⟨m, rfl⟩ : ∃ m, j = off + k + 1 + m := ⟨j - (off + k + 1), by omega⟩
        have e1 : min (off + (k + 1)) cells.size = off + k + 1 := by omega
        have e2 : min (off + k) cells.size = off + k := by omega
        have e3 : ¬ (off + k + 1 + m < off + k + 1) := by omega
        have e4 : ¬ (off + k + 1 + m < off + k) := by omega
        have e5 : off + k + 1 + m - (off + k + 1) = m := by omega
        have e6 : off + k + 1 + m - (off + k) = m + 1 := by omega
        have e7 : (off + k + 1 + m < off + k + 1 + vs.length) = (m < vs.length) := by simp
        have e8 : (off + k + 1 + m < off + k + (vs.length + 1)) = (m < vs.length) := by apply propext; omega
        simp only [e1, e2, e3, e4, e5, e6, e7, e8, if_false, List.getElem?_cons_succ]
        by_cases h3 : m < vs.length
        · simp [h3]
        · simp [h3, show off + (k + 1) + vs.length + (off + k + 1 + m - (off + k + 1 + vs.length)) = off + k + (vs.length + 1) + (off + k + 1 + m - (off + k + (vs.length + 1))) by omega]
          intro hx; omega

theorem heap_setCells (b : Nat) (t : TypeId) : ∀ (vs : List Value) (o : Nat) (w : World) (old : Array Value), w.heap[b]? = some (.cells old t (0, 0)) →
    (w.setCells b o vs).heap[b]? = some (.cells ((vs.zipIdx o).foldl (fun (cs : Array Value) (x : Value × Nat) => cs.setIfInBounds (0 + x.2) x.1) old) t (0, 0))
  | [], _, _, _, h => h
  | v :: r, o, w, old, h => by
    rw [World.setCells, List.zipIdx_cons, List.foldl_cons]
    exact heap_setCells b t r (o + 1) _ _ (by simpa using blk_set h)

theorem heap_setCells_whole {w : World} {b : Nat} {t : TypeId} {old : Array Value} {vs : List Value} (h : w.heap[b]? = some (.cells old t (0, 0))) (hs : old.size = vs.length) :
    (w.setCells b 0 vs).heap[b]? = some (.cells vs.toArray t (0, 0)) := by
  rw [heap_setCells b t vs 0 w old h]
  have := splice_fold vs 0 0 old (by omega)
  congr 2
  apply Array.toList_inj.1
  rw [this]
  have e : old.toList.drop (0 + 0 + vs.length) = [] := by rw [List.drop_eq_nil_iff]; simp [hs]
  rw [e]; simp

theorem Upd.setCells {F : Nat → Prop} {b : Nat} (hb : F b) : ∀ (vs : List Value) (o : Nat) {a w : World}, Upd F a w → Upd F a (w.setCells b o vs)
  | [], _, _, _, h => h
  | v :: r, o, _, _, h => Upd.setCells hb r (o + 1) (h.setCell (p := ⟨b, o, none⟩) (.inl hb) v)

theorem there_block {w : World} {b : Nat} {cs : Array Value} {t : TypeId} (h : w.heap[b]? = some (.cells cs t (0, 0))) : w.there b 0 cs.size := fun j hj =>
  ⟨by rw [cell_of_heap h]; simp [hj], frozen_of_heap h⟩

theorem rangeAt_block {w : World} {b : Nat} {cs : List Value} {t : TypeId} (h : w.heap[b]? = some (.cells cs.toArray t (0, 0))) : w.rangeAt b 0 cs := by
  intro j v hv
  simp [World.cell?, h, hv]


theorem fresh_any (W : World) (t : TypeId) (zs : Array Value) (cs : List Value) (hl : zs.size = cs.length) : (W.alloc (.cells zs t)).there W.heap.size 0 cs.toArray.size ∧ ((W.alloc (.cells zs t)).setCells W.heap.size 0 cs).heap[W.heap.size]? = some (.cells cs.toArray t (0, 0)) ∧
    Upd (fun _ => False) W ((W.alloc (.cells zs t)).setCells W.heap.size 0 cs) ∧ W.heap.size < ((W.alloc (.cells zs t)).setCells W.heap.size 0 cs).heap.size := by
  have hblk : (W.alloc (.cells zs t)).heap[W.heap.size]? = some (.cells zs t (0, 0)) := alloc_at rfl
  have h2 := heap_setCells_whole (vs := cs) hblk hl
  refine ⟨?_, h2, ?_, lt_of_heap h2⟩
  · have := there_block hblk
    rw [hl] at this
    simpa using this
  · have := Upd.setCells (F := fun j => W.heap.size ≤ j) (b := W.heap.size) (Nat.le_refl _) cs 0 ((Upd.refl _ W).alloc (.cells zs t))
    exact this.mono (fun j hj e => by omega)

/-- A block written over, whole. -/
theorem over_any {W : World} {b : Nat} {t : TypeId} {old : Array Value} (cs : List Value) (h : W.heap[b]? = some (.cells old t (0, 0))) (hl : old.size = cs.length) : W.there b 0 cs.toArray.size ∧ (W.setCells b 0 cs).heap[b]? = some (.cells cs.toArray t (0, 0)) ∧ Upd (fun j => j = b) W (W.setCells b 0 cs) := by
  refine ⟨?_, heap_setCells_whole h hl, Upd.setCells (F := fun j => j = b) rfl cs 0 (Upd.refl _ W)⟩
  have := there_block h
  rw [hl] at this
  simpa using this

theorem cells5_of {w : World} {b : Nat} {x0 x1 x2 x3 x4 : Value} {t : TypeId} (h : w.heap[b]? = some (.cells #[x0, x1, x2, x3, x4] t (0, 0))) :
    w.cell? ⟨b, 0, none⟩ = some x0 ∧ w.cell? ⟨b, 1, none⟩ = some x1 ∧ w.cell? ⟨b, 2, none⟩ = some x2 ∧ w.cell? ⟨b, 3, none⟩ = some x3 ∧ w.cell? ⟨b, 4, none⟩ = some x4 := by simp [World.cell?, h]

end Go.Proofs.Ytgeieeohaeeccaa
