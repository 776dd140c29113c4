/- Walks of the disk: Copy. -/
import Derived.Test.YtbimkhdiplnbfaaC9
namespace Go.Proofs.Ytbimkhdiplnbfaa
open Go.RowKit Go.Deep

/-- What holds at Copy's loop's head, k sectors copied. -/
structure CopyAt (w wr : World) (D : Dk) (k : Nat) (g c : Nat → Nat) : Prop where
  upd : Upd (fun _ => False) w wr
  size : w.heap.size + 2 ≤ wr.heap.size
  main : wr.heap[w.heap.size]? = some (mainObj (w.heap.size + 1) D.arr.length D.sent D.ops D.arm D.fail D.dead)
  sec : wr.heap[w.heap.size + 1]? = some (.cells ((List.range D.arr.length).map fun i => if i < k then Value.slice (some ⟨g i, 0, none⟩) (D.vers i).length (c i) else .slice none 0 0).toArray 131 (0, 0))
  rows : ∀ i, i < k → wr.ownsRow 0 130 65 (.slice (some ⟨g i, 0, none⟩) (D.vers i).length (c i)) (D.vers i).length ((D.vers i).flatMap vcells)
  news : ∀ i, i < k → w.heap.size + 2 ≤ g i ∧ g i < wr.heap.size
  inj : ∀ i j, i < k → j < k → g i = g j → i = j

theorem CopyAt.step {w wr W : World} {D : Dk} {k : Nat} {g c : Nat → Nat} {g' c' : Nat} (h : CopyAt w wr D k g c) (hk : k < D.arr.length) (hu : Upd (fun _ => False) wr W) (hg : wr.heap.size ≤ g')
    (hr : W.ownsRow 0 130 65 (.slice (some ⟨g', 0, none⟩) (D.vers k).length c') (D.vers k).length ((D.vers k).flatMap vcells)) :
    CopyAt w (W.setCell ⟨w.heap.size + 1, k, none⟩ (.slice (some ⟨g', 0, none⟩) (D.vers k).length c')) D (k + 1) (fun j => if j = k then g' else g j) (fun j => if j = k then c' else c j) := by
  have hz := h.size
  have hz2 := hu.size
  have hlt : g' < W.heap.size := by
    rcases hr.2 with ⟨e, _⟩ | ⟨gg, cap, cur, hv, hb, hh, r⟩
    · simp at e
    · simp at hv; rw [hv.1]; exact lt_of_heap hh
  have hss : (W.setCell ⟨w.heap.size + 1, k, none⟩ (.slice (some ⟨g', 0, none⟩) (D.vers k).length c')).heap.size = W.heap.size := by simp [World.setCell]
  refine ⟨(h.upd.trans hu).setCell (p := ⟨w.heap.size + 1, k, none⟩) (.inr (Nat.le_succ _)) _, by rw [hss]; omega, ?_, ?_, ?_, ?_, ?_⟩
  · rw [set_ne (by simp)]; exact (hu.block _ (lt_of_heap h.main) (fun e => e)).trans h.main
  · rw [blk_set ((hu.block _ (lt_of_heap h.sec) (fun e => e)).trans h.sec)]
    congr 2
    apply Array.toList_inj.1
    apply List.ext_getElem
    · simp
    · intro j h1 h2
      simp only [Array.toList_setIfInBounds, List.getElem_set, List.getElem_map, List.getElem_range]
      by_cases e : k = j
      · subst e; simp
      · rw [if_neg e]
        by_cases hj : j < k
        · have e2 : ¬ j = k := by omega
          rw [if_pos hj, if_pos (by omega)]
          simp [e2]
        · rw [if_neg hj, if_neg (by omega)]
  · intro i hi
    by_cases hik : i = k
    · subst hik
      simp only [if_true]
      exact ownsRow_upd hr (upd_own W (w.heap.size + 1) i _) (fun e => by omega)
    · simp only [hik, if_false]
      have hn := h.news i (by omega)
      exact ownsRow_upd (ownsRow_upd (h.rows i (by omega)) hu (fun e => e)) (upd_own W (w.heap.size + 1) k _) (fun e => by omega)
  · intro i hi
    rw [hss]
    by_cases hik : i = k
    · simp only [hik, if_true]; omega
    · simp only [hik, if_false]
      have hn := h.news i (by omega)
      omega
  · intro i j hi hj
    by_cases hik : i = k <;> by_cases hjk : j = k
    · intro _; omega
    · simp only [hik, hjk, if_true, if_false]
      have hn := h.news j (by omega)
      intro e; omega
    · simp only [hik, hjk, if_true, if_false]
      have hn := h.news i (by omega)
      intro e; omega
    · simp only [hik, hjk, if_false]; exact h.inj i j (by omega) (by omega)

theorem CopyAt.dsk {w w' : World} {D : Dk} {g c : Nat → Nat} (h : CopyAt w w' D D.arr.length g c) : ∃ F, Dsk w' w.heap.size D F ∧ (∀ k, F k → w.heap.size ≤ k) ∧ Upd (fun _ => False) w w' := by
  refine ⟨_, ⟨w.heap.size + 1, g, c, ⟨h.main, ?_, h.rows, by omega, ?_, ?_, h.inj⟩, fun _ => Iff.rfl⟩, ?_, h.upd⟩
  · rw [h.sec]
    congr 3
    refine List.map_congr_left (fun i hi => ?_)
    rw [if_pos (by simpa using hi)]
  · intro i hi; have := h.news i hi; omega
  · intro i hi; have := h.news i hi; omega
  · rintro k (rfl | rfl | ⟨i, hi, rfl⟩)
    · exact Nat.le_refl _
    · exact Nat.le_succ _
    · have := h.news i hi; omega

end Go.Proofs.Ytbimkhdiplnbfaa
