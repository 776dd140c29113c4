/- Walks of the disk: the sorted row in memory. -/
import Derived.Test.YtbimkhdiplnbfaaGreatY12
import Derived.Shelf.GgSortFunc.InsertionK
set_option linter.unusedVariables false
set_option linter.unusedSimpArgs false
namespace Go.Proofs.YtbimkhdiplnbfaaGreat
set_option maxRecDepth 1000000
set_option maxHeartbeats 16000000
section
open Go.RowKit Go.Sort
theorem upd_sort {α : Type} [Inhabited α] (enc : α → List Value) (k : Nat) (w : World) (blk off n : Nat) (d : Array α) (os : Array Obj) : Upd (fun j => j = blk) w (sortWorldK enc k w blk off n d os) := by
 refine ⟨rfl, rfl, rfl, ?_, fun j hj hne => ?_⟩
 ·simp [sortWorldK, grow, putRowK, putRow, mapBlock]
 ·have hsz : (w.heap.modify blk (onCells (putCells id off (flatK enc k d)))).size = w.heap.size := by simp
  show ((w.heap.modify blk (onCells (putCells id off (flatK enc k d)))) ++ os)[j]? = _
  rw [Array.getElem?_append_left (by omega), Array.getElem?_modify]
  have : ¬ blk = j := fun e => hne e.symm
  simp [this]
theorem get!_of {l : List Value} {c : Nat} {v : Value} (h : l[c]? = some v) : l[c]! = v := by
 rw [List.getElem!_eq_getElem?_getD, h]; rfl
theorem rangeAt_holdsK {α : Type} [Inhabited α] {enc : α → List Value} {k : Nat} {w : World} {blk : Nat} {d : Array α} (h : HoldsK enc k w blk 0 d) {i : Nat} (hi : i < d.size) (hk : ∀ x, (enc x).length = k) :
  w.rangeAt blk (i * k) (enc d[i]!) := by
 intro c v hv
 have hc : c < k := by rw [← hk d[i]!]; exact (List.getElem?_eq_some_iff.1 hv).1
 have := (h.cell hi hc).1
 rw [get!_of hv] at this
 simpa using this
theorem holdsK_of_own {w : World} {B g cap : Nat} {d : Array El} (h : w.ownsRow B 221 66 (.slice (some ⟨g, 0, none⟩) d.size cap) d.size (d.toList.flatMap encE)) : HoldsK encE 66 w g 0 d := by
 intro t ht
 rw [size_flatK] at ht
 rw [get_flatK _ _ _ _ ht]
 have hi : t / 66 < d.size := by omega
 have hf := h.frozenAt t
 have hc := h.cellAt t ht
 refine ⟨?_, by simpa using hf⟩
 have e : ∀ (l : List El) (t : Nat) (x : El), l[t / 66]? = some x → (l.flatMap encE)[t]? = (encE x)[t % 66]? := by
  intro l
  induction l with
  |nil => intro t x hx; simp at hx
  |cons y l ih =>
   intro t x hx
   have hy := encE_length y
   rw [List.flatMap_cons]
   by_cases h1 : t < 66
   ·have e0 : t / 66 = 0 := by omega
    rw [e0] at hx
    simp at hx
    rw [List.getElem?_append_left (by omega), hx, Nat.mod_eq_of_lt h1]
   ·have e0 : t / 66 = (t - 66) / 66 + 1 := by omega
    have e1 : t % 66 = (t - 66) % 66 := by omega
    rw [e0] at hx
    rw [List.getElem?_append_right (by omega), hy, e1]
    exact ih _ _ (by simpa using hx)
 have hx : d.toList[t / 66]? = some d[t / 66]! := by
  rw [getElem!_pos d _ hi]
  simp [hi]
 have h2 := e _ _ _ hx
 have h3 : (encE d[t / 66]!)[t % 66]? = some ((encE d[t / 66]!)[t % 66]!) := by
  have : t % 66 < (encE d[t / 66]!).length := by rw [encE_length]; omega
  rw [List.getElem!_eq_getElem?_getD, List.getElem?_eq_getElem this]; rfl
 rw [h2, h3] at hc
 simpa using hc
end
end Go.Proofs.YtbimkhdiplnbfaaGreat
