/- Walks of the disk: row's iterator. -/
import Derived.Test.YtbimkhdiplnbfaaGreatY14
import Derived.Sort.LoopGhostIn
import Derived.Sort.CutIn
set_option linter.unusedVariables false
set_option linter.unusedSimpArgs false

namespace Go.Proofs.YtbimkhdiplnbfaaGreat
set_option maxRecDepth 100000
open Go.RowKit Go.Shelf

attribute [local go_sem] Oper.semAt_some

/-- What a round keeps: the blocks that S names. -/
def Keep (S : Nat → Prop) (W W' : World) : Prop := ∀ k, S k → W'.heap[k]? = W.heap[k]?
theorem Keep.refl (S : Nat → Prop) (W : World) : Keep S W W := fun _ _ => rfl
theorem Keep.trans {S : Nat → Prop} {A B C : World} (h : Keep S A B) (k : Keep S B C) : Keep S A C := fun j hj => (k j hj).trans (h j hj)
theorem Keep.lt {S : Nat → Prop} {W W' : World} (h : Keep S W W') {k : Nat} (hk : S k) (hl : k < W.heap.size) : k < W'.heap.size := by
  have := h k hk
  rw [Array.getElem?_eq_getElem hl] at this
  exact (Array.getElem?_eq_some_iff.1 this).1
theorem Keep.cell {S : Nat → Prop} {W W' : World} (h : Keep S W W') {k o : Nat} (hk : S k) : W'.cell? ⟨k, o, none⟩ = W.cell? ⟨k, o, none⟩ := by
  simp [World.cell?, h k hk]
theorem Keep.rangeAt {S : Nat → Prop} {W W' : World} (h : Keep S W W') {k o : Nat} {cs : List Value} (hk : S k) (hr : W.rangeAt k o cs) : W'.rangeAt k o cs := fun j v hv => (h.cell hk).trans (hr j v hv)

end Go.Proofs.YtbimkhdiplnbfaaGreat
