/- Regions that draw their order: a guarded operation that is wanted, carried out. -/
import Derived.Test.YtgeieeohaeeccaaR0
namespace Go.Proofs.Ytgeieeohaeeccaa
open Go

theorem wpG_doIf {P : Program} {Q : Exit → Act → World → Prop} {md : Region.Mode} {A : World → Prop} {n : Nat} {l : List Oper} {i : Nat} {oi : Oper} {f : Nat} {L : Array Bool} {a : Act} {w : World} (hi' : l[i]? = some oi) (hr : Region.ready md l.toArray L = [i]) (hg : Region.wanted oi (yielded l.toArray a.tmps) = true)
    (h : ∀ K : Act → World → Prop, (∀ a' w', A w' → wpG P md l.toArray Q n A f (L.setIfInBounds i true) a' w' → K a' w') → oi.wp P a w K Q) : wpG P md l.toArray Q n A (f + 1) L a w := by
  have hi : l.toArray[i]? = some oi := by simpa using hi'
  refine ⟨fun h0 => (by rw [hr] at h0; cases h0), fun j hj => ?_⟩
  rw [hr] at hj
  have hji : j = i := by simpa using hj
  subst hji
  unfold wpOp
  simp only [hi, hg, if_true]
  exact .inl (h _ (fun a' w' h1 h2 => ⟨fun _ => h1, h2⟩))

end Go.Proofs.Ytgeieeohaeeccaa
