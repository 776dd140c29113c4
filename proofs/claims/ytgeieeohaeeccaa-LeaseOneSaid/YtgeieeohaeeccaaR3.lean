/- R0's rule once more: what is taken first may be waited for through others. -/
import Derived.Test.YtgeieeohaeeccaaR2
namespace Go.Proofs.Ytgeieeohaeeccaa
open Go

section
variable {P : Program} {ops : Array Oper} {Q : Exit → Act → World → Prop} {md : Region.Mode} {A : World → Prop} {n : Nat}

theorem wpG_firstT {i : Nat} {oi : Oper} {v : Value} (hi : ops[i]? = some oi) (hsel : ∀ (j : Nat) (o : Oper) cs b, ops[j]? = some o → o.op ≠ .select cs b)
    (hQ : ∀ c a w, Q (.panic c) (a.put oi.dst v) w → Q (.panic c) a w) (hw : ∀ L, ClosedL md ops L → L.getD i true = false → L.getD n true = false) (hin : i ≠ n) :
    ∀ (f : Nat) (L : Array Bool) (a : Act) (w : World), ClosedL md ops L →
      (∀ j oj, ops[j]? = some oj → j ≠ i → L.getD j true = false → (∀ e ∈ oj.after, Region.binds md e = true → e.on ≠ i) → oi.apart ops oj = true) →
      i ∈ Region.ready md ops L → YieldsIf P ops A oi v a → A w →
      wpG P md ops Q n A f (L.setIfInBounds i true) (a.put oi.dst v) w → wpG P md ops Q n A (f + 1) L a w := by
  intro f
  induction f with
  | zero =>
    intro L a w hc _ hr hy hS H
    refine ⟨fun h => (by rw [h] at hr; cases hr), fun j hj => ?_⟩
    by_cases hji : j = i
    · subst hji; exact hy.wpOp hi hS ⟨fun _ => hS, H⟩
    · have := ready_mono hj hji
      rw [H.1] at this
      cases this
  | succ f ih =>
    intro L a w hc hfree hr hy hS H
    refine ⟨fun h => (by rw [h] at hr; cases hr), fun j hj => ?_⟩
    by_cases hji : j = i
    · subst hji; exact hy.wpOp hi hS ⟨fun _ => hS, H⟩
    · have h1 := H.2 j (ready_mono hj hji)
      obtain ⟨hjun, oj, hoj, hall⟩ := mem_ready.1 hj
      have hiun := (mem_ready.1 hr).1
      have hnot : ∀ e ∈ oj.after, Region.binds md e = true → e.on ≠ i := fun e he hb heq => by
        have h2 := hall e he hb
        rw [heq, getD_both hiun] at h2
        cases h2
      have h2 := wpOp_putIf hoj (hfree j oj hoj hji hjun hnot) (fun cs b => hsel i oi cs b hi) (fun cs b => hsel j oj cs b hoj) hQ hy h1
      have hc' := hc.set hj
      have hiun' : (L.setIfInBounds j true).getD i true = false := by rw [getD_set_ne true hji]; exact hiun
      have hn' : (L.setIfInBounds j true).getD n true = false := hw _ hc' hiun'
      have hfree' : ∀ k ok, ops[k]? = some ok → k ≠ i → (L.setIfInBounds j true).getD k true = false →
          (∀ e ∈ ok.after, Region.binds md e = true → e.on ≠ i) → oi.apart ops ok = true := fun k ok hk hki hun hno => by
        refine hfree k ok hk hki ?_ hno
        by_cases hjk : j = k
        · subst hjk; exact hjun
        · rw [getD_set_ne true hjk] at hun; exact hun
      have hA : ∀ w', (((L.setIfInBounds i true).setIfInBounds j true).getD n true = false → A w') → A w' := fun w' h => h (by
        rw [Array.setIfInBounds_comm _ _ (Ne.symm hji), getD_set_ne true hin]; exact hn')
      refine wpOp_mono (fun a' w' h3 => ⟨fun _ => hA w' h3.2.1, ih (L.setIfInBounds j true) a' w' hc' hfree' (ready_mono hr (Ne.symm hji)) h3.1 (hA w' h3.2.1) ?_⟩) h2
      rw [Array.setIfInBounds_comm _ _ hji]
      exact h3.2.2

/-- TAKE number i first; number n waits for it through others. -/
theorem wpG_takeT {l : List Oper} {i : Nat} {oi : Oper} {v : Value} {f : Nat} {L : Array Bool} {a : Act} {w : World} (hi' : l[i]? = some oi)
    (hw : ∀ L, ClosedL md l.toArray L → L.getD i true = false → L.getD n true = false)
    (hB : (Region.noSelect l.toArray && closedB md l.toArray L && Region.free md l.toArray L i && (Region.ready md l.toArray L).contains i && !(i == n)) = true)
    (hQ : ∀ c a w, Q (.panic c) (a.put oi.dst v) w → Q (.panic c) a w) (hA : A w) (hy : YieldsIf P l.toArray A oi v a)
    (h : wpG P md l.toArray Q n A f (L.setIfInBounds i true) (a.put oi.dst v) w) : wpG P md l.toArray Q n A (f + 1) L a w := by
  have hi : l.toArray[i]? = some oi := by simpa using hi'
  simp only [Bool.and_eq_true, Bool.not_eq_true', beq_eq_false_iff_ne] at hB
  obtain ⟨⟨⟨⟨h1, h3⟩, h4⟩, h5⟩, h6⟩ := hB
  exact wpG_firstT hi (Region.noSelect_spec h1) hQ hw h6 f L a w (closedB_spec h3) (Region.free_spec hi h4) (by simpa using h5) hy hA h

end
end Go.Proofs.Ytgeieeohaeeccaa
