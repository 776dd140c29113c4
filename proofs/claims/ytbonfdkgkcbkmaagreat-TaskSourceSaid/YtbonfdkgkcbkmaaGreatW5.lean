/- A region that draws its order and ends in a forced tail: while the tail has not begun, A holds of every world; what yields one value wherever A holds may be taken first. -/
import Derived.OrdersHeld
import Derived.StillTail
import Derived.Tactics
set_option linter.unusedVariables false
set_option linter.unusedSimpArgs false

section
namespace Go.Proofs.YtbonfdkgkcbkmaaGreat
set_option maxRecDepth 100000
open Go

section
variable {P : Program} {ops : Array Oper} {Q : Exit → Act → World → Prop} {md : Region.Mode} {A : World → Prop} {n : Nat}

/-- What has come up has behind it all that it waits for. -/
def ClosedL (md : Region.Mode) (ops : Array Oper) (L : Array Bool) : Prop :=
  L.size = ops.size ∧ ∀ j oj, ops[j]? = some oj → L.getD j false = true → ∀ e ∈ oj.after, Region.binds md e = true → L.getD e.on false = true

theorem ClosedL.set {L : Array Bool} (h : ClosedL md ops L) {j : Nat} (hj : j ∈ Region.ready md ops L) : ClosedL md ops (L.setIfInBounds j true) := by
  obtain ⟨_, oj, hoj, hall⟩ := mem_ready.1 hj
  refine ⟨by simp [h.1], fun k ok hk hl e he hb => ?_⟩
  by_cases hkj : j = k
  · subst hkj
    have : ok = oj := Option.some.inj (hk.symm.trans hoj)
    subst this
    exact getD_set_true (hall e he hb)
  · rw [getD_set_ne false hkj] at hl
    exact getD_set_true (h.2 k ok hk hl e he hb)

theorem ClosedL.waits {L : Array Bool} (h : ClosedL md ops L) {i : Nat} (hw : Region.waitsFor md ops n i = true) (hi : L.getD i true = false) : L.getD n true = false := by
  obtain ⟨on, hon, e, he, hb, hoi⟩ := Region.waitsFor_spec hw
  have hn : n < L.size := by rw [h.1]; exact (Array.getElem?_eq_some_iff.1 hon).1
  cases hl : L.getD n true with
  | false => rfl
  | true =>
    have hl' : L.getD n false = true := by
      simp [hn] at hl ⊢; exact hl
    have := h.2 n on hon hl' e he hb
    rw [hoi, getD_both hi] at this
    cases this

/-- Whatever order is picked from here on, and A holds behind every operation till number n has come up. -/
def wpG (P : Program) (md : Region.Mode) (ops : Array Oper) (Q : Exit → Act → World → Prop) (n : Nat) (A : World → Prop) : Nat → Array Bool → Act → World → Prop
  | 0, L, a, w => Region.ready md ops L = [] ∧ Q .normal a w
  | f + 1, L, a, w => (Region.ready md ops L = [] → Q .normal a w) ∧
    ∀ i ∈ Region.ready md ops L, wpOp P ops Q i (fun a' w' => ((L.setIfInBounds i true).getD n true = false → A w') ∧ wpG P md ops Q n A f (L.setIfInBounds i true) a' w') a w

theorem wpAny_of_G : ∀ (f : Nat) (L : Array Bool) (a : Act) (w : World), wpG P md ops Q n A f L a w → wpAny P md ops Q f L a w
  | 0, _, _, _, h => h
  | f + 1, _, _, _, h => ⟨h.1, fun i hi => wpOp_mono (fun a' w' h' => wpAny_of_G f _ a' w' h'.2) (h.2 i hi)⟩

def closedB (md : Region.Mode) (ops : Array Oper) (L : Array Bool) : Bool :=
  decide (L.size = ops.size) && (List.range ops.size).all fun j => !L.getD j false || match ops[j]? with
    | some oj => oj.after.all fun e => !Region.binds md e || L.getD e.on false
    | none => true

theorem closedB_spec {L : Array Bool} (h : closedB md ops L = true) : ClosedL md ops L := by
  simp only [closedB, Bool.and_eq_true, decide_eq_true_eq, List.all_eq_true, List.mem_range] at h
  refine ⟨h.1, fun j oj hj hl e he hb => ?_⟩
  have h1 := h.2 j (Array.getElem?_eq_some_iff.1 hj).1
  rw [hl, hj] at h1
  simp only [Bool.not_true, Bool.false_or, Array.all_eq_true'] at h1
  have h2 := h1 e he
  rw [hb] at h2
  simpa using h2

/-- The one that comes up now: carried out, and A shown anew. -/
theorem wpG_do {l : List Oper} {i : Nat} {oi : Oper} {f : Nat} {L : Array Bool} {a : Act} {w : World} (hi' : l[i]? = some oi) (hr : Region.ready md l.toArray L = [i]) (hg : oi.guard = none)
    (h : ∀ K : Act → World → Prop, (∀ a' w', A w' → wpG P md l.toArray Q n A f (L.setIfInBounds i true) a' w' → K a' w') → oi.wp P a w K Q) : wpG P md l.toArray Q n A (f + 1) L a w := by
  have hi : l.toArray[i]? = some oi := by simpa using hi'
  refine ⟨fun h0 => (by rw [hr] at h0; cases h0), fun j hj => ?_⟩
  rw [hr] at hj
  have hji : j = i := by simpa using hj
  subst hji
  unfold wpOp
  simp only [hi, Region.wanted, hg, if_true]
  exact .inl (h _ (fun a' w' h1 h2 => ⟨fun _ => h1, h2⟩))

theorem listedN {L : Array Bool} {k : Nat} (h : L.getD n true = true ∨ k = n) : (L.setIfInBounds k true).getD n true = true := by
  by_cases hk : k = n
  · subst hk
    rcases Nat.lt_or_ge k L.size with h' | h'
    · simp [h']
    · simp
  · rw [getD_set_ne true hk]
    exact h.resolve_right hk

/-- The tail: one behind the other. -/
theorem wpG_tail : ∀ (l : List Oper) (k : Nat) (L : Array Bool) (a : Act) (w : World), (∀ j, l[j]? = ops[k + j]?) → L.getD n true = true ∨ k = n →
    Region.seqB md ops l.length k L = true → wpList P ops Q l a w → wpG P md ops Q n A l.length L a w
  | [], _, _, _, _, _, _, hB, h => ⟨by simpa [Region.seqB] using hB, h⟩
  | o :: l, k, L, a, w, hl, hn, hB, h => by
    have h0 : ops[k]? = some o := by simpa using (hl 0).symm
    simp only [List.length_cons, Region.seqB, Bool.and_eq_true, decide_eq_true_eq] at hB
    refine ⟨fun h1 => (by rw [hB.1] at h1; cases h1), fun i hi => ?_⟩
    rw [hB.1] at hi
    have hik : i = k := by simpa using hi
    subst hik
    have hw : wpOp P ops Q i (wpList P ops Q l) a w := by unfold wpOp; simp only [h0]; exact h
    have hn' := listedN hn
    exact wpOp_mono (fun a' w' h' => ⟨fun hx => (by rw [hn'] at hx; cases hx), wpG_tail l (i + 1) _ a' w' (fun j => by have := hl (j + 1); simpa [Nat.add_assoc, Nat.add_comm 1 j] using this) (.inl hn') hB.2 h'⟩) hw

/-- Where the tail begins: what is left, as a list. -/
theorem wpG_tail_lit {l : List Oper} {f k : Nat} {L : Array Bool} {a : Act} {w : World} (hk : k = n) (hf : (l.drop k).length = f) (hB : Region.seqB md l.toArray f k L = true)
    (h : wpList P l.toArray Q (l.drop k) a w) : wpG P md l.toArray Q n A f L a w := by
  subst hf
  exact wpG_tail (l.drop k) k L a w (fun j => by simp) (.inr hk) hB h

/-- THE BEGINNING. -/
theorem wp_region_G {id : Nat} {l : List Oper} {a : Act} {w : World} (n : Nat) (A : World → Prop) (L : List Bool) (hL : L = List.replicate l.length false) (hm : P.follows .mixedOrders = true)
    (h : wpG P .any l.toArray Q n A l.length L.toArray a w.drew) : (Code.region id l.toArray true).wp P Q a w := by
  subst hL
  exact wp_region_any hm (wpAny_of_G _ _ _ _ (by simpa using h))

end
end Go.Proofs.YtbonfdkgkcbkmaaGreat
end

section
namespace Go.Proofs.YtbonfdkgkcbkmaaGreat
set_option maxRecDepth 100000
open Go

theorem wpG_doIf {P : Program} {Q : Exit → Act → World → Prop} {md : Region.Mode} {A : World → Prop} {n : Nat} {l : List Oper} {i : Nat} {oi : Oper} {f : Nat} {L : Array Bool} {a : Act} {w : World} (hi' : l[i]? = some oi) (hr : Region.ready md l.toArray L = [i]) (hg : Region.wanted oi (yielded l.toArray a.tmps) = true)
    (h : ∀ K : Act → World → Prop, (∀ a' w', A w' → wpG P md l.toArray Q n A f (L.setIfInBounds i true) a' w' → K a' w') → oi.wp P a w K Q) : wpG P md l.toArray Q n A (f + 1) L a w := by
  have hi : l.toArray[i]? = some oi := by simpa using hi'
  refine ⟨fun h0 => (by rw [hr] at h0; cases h0), fun j hj => ?_⟩
  rw [hr] at hj
  have hji : j = i := by simpa using hj
  subst hji
  unfold wpOp
  simp only [hi, hg, if_true]
  exact .inl (h _ (fun a' w' h1 h2 => ⟨fun _ => h1, h2⟩))

end Go.Proofs.YtbonfdkgkcbkmaaGreat
end

section
namespace Go.Proofs.YtbonfdkgkcbkmaaGreat
set_option maxRecDepth 100000
open Go

section
variable {P : Program} {ops : Array Oper} {Q : Exit → Act → World → Prop} {md : Region.Mode} {A : World → Prop} {n : Nat}

theorem wpG_firstT {i : Nat} {oi : Oper} {v : Value} (hi : ops[i]? = some oi) (hsel : ∀ (j : Nat) (o : Oper) cs b, ops[j]? = some o → o.op ≠ .select cs b)
    (hQ : ∀ c a w, Q (.panic c) (a.put oi.dst v) w → Q (.panic c) a w) (hw : ∀ L, ClosedL md ops L → L.getD i true = false → L.getD n true = false) (hin : i ≠ n) :
    ∀ (f : Nat) (L : Array Bool) (a : Act) (w : World), ClosedL md ops L →
      (∀ j oj, ops[j]? = some oj → j ≠ i → L.getD j true = false → (∀ e ∈ oj.after, Region.binds md e = true → e.on ≠ i) → oi.apart ops oj = true) →
      i ∈ Region.ready md ops L → YieldsIf P ops A oi v a → A w →
      wpG P md ops Q n A f (L.setIfInBounds i true) (a.put oi.dst v) w → wpG P md ops Q n A (f + 1) L a w := by
  intro f
  induction f with
  | zero =>
    intro L a w hc _ hr hy hS H
    refine ⟨fun h => (by rw [h] at hr; cases hr), fun j hj => ?_⟩
    by_cases hji : j = i
    · subst hji; exact hy.wpOp hi hS ⟨fun _ => hS, H⟩
    · have := ready_mono hj hji
      rw [H.1] at this
      cases this
  | succ f ih =>
    intro L a w hc hfree hr hy hS H
    refine ⟨fun h => (by rw [h] at hr; cases hr), fun j hj => ?_⟩
    by_cases hji : j = i
    · subst hji; exact hy.wpOp hi hS ⟨fun _ => hS, H⟩
    · have h1 := H.2 j (ready_mono hj hji)
      obtain ⟨hjun, oj, hoj, hall⟩ := mem_ready.1 hj
      have hiun := (mem_ready.1 hr).1
      have hnot : ∀ e ∈ oj.after, Region.binds md e = true → e.on ≠ i := fun e he hb heq => by
        have h2 := hall e he hb
        rw [heq, getD_both hiun] at h2
        cases h2
      have h2 := wpOp_putIf hoj (hfree j oj hoj hji hjun hnot) (fun cs b => hsel i oi cs b hi) (fun cs b => hsel j oj cs b hoj) hQ hy h1
      have hc' := hc.set hj
      have hiun' : (L.setIfInBounds j true).getD i true = false := by rw [getD_set_ne true hji]; exact hiun
      have hn' : (L.setIfInBounds j true).getD n true = false := hw _ hc' hiun'
      have hfree' : ∀ k ok, ops[k]? = some ok → k ≠ i → (L.setIfInBounds j true).getD k true = false →
          (∀ e ∈ ok.after, Region.binds md e = true → e.on ≠ i) → oi.apart ops ok = true := fun k ok hk hki hun hno => by
        refine hfree k ok hk hki ?_ hno
        by_cases hjk : j = k
        · subst hjk; exact hjun
        · rw [getD_set_ne true hjk] at hun; exact hun
      have hA : ∀ w', (((L.setIfInBounds i true).setIfInBounds j true).getD n true = false → A w') → A w' := fun w' h => h (by
        rw [Array.setIfInBounds_comm _ _ (Ne.symm hji), getD_set_ne true hin]; exact hn')
      refine wpOp_mono (fun a' w' h3 => ⟨fun _ => hA w' h3.2.1, ih (L.setIfInBounds j true) a' w' hc' hfree' (ready_mono hr (Ne.symm hji)) h3.1 (hA w' h3.2.1) ?_⟩) h2
      rw [Array.setIfInBounds_comm _ _ hji]
      exact h3.2.2

/-- TAKE number i first; number n waits for it through others. -/
theorem wpG_takeT {l : List Oper} {i : Nat} {oi : Oper} {v : Value} {f : Nat} {L : Array Bool} {a : Act} {w : World} (hi' : l[i]? = some oi)
    (hw : ∀ L, ClosedL md l.toArray L → L.getD i true = false → L.getD n true = false)
    (hB : (Region.noSelect l.toArray && closedB md l.toArray L && Region.free md l.toArray L i && (Region.ready md l.toArray L).contains i && !(i == n)) = true)
    (hQ : ∀ c a w, Q (.panic c) (a.put oi.dst v) w → Q (.panic c) a w) (hA : A w) (hy : YieldsIf P l.toArray A oi v a)
    (h : wpG P md l.toArray Q n A f (L.setIfInBounds i true) (a.put oi.dst v) w) : wpG P md l.toArray Q n A (f + 1) L a w := by
  have hi : l.toArray[i]? = some oi := by simpa using hi'
  simp only [Bool.and_eq_true, Bool.not_eq_true', beq_eq_false_iff_ne] at hB
  obtain ⟨⟨⟨⟨h1, h3⟩, h4⟩, h5⟩, h6⟩ := hB
  exact wpG_firstT hi (Region.noSelect_spec h1) hQ hw h6 f L a w (closedB_spec h3) (Region.free_spec hi h4) (by simpa using h5) hy hA h

end
end Go.Proofs.YtbonfdkgkcbkmaaGreat
end

section
namespace Go.Proofs.YtbonfdkgkcbkmaaGreat
set_option maxRecDepth 100000
open Go

theorem wpG_do2 {P : Program} {Q : Exit → Act → World → Prop} {md : Region.Mode} {A : World → Prop} {n : Nat} {l : List Oper} {i j : Nat} {oi oj : Oper} {f : Nat} {L : Array Bool} {a : Act} {w : World} (hi' : l[i]? = some oi) (hj' : l[j]? = some oj) (hr : Region.ready md l.toArray L = [i, j]) (hgi : oi.guard = none) (hgj : oj.guard = none)
    (h1 : ∀ K : Act → World → Prop, (∀ a' w', A w' → wpG P md l.toArray Q n A f (L.setIfInBounds i true) a' w' → K a' w') → oi.wp P a w K Q)
    (h2 : ∀ K : Act → World → Prop, (∀ a' w', A w' → wpG P md l.toArray Q n A f (L.setIfInBounds j true) a' w' → K a' w') → oj.wp P a w K Q) : wpG P md l.toArray Q n A (f + 1) L a w := by
  have hi : l.toArray[i]? = some oi := by simpa using hi'
  have hj : l.toArray[j]? = some oj := by simpa using hj'
  refine ⟨fun h0 => (by rw [hr] at h0; cases h0), fun k hk => ?_⟩
  rw [hr] at hk
  have hkk : k = i ∨ k = j := by simpa using hk
  unfold wpOp
  rcases hkk with rfl | rfl
  · simp only [hi, Region.wanted, hgi, if_true]
    exact .inl (h1 _ (fun a' w' g1 g2 => ⟨fun _ => g1, g2⟩))
  · simp only [hj, Region.wanted, hgj, if_true]
    exact .inl (h2 _ (fun a' w' g1 g2 => ⟨fun _ => g1, g2⟩))

end Go.Proofs.YtbonfdkgkcbkmaaGreat
end

section
namespace Go.Proofs.YtbonfdkgkcbkmaaGreat
set_option maxRecDepth 100000
set_option maxRecDepth 100000
open Go

section
variable {P : Program} {ops : Array Oper} {Q : Exit → Act → World → Prop} {md : Region.Mode} {A : World → Prop} {n : Nat}

theorem wpG_firstP {i : Nat} {oi : Oper} {v : Value} (hi : ops[i]? = some oi) (hsel : ∀ (j : Nat) (o : Oper) cs b, ops[j]? = some o → o.op ≠ .select cs b)
    (hQ : ∀ c a w, Q (.panic c) (a.put oi.dst v) w → Q (.panic c) a w) (hin : i ≠ n) :
    ∀ (f : Nat) (L : Array Bool) (a : Act) (w : World),
      (∀ j oj, ops[j]? = some oj → j ≠ i → L.getD j true = false → (∀ e ∈ oj.after, Region.binds md e = true → e.on ≠ i) → oi.apart ops oj = true) →
      i ∈ Region.ready md ops L → YieldsIf P ops (fun _ => True) oi v a → (L.getD n true = false → A w) →
      wpG P md ops Q n A f (L.setIfInBounds i true) (a.put oi.dst v) w → wpG P md ops Q n A (f + 1) L a w := by
  intro f
  induction f with
  | zero =>
    intro L a w _ hr hy hS H
    refine ⟨fun h => (by rw [h] at hr; cases hr), fun j hj => ?_⟩
    by_cases hji : j = i
    · subst hji; exact hy.wpOp hi trivial ⟨fun hx => hS (by rwa [getD_set_ne true hin] at hx), H⟩
    · have := ready_mono hj hji
      rw [H.1] at this
      cases this
  | succ f ih =>
    intro L a w hfree hr hy hS H
    refine ⟨fun h => (by rw [h] at hr; cases hr), fun j hj => ?_⟩
    by_cases hji : j = i
    · subst hji; exact hy.wpOp hi trivial ⟨fun hx => hS (by rwa [getD_set_ne true hin] at hx), H⟩
    · have h1 := H.2 j (ready_mono hj hji)
      obtain ⟨hjun, oj, hoj, hall⟩ := mem_ready.1 hj
      have hiun := (mem_ready.1 hr).1
      have hnot : ∀ e ∈ oj.after, Region.binds md e = true → e.on ≠ i := fun e he hb heq => by
        have h2 := hall e he hb
        rw [heq, getD_both hiun] at h2
        cases h2
      have h2 := wpOp_putIf hoj (hfree j oj hoj hji hjun hnot) (fun cs b => hsel i oi cs b hi) (fun cs b => hsel j oj cs b hoj) hQ hy h1
      have hfree' : ∀ k ok, ops[k]? = some ok → k ≠ i → (L.setIfInBounds j true).getD k true = false →
          (∀ e ∈ ok.after, Region.binds md e = true → e.on ≠ i) → oi.apart ops ok = true := fun k ok hk hki hun hno => by
        refine hfree k ok hk hki ?_ hno
        by_cases hjk : j = k
        · subst hjk; exact hjun
        · rw [getD_set_ne true hjk] at hun; exact hun
      have hA : ∀ w', (((L.setIfInBounds i true).setIfInBounds j true).getD n true = false → A w') → (L.setIfInBounds j true).getD n true = false → A w' := fun w' h hx => h (by
        rw [Array.setIfInBounds_comm _ _ (Ne.symm hji), getD_set_ne true hin]; exact hx)
      refine wpOp_mono (fun a' w' h3 => ⟨hA w' h3.2.1, ih (L.setIfInBounds j true) a' w' hfree' (ready_mono hr (Ne.symm hji)) h3.1 (hA w' h3.2.1) ?_⟩) h2
      rw [Array.setIfInBounds_comm _ _ hji]
      exact h3.2.2

/-- TAKE number i first: it looks at no world. -/
theorem wpG_takeP {l : List Oper} {i : Nat} {oi : Oper} {v : Value} {f : Nat} {L : Array Bool} {a : Act} {w : World} (hi' : l[i]? = some oi)
    (hB : (Region.noSelect l.toArray && Region.free md l.toArray L i && (Region.ready md l.toArray L).contains i && !(i == n)) = true)
    (hQ : ∀ c a w, Q (.panic c) (a.put oi.dst v) w → Q (.panic c) a w) (hA : A w) (hy : YieldsIf P l.toArray (fun _ => True) oi v a)
    (h : wpG P md l.toArray Q n A f (L.setIfInBounds i true) (a.put oi.dst v) w) : wpG P md l.toArray Q n A (f + 1) L a w := by
  have hi : l.toArray[i]? = some oi := by simpa using hi'
  simp only [Bool.and_eq_true, Bool.not_eq_true', beq_eq_false_iff_ne] at hB
  obtain ⟨⟨⟨h1, h4⟩, h5⟩, h6⟩ := hB
  exact wpG_firstP hi (Region.noSelect_spec h1) hQ h6 f L a w (Region.free_spec hi h4) (by simpa using h5) hy (fun _ => hA) h

end
end Go.Proofs.YtbonfdkgkcbkmaaGreat
end

