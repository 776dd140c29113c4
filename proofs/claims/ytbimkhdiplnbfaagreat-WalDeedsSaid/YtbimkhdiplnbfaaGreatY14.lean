/- Walks inside the fence: loads and stores of many cells. -/
import Derived.Test.YtbimkhdiplnbfaaGreatY3
import Derived.Test.YtbimkhdiplnbfaaGreatY13
import Derived.RangeFuncNested
import Derived.RangeFuncBound
import Derived.RangeFuncCalls
import Derived.RangeFuncLeaves
import Derived.Shelf.Abstract
import Derived.Shelf.RegionOpen
import Derived.OwnWalkIn
import Derived.TacticsInMore
import Derived.LoopNIn
import Derived.LoopIn
import Derived.OrdersIn
set_option linter.unusedVariables false
set_option linter.unusedSimpArgs false
namespace Go.Proofs.YtbimkhdiplnbfaaGreat
set_option maxRecDepth 1000000
set_option maxHeartbeats 16000000
section
open Go.RowKit
theorem wpListIn_exec {F : Fence} {n : Nat} {P : Program} {ops : Array Oper} {rest : List Oper} {o : Oper} {a : Act} {w w' : World} {v : Value} {Q : Exit → Act → World → Prop} (hg : o.guard = none) (hd : ∀ c, o.op ≠ .defer c)
  (ha : o.about P w a.eval = none) (h : (execOp a.eval o).run P w = .ok (.value v) w') (hK : wpListIn F n P ops Q rest (a.put o.dst v) w') : wpListIn F n P ops Q (o :: rest) a w :=
 wpListIn_plain hg fun K hk => by
  unfold Oper.wpIn
  rw [Oper.semAt_eq _ _ _ hd, h]
  exact ⟨fun f hf => (by rw [ha] at hf; cases hf), hk _ _ hK⟩
theorem wpListIn_exec_skip {F : Fence} {n : Nat} {P : Program} {ops : Array Oper} {rest : List Oper} {o : Oper} {a : Act} {w w' : World} {Q : Exit → Act → World → Prop} (hg : o.guard = none) (hd : ∀ c, o.op ≠ .defer c)
  (ha : o.about P w a.eval = none) (h : (execOp a.eval o).run P w = .ok .skip w') (hK : wpListIn F n P ops Q rest (a.put o.dst undef) w') : wpListIn F n P ops Q (o :: rest) a w :=
 wpListIn_plain hg fun K hk => by
  unfold Oper.wpIn
  rw [Oper.semAt_eq _ _ _ hd, h]
  exact ⟨fun f hf => (by rw [ha] at hf; cases hf), hk _ _ hK⟩
theorem run_store_mid' {P : Program} {o : Oper} {a : Act} {w : World} {b off : Nat} {ty : TypeId} {x y : Operand} {cells : Array Value} (ho : o.op = .store ty x y) (hx : a.eval x = .pointer (some ⟨b, off, none⟩)) (hy : a.eval y = .agg cells)
  (ht : w.there b off cells.size) (hi : (P.info? ty).map (·.size) = some cells.size) (h1 : cells.all (·.oneCell') = true) : (execOp a.eval o).run P w = .ok .skip (w.setCells b off cells.toList) := by
 unfold execOp
 simp only [ho, hx, hy, Instr.storeAt, Instr.sureAddr, Sem.run_bind, Sem.run_pure, Result.andThen_ok, run_storeVar_mid w b off ty cells ht hi h1]
end
section
open Go
section
variable {F : Fence} {m : Nat} {P : Program} {ops : Array Oper} {Q : Exit → Act → World → Prop} {md : Region.Mode} {A : World → Prop} {n : Nat}
def sOp (P : Program) (ops : Array Oper) (i : Nat) (K : Act → World → Prop) (a : Act) (w : World) : Prop :=
 match ops[i]? with
 |none => K a w
 |some o => (∀ c, o.op ≠ .defer c) ∧ o.about P w a.eval = none ∧
  if Region.wanted o (yielded ops a.tmps) then ∃ u w', ((execOp a.eval o).run P w = .ok (.value u) w' ∨ ((execOp a.eval o).run P w = .ok .skip w' ∧ u = undef)) ∧ K (a.put o.dst u) w'
  else K (a.put o.dst undef) w
theorem sOp_mono {i : Nat} {K K' : Act → World → Prop} {a : Act} {w : World} (h : ∀ a w, K a w → K' a w) (hh : sOp P ops i K a w) : sOp P ops i K' a w := by
 unfold sOp at *
 split
 ·rename_i e; simp only [e] at hh; exact h _ _ hh
 ·rename_i o e
  simp only [e] at hh
  obtain ⟨h1, h2, h3⟩ := hh
  refine ⟨h1, h2, ?_⟩
  split
  ·rename_i hw
   simp only [hw, if_true] at h3
   obtain ⟨u, w', h4, h5⟩ := h3
   exact ⟨u, w', h4, h _ _ h5⟩
  ·rename_i hw
   simp only [hw] at h3
   exact h _ _ h3
theorem wpOpIn_of_sOp {i : Nat} {K : Act → World → Prop} {a : Act} {w : World} (hh : sOp P ops i K a w) : wpOpIn F m P ops Q i K a w := by
 unfold sOp at hh
 unfold wpOpIn
 split
 ·rename_i e; simp only [e] at hh; exact hh
 ·rename_i o e
  simp only [e] at hh
  obtain ⟨h1, h2, h3⟩ := hh
  have ha : ∀ f, o.about P w a.eval = some f → F.fn f := fun f hf => by rw [h2] at hf; cases hf
  split
  ·rename_i hw
   simp only [hw, if_true] at h3
   obtain ⟨u, w', h4, h5⟩ := h3
   unfold Oper.wpIn
   rw [Oper.semAt_eq _ _ _ h1]
   refine ⟨ha, ?_⟩
   rcases h4 with h4 | ⟨h4, rfl⟩
   ·rw [h4]; exact h5
   ·rw [h4]; exact h5
  ·rename_i hw
   simp only [hw] at h3
   exact ⟨ha, h3⟩
theorem yieldsIf_sOp {S : World → Prop} {i : Nat} {o : Oper} {v : Value} {a : Act} (hi : ops[i]? = some o) (hd : ∀ c, o.op ≠ .defer c) (hab : ∀ (ρ : Operand → Value) (w : World), o.about P w ρ = none) (hy : YieldsIf P ops S o v a)
  {K : Act → World → Prop} {w : World} (hS : S w) (h : K (a.put o.dst v) w) : sOp P ops i K a w := by
 unfold sOp
 simp only [hi]
 refine ⟨hd, hab _ _, ?_⟩
 rcases hy with ⟨hw, hv⟩ | ⟨hw, rfl⟩
 ·simp only [hw, if_true]
  exact ⟨v, w, .inl (hv w hS), h⟩
 ·simp only [hw, Bool.false_eq_true, if_false]; exact h
theorem sOp_putIf {S : World → Prop} {j : Nat} {oi oj : Oper} {v : Value} (hj : ops[j]? = some oj) (hap : oi.apart ops oj = true)
  (hsi : ∀ cs b, oi.op ≠ .select cs b) (hsj : ∀ cs b, oj.op ≠ .select cs b) {K : Act → World → Prop} {a : Act} {w : World}
  (hy : YieldsIf P ops S oi v a) (h : sOp P ops j K (a.put oi.dst v) w) :
  sOp P ops j (fun a' w' => YieldsIf P ops S oi v a' ∧ K (a'.put oi.dst v) w') a w := by
 obtain ⟨h1, h2, h3⟩ := Oper.apart_spec hap
 have keep : ∀ (a : Act), YieldsIf P ops S oi v a → ∀ u, YieldsIf P ops S oi v (a.put oj.dst u) := fun a hy u =>
  hy.of_same (execOp_put oi hsi a oj.dst u h3) (wanted_put oi a oj.dst u h3)
 unfold sOp at *
 simp only [hj] at *
 rw [wanted_put oj a oi.dst v h1] at h
 obtain ⟨g1, g2, g3⟩ := h
 refine ⟨g1, ?_, ?_⟩
 ·rw [about_put oj w a oi.dst v h1] at g2; exact g2
 ·split
  ·rename_i hw
   simp only [hw, if_true] at g3
   rw [execOp_put oj hsj a oi.dst v h1] at g3
   obtain ⟨u, w', g4, g5⟩ := g3
   exact ⟨u, w', g4, keep a hy u, by rw [← Act.put_comm a v u h2]; exact g5⟩
  ·rename_i hw
   simp only [hw] at g3
   exact ⟨keep a hy _, by rw [← Act.put_comm a v undef h2]; exact g3⟩
def wpS (P : Program) (md : Region.Mode) (ops : Array Oper) (Q : Exit → Act → World → Prop) (n : Nat) (A : World → Prop) : Nat → Array Bool → Act → World → Prop
 | 0, L, a, w => Region.ready md ops L = [] ∧ Q .normal a w
 |f + 1, L, a, w => (Region.ready md ops L = [] → Q .normal a w) ∧
  ∀ i ∈ Region.ready md ops L, sOp P ops i (fun a' w' => ((L.setIfInBounds i true).getD n true = false → A w') ∧ wpS P md ops Q n A f (L.setIfInBounds i true) a' w') a w
theorem wpAnyIn_of_S : ∀ (f : Nat) (L : Array Bool) (a : Act) (w : World), wpS P md ops Q n A f L a w → wpAnyIn F m P md ops Q f L a w
 | 0, _, _, _, h => h
 |f + 1, _, _, _, h => ⟨h.1, fun i hi => wpOpIn_of_sOp (sOp_mono (fun a' w' h' => wpAnyIn_of_S f _ a' w' h'.2) (h.2 i hi))⟩
theorem wpS_first {i : Nat} {oi : Oper} {v : Value} (hi : ops[i]? = some oi) (hsel : ∀ (j : Nat) (o : Oper) cs b, ops[j]? = some o → o.op ≠ .select cs b)
  (hd : ∀ c, oi.op ≠ .defer c) (hab : ∀ (ρ : Operand → Value) (w : World), oi.about P w ρ = none) (hw : Region.waitsFor md ops n i = true) (hin : i ≠ n) :
  ∀ (f : Nat) (L : Array Bool) (a : Act) (w : World), ClosedL md ops L →
   (∀ j oj, ops[j]? = some oj → j ≠ i → L.getD j true = false → (∀ e ∈ oj.after, Region.binds md e = true → e.on ≠ i) → oi.apart ops oj = true) →
   i ∈ Region.ready md ops L → YieldsIf P ops A oi v a → A w →
   wpS P md ops Q n A f (L.setIfInBounds i true) (a.put oi.dst v) w → wpS P md ops Q n A (f + 1) L a w := by
 intro f
 induction f with
 |zero =>
  intro L a w hc _ hr hy hS H
  refine ⟨fun h => (by rw [h] at hr; cases hr), fun j hj => ?_⟩
  by_cases hji : j = i
  ·subst hji; exact yieldsIf_sOp hi hd hab hy hS ⟨fun _ => hS, H⟩
  ·have := ready_mono hj hji
   rw [H.1] at this
   cases this
 |succ f ih =>
  intro L a w hc hfree hr hy hS H
  refine ⟨fun h => (by rw [h] at hr; cases hr), fun j hj => ?_⟩
  by_cases hji : j = i
  ·subst hji; exact yieldsIf_sOp hi hd hab hy hS ⟨fun _ => hS, H⟩
  ·have h1 := H.2 j (ready_mono hj hji)
   obtain ⟨hjun, oj, hoj, hall⟩ := mem_ready.1 hj
   have hiun := (mem_ready.1 hr).1
   have hnot : ∀ e ∈ oj.after, Region.binds md e = true → e.on ≠ i := fun e he hb heq => by
    have h2 := hall e he hb
    rw [heq, getD_both hiun] at h2
    cases h2
   have h2 := sOp_putIf hoj (hfree j oj hoj hji hjun hnot) (fun cs b => hsel i oi cs b hi) (fun cs b => hsel j oj cs b hoj) hy h1
   have hc' := hc.set hj
   have hiun' : (L.setIfInBounds j true).getD i true = false := by rw [getD_set_ne true hji]; exact hiun
   have hn' : (L.setIfInBounds j true).getD n true = false := hc'.waits hw hiun'
   have hfree' : ∀ k ok, ops[k]? = some ok → k ≠ i → (L.setIfInBounds j true).getD k true = false →
     (∀ e ∈ ok.after, Region.binds md e = true → e.on ≠ i) → oi.apart ops ok = true := fun k ok hk hki hun hno => by
    refine hfree k ok hk hki ?_ hno
    by_cases hjk : j = k
    ·subst hjk; exact hjun
    ·rw [getD_set_ne true hjk] at hun; exact hun
   have hA : ∀ w', (((L.setIfInBounds i true).setIfInBounds j true).getD n true = false → A w') → A w' := fun w' h => h (by
    rw [Array.setIfInBounds_comm _ _ (Ne.symm hji), getD_set_ne true hin]; exact hn')
   refine sOp_mono (fun a' w' h3 => ⟨fun _ => hA w' h3.2.1, ih (L.setIfInBounds j true) a' w' hc' hfree' (ready_mono hr (Ne.symm hji)) h3.1 (hA w' h3.2.1) ?_⟩) h2
   rw [Array.setIfInBounds_comm _ _ hji]
   exact h3.2.2
theorem wpS_take {l : List Oper} {i : Nat} {oi : Oper} {v : Value} {f : Nat} {L : Array Bool} {a : Act} {w : World} (hi' : l[i]? = some oi)
  (hB : (Region.noSelect l.toArray && Region.waitsFor md l.toArray n i && closedB md l.toArray L && Region.free md l.toArray L i && (Region.ready md l.toArray L).contains i && !(i == n)) = true)
  (hd : ∀ c, oi.op ≠ .defer c) (hab : ∀ (ρ : Operand → Value) (w : World), oi.about P w ρ = none) (hA : A w) (hy : YieldsIf P l.toArray A oi v a)
  (h : wpS P md l.toArray Q n A f (L.setIfInBounds i true) (a.put oi.dst v) w) : wpS P md l.toArray Q n A (f + 1) L a w := by
 have hi : l.toArray[i]? = some oi := by simpa using hi'
 simp only [Bool.and_eq_true, Bool.not_eq_true', beq_eq_false_iff_ne] at hB
 obtain ⟨⟨⟨⟨⟨h1, h2⟩, h3⟩, h4⟩, h5⟩, h6⟩ := hB
 exact wpS_first hi (Region.noSelect_spec h1) hd hab h2 h6 f L a w (closedB_spec h3) (Region.free_spec hi h4) (by simpa using h5) hy hA h
theorem wpS_last {l : List Oper} {i : Nat} {oi : Oper} {L : Array Bool} {a : Act} {w : World} {u : Value} {w' : World} (hi' : l[i]? = some oi) (hr : Region.ready md l.toArray L = [i]) (hg : oi.guard = none) (hd : ∀ c, oi.op ≠ .defer c) (hab : oi.about P w a.eval = none)
  (hrun : (execOp a.eval oi).run P w = .ok (.value u) w' ∨ ((execOp a.eval oi).run P w = .ok .skip w' ∧ u = undef)) (hn : (L.setIfInBounds i true).getD n true = true) (hz : Region.ready md l.toArray (L.setIfInBounds i true) = [])
  (h : Q .normal (a.put oi.dst u) w') : wpS P md l.toArray Q n A 1 L a w := by
 have hi : l.toArray[i]? = some oi := by simpa using hi'
 refine ⟨fun h0 => (by rw [hr] at h0; cases h0), fun j hj => ?_⟩
 rw [hr] at hj
 have hji : j = i := by simpa using hj
 subst hji
 unfold sOp
 simp only [hi, Region.wanted, hg, if_true]
 exact ⟨hd, hab, u, w', hrun, fun hx => (by rw [hn] at hx; cases hx), hz, h⟩
theorem wpIn_region_S {id : Nat} {l : List Oper} {a : Act} {w : World} (n : Nat) (A : World → Prop) (L : List Bool) (hL : L = List.replicate l.length false) (hm : P.follows .mixedOrders = true)
  (h : wpS P .any l.toArray Q n A l.length L.toArray a w.drew) : (Code.region id l.toArray true).wpIn F m P Q a w := by
 subst hL
 exact wpIn_region_any hm (wpAnyIn_of_S _ _ _ _ (by simpa using h))
end
end
end Go.Proofs.YtbimkhdiplnbfaaGreat
