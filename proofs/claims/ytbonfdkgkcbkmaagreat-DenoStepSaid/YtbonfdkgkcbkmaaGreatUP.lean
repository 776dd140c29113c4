/- DenoStep holds: a step of one record; no condition. -/
import Derived.Test.YtbonfdkgkcbkmaaGreatU14
import Derived.Test.YtbonfdkgkcbkmaaGreatU16
set_option linter.unusedVariables false
set_option linter.unusedSimpArgs false
namespace Go.Proofs.YtbonfdkgkcbkmaaGreat
set_option maxRecDepth 100000
open Go.ChangeShapes Go.WideShapes Go.ChangeAt Go.RowKit Go.Joins Go.Deep

theorem Upd.below0 {w w' : World} (h : Upd0 w w') : Below w.heap.size w w' := ⟨h.os, h.tape, h.output, h.size, fun k hk => h.block k hk (fun e => e)⟩
theorem agg_list {P : Program} {w : World} {r : Reach} {b : Nat} {t : TypeId} {fs : Array Field} {v : Value} (hs : P.underlying t = some (.struct fs)) (hv : Value.okWide P w r b t v) : ∃ l : List Value, v = .agg l.toArray := by
  obtain ⟨cs, rfl, _⟩ := okWide_struct hs hv
  exact ⟨cs.toList, by simp⟩
theorem pair_list {w : World} {r : Reach} {b : Nat} {v : Value} (hv : Value.okWide Tryz.prog w r b 30 v) : ∃ l : List Value, v = .agg l.toArray := by
  simp only [Value.okWide, Tryz.underlying30] at hv
  obtain ⟨cs, rfl, _⟩ := hv
  exact ⟨cs.toList, by simp⟩
theorem cells_pair : Tryz.prog.cellsOf 30 = 2 := by kernel_rfl
theorem open_pairU {H : Type} {enc : TypeId × Value → H} {w : World} {base : Nat} {held : Bool} {n : Nat} {cs : List Value} {y : DataW H × List MemPlace} (h : DataW.trod enc Tryz.prog w base (fun _ => true) held n 30 cs = some y) : ∃ a b : Int, cs = [.int .i64 a, .int .i64 b] := by
  obtain ⟨xs, m, _, rfl, hll, hlen, hff⟩ := DataW.trod_array Tryz.underlying30 h
  have hl : cs.length = 2 := by rw [hll, cells_pair]
  match cs, hl with
  | [c0, c1], _ =>
    match xs, hlen with
    | [y0, y1], _ =>
      have k3 := Tryz.c3
      have h0 : DataW.trod enc Tryz.prog w base (fun _ => true) held m 3 [c0] = some y0 := by simpa [k3] using hff 0 (by omega)
      have h1 : DataW.trod enc Tryz.prog w base (fun _ => true) held m 3 [c1] = some y1 := by simpa [k3] using hff 1 (by omega)
      obtain ⟨z0, e0, _⟩ := DataW.trod_int Tryz.underlying3 h0
      obtain ⟨z1, e1, _⟩ := DataW.trod_int Tryz.underlying3 h1
      simp at e0 e1
      subst e0 e1
      exact ⟨z0, z1, rfl⟩
set_option maxRecDepth 100000 in
theorem denoStep_lifted (os : Os) (started : os.Started) (H : Type) (enc : TypeId × Value → H) :
    ReturnsInHanded {} Tryz.checked os 3 .any (Rows.denoStepSpec.pre6 enc Tryz.prog Tryz.f3 Rows.denoStepRow.domain false) (Rows.denoStepSpec.post enc Tryz.prog Tryz.f3 false true false false) := by
  refine returnsInHanded_of_change_sized (C := Tryz.checked) Tryz.own started (by kernel_rfl) Tryz.func3
    (ChangeSpec.witness6 (enc := enc) (C := Tryz.checked) false ⟨#[], #[.agg #[.slice none 0 0, .slice none 0 0], .slice none 0 0, .agg #[.int .i64 0, .int .i64 0]], []⟩ 8 (by kernel_rfl) (by kernel_rfl) (by kernel_rfl) (by kernel_rfl)) ?_
  intro W base args ds gs before hval0 hW _ hsz _
  have hval : ∀ (j : Nat) t v, Tryz.f3.params[j]? = some t → args[j]? = some v → Value.okWide Tryz.prog W .any base t v := hval0
  have hW' : DataW.Whole enc Tryz.prog Tryz.f3.params.toList Rows.denoStepSpec.vars false W args.toList ds gs before := hW
  obtain ⟨p, q, hA0, hV, rfl, hfz, hnd⟩ := hW
  have hA : DataW.TrodAll enc Tryz.prog W 0 (fun _ => true) true Tryz.f3.params.toList args.toList ds p := hA0
  rw [Tryz.params3] at hA hval
  obtain ⟨v0, v1, v2, d0, d1, d2, p0, p1, p2, rfl, rfl, rfl, h0, h1, h2⟩ := trodAll_three hA
  obtain ⟨rfl, rfl⟩ := trodVars_none hV
  have hS0 : Sized 27 d0 := fun n hn => by
    have := List.all_eq_true.1 hsz n (DataW.weights_mem_each (j := 0) (t := 27) (d := d0) (by kernel_rfl) rfl n hn)
    exact Nat.le_trans (of_decide_eq_true this) (by unfold reachBytes; omega)
  have hS1 : Sized 29 d1 := fun n hn => by
    have := List.all_eq_true.1 hsz n (DataW.weights_mem_each (j := 1) (t := 29) (d := d1) (by kernel_rfl) rfl n hn)
    exact Nat.le_trans (of_decide_eq_true this) (by unfold reachBytes; omega)
  clear hA0 hval0
  obtain ⟨l0, rfl⟩ := agg_list Tryz.underlying27 (hval 0 27 v0 rfl rfl)
  obtain ⟨a1, len1, cap1, rfl⟩ := okWide_slice Tryz.underlying29 (hval 1 29 v1 rfl rfl)
  obtain ⟨l2, rfl⟩ := pair_list (hval 2 30 v2 rfl rfl)
  obtain ⟨f0, h0⟩ := h0
  obtain ⟨f1, h1⟩ := h1
  obtain ⟨f2, h2⟩ := h2
  obtain ⟨oa, os', oc, xa, xs, xc, e0, g1, g2, g3, g4, g5, g6, g7⟩ := open_workU h0 hS0
  obtain ⟨aa, ac, ats, e1, k1⟩ := open_atU h1 hS1
  obtain ⟨n0, n1, e2⟩ := open_pairU h2
  simp [Value.cells] at e0 e1 e2
  subst e0 e2
  obtain ⟨rfl, rfl, rfl⟩ := e1
  refine (step_walk W g1 g2 g4 g5 g6 g7 k1 g3).mono fun en W' ⟨he, hb⟩ => ?_
  subst he
  exact ⟨_, rfl, law_post Tryz.laidOut rfl Tryz.bool4 (by decide +kernel) rfl hW' rfl rfl rfl hb.below0⟩

set_option maxHeartbeats 16000000 in
/-- The row's facts, part by part: all at once are too much for the kernel's memory. -/
theorem closed_step : joinedFacts Tryz.checked.prog 3 Tryz.f3 Rows.denoStepSpec Rows.denoStepRow = true := by
  unfold joinedFacts
  iterate 23 refine Bool.and_eq_true_iff.2 ⟨?_, ?_⟩
  all_goals as_aux_lemma => kernel_rfl
theorem named_step : Tryz.checked.prog.funcNamed Rows.denoStepRow.func = some 3 := by kernel_rfl
theorem inst_step : Tryz.f3.isInstance Tryz.checked.prog Rows.denoStepRow.origin Rows.denoStepRow.targs := of_decide_eq_true (by kernel_rfl)
theorem wrap_step : Tryz.f3.isWrapper Tryz.checked.prog Rows.denoStepRow.wrapper Rows.denoStepRow.mainSum := by
  unfold Func.isWrapper
  rw [if_neg (of_decide_eq_false (by kernel_rfl))]
  exact ⟨rfl, rfl⟩
theorem denoStep_holds : Rows.DenoStepSaid :=
  OpenClaim.holds_of_wide 3 Tryz.f3 rfl rfl rfl rfl rfl rfl rfl ⟨rfl, rfl, rfl, rfl, rfl⟩ rfl rfl rfl rfl rfl named_step Tryz.func3 closed_step inst_step wrap_step
    (fun os started H enc _ => denoStep_lifted os started H enc)

#print axioms denoStep_holds
end Go.Proofs.YtbonfdkgkcbkmaaGreat
