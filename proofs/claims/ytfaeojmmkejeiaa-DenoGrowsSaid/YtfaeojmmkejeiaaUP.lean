/- DenoGrows holds: what comes at a place is the beginning of what comes at one that it is below; no condition. -/
import Derived.Test.YtfaeojmmkejeiaaU10
import Derived.Test.YtfaeojmmkejeiaaU12
set_option linter.unusedVariables false
set_option linter.unusedSimpArgs false
namespace Go.Proofs.Ytfaeojmmkejeiaa
open Go.ChangeShapes Go.WideShapes Go.ChangeAt Go.RowKit Go.Joins Go.Deep

theorem Upd.below0 {w w' : World} (h : Upd0 w w') : Below w.heap.size w w' := ⟨h.os, h.tape, h.output, h.size, fun k hk => h.block k hk (fun e => e)⟩
theorem agg_list {P : Program} {w : World} {r : Reach} {b : Nat} {t : TypeId} {fs : Array Field} {v : Value} (hs : P.underlying t = some (.struct fs)) (hv : Value.okWide P w r b t v) : ∃ l : List Value, v = .agg l.toArray := by
  obtain ⟨cs, rfl, _⟩ := okWide_struct hs hv
  exact ⟨cs.toList, by simp⟩
set_option maxRecDepth 100000 in
theorem denoGrows_lifted (os : Os) (started : os.Started) (H : Type) (enc : TypeId × Value → H) :
    ReturnsInHanded {} Try.checked os 4 .any (Rows.denoGrowsSpec.pre6 enc Try.prog Try.f4 Rows.denoGrowsRow.domain false) (Rows.denoGrowsSpec.post enc Try.prog Try.f4 false true false false) := by
  refine returnsInHanded_of_change_sized (C := Try.checked) Try.own started (by kernel_rfl) Try.func4
    (ChangeSpec.witness6 (enc := enc) (C := Try.checked) false ⟨#[], #[.agg #[.slice none 0 0, .slice none 0 0], .slice none 0 0, .agg #[.int .i64 0, .int .i64 0, .int .i64 0, .int .i64 0]], []⟩ 8 (by kernel_rfl) (by kernel_rfl) (by kernel_rfl) (by kernel_rfl)) ?_
  intro W base args ds gs before hval0 hW _ hsz _
  have hval : ∀ (j : Nat) t v, Try.f4.params[j]? = some t → args[j]? = some v → Value.okWide Try.prog W .any base t v := hval0
  have hW' : DataW.Whole enc Try.prog Try.f4.params.toList Rows.denoGrowsSpec.vars false W args.toList ds gs before := hW
  obtain ⟨p, q, hA0, hV, rfl, hfz, hnd⟩ := hW
  have hA : DataW.TrodAll enc Try.prog W 0 (fun _ => true) true Try.f4.params.toList args.toList ds p := hA0
  rw [Try.params4] at hA hval
  obtain ⟨v0, v1, v2, d0, d1, d2, p0, p1, p2, rfl, rfl, rfl, h0, h1, h2⟩ := trodAll_three hA
  obtain ⟨rfl, rfl⟩ := trodVars_none hV
  have hS0 : Sized 27 d0 := fun n hn => by
    have := List.all_eq_true.1 hsz n (DataW.weights_mem_each (j := 0) (t := 27) (d := d0) (by kernel_rfl) rfl n hn)
    exact Nat.le_trans (of_decide_eq_true this) (by unfold reachBytes; omega)
  have hS1 : Sized 36 d1 := fun n hn => by
    have := List.all_eq_true.1 hsz n (DataW.weights_mem_each (j := 1) (t := 36) (d := d1) (by kernel_rfl) rfl n hn)
    exact Nat.le_trans (of_decide_eq_true this) (by unfold reachBytes; omega)
  clear hA0 hval0
  obtain ⟨l0, rfl⟩ := agg_list Try.underlying27 (hval 0 27 v0 rfl rfl)
  obtain ⟨a1, len1, cap1, rfl⟩ := okWide_slice Try.underlying36 (hval 1 36 v1 rfl rfl)
  obtain ⟨l2, rfl⟩ := agg_list Try.underlying31 (hval 2 31 v2 rfl rfl)
  obtain ⟨f0, h0⟩ := h0
  obtain ⟨f1, h1⟩ := h1
  obtain ⟨f2, h2⟩ := h2
  obtain ⟨oa, os', oc, xa, xs, xc, e0, g1, g2, g3, g4, g5, g6, g7⟩ := open_workU h0 hS0
  obtain ⟨aa, ac, ats, e1, k1⟩ := open_atU h1 hS1
  obtain ⟨z, key, e2⟩ := open_askU h2
  simp [Value.cells] at e0 e1 e2
  subst e0 e2
  obtain ⟨rfl, rfl, rfl⟩ := e1
  refine (grows_any W g1 g2 g4 g5 g6 g7 k1 g3).mono fun en W' ⟨he, hb⟩ => ?_
  subst he
  exact ⟨_, rfl, law_post Try.laidOut rfl Try.bool4 (by decide +kernel) rfl hW' rfl rfl rfl hb.below0⟩

theorem denoGrows_holds : Rows.DenoGrowsSaid :=
  OpenClaim.holds_of_wide 4 Try.f4 rfl rfl rfl rfl rfl rfl rfl ⟨rfl, rfl, rfl, rfl, rfl⟩ rfl rfl rfl rfl rfl (by kernel_rfl) Try.func4 (by kernel_rfl)
    (of_decide_eq_true (by kernel_rfl)) (by unfold Func.isWrapper; rw [if_neg (of_decide_eq_false (by kernel_rfl))]; exact ⟨rfl, rfl⟩)
    (fun os started H enc _ => denoGrows_lifted os started H enc)

#print axioms denoGrows_holds
end Go.Proofs.Ytfaeojmmkejeiaa
