/- DenoAlone holds: what comes of a key is that of its records alone; widths do not count; no condition. -/
import Derived.Test.YtfaeojmmkejeiaaV11
import Derived.Test.YtfaeojmmkejeiaaV13
set_option linter.unusedVariables false
set_option linter.unusedSimpArgs false
namespace Go.Proofs.Ytfaeojmmkejeiaa
open Go.ChangeShapes Go.WideShapes Go.ChangeAt Go.RowKit Go.Joins Go.Deep

theorem Upd.below0 {w w' : World} (h : Upd0 w w') : Below w.heap.size w w' := ⟨h.os, h.tape, h.output, h.size, fun k hk => h.block k hk (fun e => e)⟩
theorem agg_list {P : Program} {w : World} {r : Reach} {b : Nat} {t : TypeId} {fs : Array Field} {v : Value} (hs : P.underlying t = some (.struct fs)) (hv : Value.okWide P w r b t v) : ∃ l : List Value, v = .agg l.toArray := by
  obtain ⟨cs, rfl, _⟩ := okWide_struct hs hv
  exact ⟨cs.toList, by simp⟩
set_option maxRecDepth 100000 in
theorem denoAlone_lifted (os : Os) (started : os.Started) (H : Type) (enc : TypeId × Value → H) :
    ReturnsInHanded {} Try.checked os 3 .any (Rows.denoAloneSpec.pre6 enc Try.prog Try.f3 Rows.denoAloneRow.domain false) (Rows.denoAloneSpec.post enc Try.prog Try.f3 false true false false) := by
  refine returnsInHanded_of_change_sized (C := Try.checked) Try.own started (by kernel_rfl) Try.func3
    (ChangeSpec.witness6 (enc := enc) (C := Try.checked) false ⟨#[], #[.agg #[.slice none 0 0, .slice none 0 0], .agg #[.int .i64 0, .int .i64 0, .int .i64 0, .int .i64 0], .slice none 0 0], []⟩ 8 (by kernel_rfl) (by kernel_rfl) (by kernel_rfl) (by kernel_rfl)) ?_
  intro W base args ds gs before hval0 hW _ hsz _
  have hval : ∀ (j : Nat) t v, Try.f3.params[j]? = some t → args[j]? = some v → Value.okWide Try.prog W .any base t v := hval0
  have hW' : DataW.Whole enc Try.prog Try.f3.params.toList Rows.denoAloneSpec.vars false W args.toList ds gs before := hW
  obtain ⟨p, q, hA0, hV, rfl, hfz, hnd⟩ := hW
  have hA : DataW.TrodAll enc Try.prog W 0 (fun _ => true) true Try.f3.params.toList args.toList ds p := hA0
  rw [Try.params3] at hA hval
  obtain ⟨v0, v1, v2, d0, d1, d2, p0, p1, p2, rfl, rfl, rfl, h0, h1, h2⟩ := trodAll_three hA
  obtain ⟨rfl, rfl⟩ := trodVars_none hV
  have hS0 : Sized 27 d0 := fun n hn => by
    have := List.all_eq_true.1 hsz n (DataW.weights_mem_each (j := 0) (t := 27) (d := d0) (by kernel_rfl) rfl n hn)
    exact Nat.le_trans (of_decide_eq_true this) (by unfold reachBytes; omega)
  have hS2 : Sized 32 d2 := fun n hn => by
    have := List.all_eq_true.1 hsz n (DataW.weights_mem_each (j := 2) (t := 32) (d := d2) (by kernel_rfl) rfl n hn)
    exact Nat.le_trans (of_decide_eq_true this) (by unfold reachBytes; omega)
  clear hA0 hval0
  obtain ⟨l0, rfl⟩ := agg_list Try.underlying27 (hval 0 27 v0 rfl rfl)
  obtain ⟨l1, rfl⟩ := agg_list Try.underlying31 (hval 1 31 v1 rfl rfl)
  obtain ⟨a2, len2, cap2, rfl⟩ := okWide_slice Try.underlying32 (hval 2 32 v2 rfl rfl)
  obtain ⟨f0, h0⟩ := h0
  obtain ⟨f1, h1⟩ := h1
  obtain ⟨f2, h2⟩ := h2
  obtain ⟨oa, os', oc, xa, xs, xc, e0, g1, g2, g3, g4, g5, g6, g7⟩ := open_workU h0 hS0
  obtain ⟨z, key, e1⟩ := open_askU h1
  obtain ⟨la, lc, wl, e2, k1, k2, k3, k4⟩ := open_intsU h2 hS2
  simp [Value.cells] at e0 e1 e2
  subst e0 e1
  obtain ⟨rfl, rfl, rfl⟩ := e2
  refine (alone_walk W g1 g2 g4 g5 g6 g7 k1 (by omega) g3).mono fun en W' ⟨he, hb⟩ => ?_
  subst he
  exact ⟨_, rfl, law_post Try.laidOut rfl Try.bool4 (by decide +kernel) rfl hW' rfl rfl rfl hb.below0⟩

theorem denoAlone_holds : Rows.DenoAloneSaid :=
  OpenClaim.holds_of_wide 3 Try.f3 rfl rfl rfl rfl rfl rfl rfl ⟨rfl, rfl, rfl, rfl, rfl⟩ rfl rfl rfl rfl rfl (by kernel_rfl) Try.func3 (by kernel_rfl)
    (of_decide_eq_true (by kernel_rfl)) (by unfold Func.isWrapper; rw [if_neg (of_decide_eq_false (by kernel_rfl))]; exact ⟨rfl, rfl⟩)
    (fun os started H enc _ => denoAlone_lifted os started H enc)

#print axioms denoAlone_holds
end Go.Proofs.Ytfaeojmmkejeiaa
