/- RegisterKeeps holds: wherever the power goes, in an Open, too: what was committed is found, what was under way whole or not at all; the epoch never falls; no condition. -/
import Derived.Test.YtbimkhdiplnbfaaGreatF36
import Derived.Test.YtbimkhdiplnbfaaGreatF39
set_option linter.unusedVariables false
set_option linter.unusedSimpArgs false
namespace Go.Proofs.YtbimkhdiplnbfaaGreat
open Go.ChangeShapes Go.WideShapes Go.ChangeAt Go.RowKit Go.Joins Go.Deep

set_option maxRecDepth 100000 in
theorem registerKeeps_lifted (os : Os) (started : os.Started) (H : Type) (enc : TypeId × Value → H) :
  ReturnsInHanded {} Tryz.checked os 8 .any (Rows.registerKeepsSpec.pre6 enc Tryz.prog Tryz.f8 Rows.registerKeepsRow.domain false) (Rows.registerKeepsSpec.post enc Tryz.prog Tryz.f8 false true false false) := by
 refine returnsInHanded_of_change_sized (C := Tryz.checked) Tryz.own started (by kernel_rfl) Tryz.func8
  (ChangeSpec.witness6 (enc := enc) (C := Tryz.checked) false ⟨#[], #[.slice none 0 0, .agg #[.int .i64 0, .int .i64 0, .int .u64 0, .bool false, .slice none 0 0, .slice none 0 0, .slice none 0 0], .slice none 0 0], []⟩ 8 (by kernel_rfl) (by kernel_rfl) (by kernel_rfl) (by kernel_rfl)) ?_
 intro W base args ds gs before hval0 hW _ hsz _
 have hval : ∀ (j : Nat) t v, Tryz.f8.params[j]? = some t → args[j]? = some v → Value.okWide Tryz.prog W .any base t v := hval0
 have hW' : DataW.Whole enc Tryz.prog Tryz.f8.params.toList Rows.registerKeepsSpec.vars false W args.toList ds gs before := hW
 obtain ⟨p, q, hA0, hV, rfl, hfz, hnd⟩ := hW
 have hA : DataW.TrodAll enc Tryz.prog W 0 (fun _ => true) true Tryz.f8.params.toList args.toList ds p := hA0
 rw [Tryz.params8] at hA hval
 obtain ⟨v0, v1, v2, d0, d1, d2, p0, p1, p2, rfl, rfl, rfl, h0, h1, h2⟩ := trodAll_three hA
 obtain ⟨rfl, rfl⟩ := trodVars_none hV
 have hS0 : Sized 75 d0 := fun n hn => by
  have := List.all_eq_true.1 hsz n (DataW.weights_mem_each (j := 0) (t := 75) (d := d0) (by kernel_rfl) rfl n hn)
  exact Nat.le_trans (of_decide_eq_true this) (by unfold reachBytes; omega)
 have hS1 : Sized 58 d1 := fun n hn => by
  have := List.all_eq_true.1 hsz n (DataW.weights_mem_each (j := 1) (t := 58) (d := d1) (by kernel_rfl) rfl n hn)
  exact Nat.le_trans (of_decide_eq_true this) (by unfold reachBytes; omega)
 have hS2 : Sized 75 d2 := fun n hn => by
  have := List.all_eq_true.1 hsz n (DataW.weights_mem_each (j := 2) (t := 75) (d := d2) (by kernel_rfl) rfl n hn)
  exact Nat.le_trans (of_decide_eq_true this) (by unfold reachBytes; omega)
 clear hA0 hval0
 obtain ⟨a0, len0, cap0, rfl⟩ := okWide_slice Tryz.underlying75 (hval 0 75 v0 rfl rfl)
 obtain ⟨f0, h0⟩ := h0
 obtain ⟨la0, ln0, lc0, e0, g0, gl0, gc0⟩ := open_opsU h0 hS0
 simp [Value.cells] at e0
 obtain ⟨rfl, rfl, rfl⟩ := e0
 obtain ⟨cs1, rfl, hsz1⟩ := okWide_struct Tryz.underlying58 (hval 1 58 v1 rfl rfl)
 obtain ⟨l1⟩ := cs1
 obtain ⟨f1, h1⟩ := h1
 obtain ⟨kd1, on1, B1, a1, c1, ra1, R1, rc1, ka1, K1, kc1, e1, g1⟩ := open_opU h1 hS1
 have e1' : l1 = opC kd1 on1 B1 a1 c1 ra1 R1.length rc1 ka1 K1.length kc1 := by simpa [Value.cells] using e1
 subst e1'
 obtain ⟨a2, len2, cap2, rfl⟩ := okWide_slice Tryz.underlying75 (hval 2 75 v2 rfl rfl)
 obtain ⟨f2, h2⟩ := h2
 obtain ⟨la2, ln2, lc2, e2, g2, gl2, gc2⟩ := open_opsU h2 hS2
 simp [Value.cells] at e2
 obtain ⟨rfl, rfl, rfl⟩ := e2
 refine (regkeeps_run W g0 gl0 gc0 g1 g2 gl2 gc2).mono fun en W' ⟨he, hb⟩ => ?_
 subst he
 exact ⟨_, rfl, law_post Tryz.laidOut rfl Tryz.underlying4 (by decide +kernel) rfl hW' rfl rfl rfl hb.below⟩

theorem registerKeeps_holds : Rows.RegisterKeepsSaid :=
 OpenClaim.holds_of_wide 8 Tryz.f8 rfl rfl rfl rfl rfl rfl rfl ⟨rfl, rfl, rfl, rfl, rfl⟩ rfl rfl rfl rfl rfl (by kernel_rfl) Tryz.func8 (by kernel_rfl)
  (of_decide_eq_true (by kernel_rfl)) (by unfold Func.isWrapper; rw [if_neg (of_decide_eq_false (by kernel_rfl))]; exact ⟨rfl, rfl⟩)
  (fun os started H enc _ => registerKeeps_lifted os started H enc)

#print axioms registerKeeps_holds
end Go.Proofs.YtbimkhdiplnbfaaGreat
