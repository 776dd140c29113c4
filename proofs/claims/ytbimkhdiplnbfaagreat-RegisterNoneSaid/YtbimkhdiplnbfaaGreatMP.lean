/- RegisterNone holds: without a disk there is no register, and a nil one tells nothing; what the log refuses is refused; no condition. -/
import Derived.Test.YtbimkhdiplnbfaaGreatM30
import Derived.Test.YtbimkhdiplnbfaaGreatM39
set_option linter.unusedVariables false
set_option linter.unusedSimpArgs false
namespace Go.Proofs.YtbimkhdiplnbfaaGreat
open Go.ChangeShapes Go.WideShapes Go.ChangeAt Go.RowKit Go.Joins Go.Deep

set_option maxRecDepth 100000 in
theorem registerNone_lifted (os : Os) (started : os.Started) (H : Type) (enc : TypeId × Value → H) :
    ReturnsInHanded {} Tryz.checked os 10 .any (Rows.registerNoneSpec.pre6 enc Tryz.prog Tryz.f10 Rows.registerNoneRow.domain false) (Rows.registerNoneSpec.post enc Tryz.prog Tryz.f10 false true false false) := by
  refine returnsInHanded_of_change_sized (C := Tryz.checked) Tryz.own started (by kernel_rfl) Tryz.func10
    (ChangeSpec.witness6 (enc := enc) (C := Tryz.checked) false ⟨#[], #[.agg #[.int .i64 0, .int .i64 0, .int .u64 0, .bool false, .slice none 0 0, .slice none 0 0, .slice none 0 0], .int .i64 0, .int .i64 0], []⟩ 8 (by kernel_rfl) (by kernel_rfl) (by kernel_rfl) (by kernel_rfl)) ?_
  intro W base args ds gs before hval0 hW _ hsz _
  have hval : ∀ (j : Nat) t v, Tryz.f10.params[j]? = some t → args[j]? = some v → Value.okWide Tryz.prog W .any base t v := hval0
  have hW' : DataW.Whole enc Tryz.prog Tryz.f10.params.toList Rows.registerNoneSpec.vars false W args.toList ds gs before := hW
  obtain ⟨p, q, hA0, hV, rfl, hfz, hnd⟩ := hW
  have hA : DataW.TrodAll enc Tryz.prog W 0 (fun _ => true) true Tryz.f10.params.toList args.toList ds p := hA0
  rw [Tryz.params10] at hA hval
  obtain ⟨v0, v1, v2, d0, d1, d2, p0, p1, p2, rfl, rfl, rfl, h0, h1, h2⟩ := trodAll_three hA
  obtain ⟨rfl, rfl⟩ := trodVars_none hV
  have hS0 : Sized 58 d0 := fun n hn => by
    have := List.all_eq_true.1 hsz n (DataW.weights_mem_each (j := 0) (t := 58) (d := d0) (by kernel_rfl) rfl n hn)
    exact Nat.le_trans (of_decide_eq_true this) (by unfold reachBytes; omega)
  clear hA0 hval0
  obtain ⟨cs0, rfl, hsz0⟩ := okWide_struct Tryz.underlying58 (hval 0 58 v0 rfl rfl)
  obtain ⟨l0⟩ := cs0
  obtain ⟨f0, h0⟩ := h0
  obtain ⟨kd0, on0, B0, a0, c0, ra0, R0, rc0, ka0, K0, kc0, e0, g0⟩ := open_opU h0 hS0
  have e0' : l0 = opC kd0 on0 B0 a0 c0 ra0 R0.length rc0 ka0 K0.length kc0 := by simpa [Value.cells] using e0
  subst e0'
  obtain ⟨n1, rfl, rfl, rfl, wn1⟩ := open_int Tryz.underlying3 (hval 1 3 v1 rfl rfl) h1
  obtain ⟨n2, rfl, rfl, rfl, wn2⟩ := open_int Tryz.underlying3 (hval 2 3 v2 rfl rfl) h2
  refine (none_run W g0 (wf_i64 wn1) (wf_i64 wn2)).mono fun en W' ⟨he, hb⟩ => ?_
  subst he
  exact ⟨_, rfl, law_post Tryz.laidOut rfl Tryz.underlying4 (by decide +kernel) rfl hW' rfl rfl rfl hb.below⟩

theorem registerNone_holds : Rows.RegisterNoneSaid :=
  OpenClaim.holds_of_wide 10 Tryz.f10 rfl rfl rfl rfl rfl rfl rfl ⟨rfl, rfl, rfl, rfl, rfl⟩ rfl rfl rfl rfl rfl (by kernel_rfl) Tryz.func10 (by kernel_rfl)
    (of_decide_eq_true (by kernel_rfl)) (by unfold Func.isWrapper; rw [if_neg (of_decide_eq_false (by kernel_rfl))]; exact ⟨rfl, rfl⟩)
    (fun os started H enc _ => registerNone_lifted os started H enc)

#print axioms registerNone_holds
end Go.Proofs.YtbimkhdiplnbfaaGreat
