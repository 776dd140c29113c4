/- LeaseKeeps holds: what is refused leaves nothing, renewed it lasts no less long, given up it is taken by the next one; no condition. -/
import Derived.Test.YtgeieeohaeeccaaX5
import Derived.Test.YtgeieeohaeeccaaLaw
namespace Go.Proofs.Ytgeieeohaeeccaa
open Go.ChangeShapes Go.WideShapes Go.ChangeAt Go.RowKit Go.Joins

theorem wf_u64_nonneg {n : Int} (h : (Lit.int .u64 n).wf = true) : 0 ≤ n := by
  simp [Lit.wf, IntKind.min, IntKind.max, IntKind.signed, IntKind.bits] at h; omega

set_option maxRecDepth 100000 in
theorem keeps_lifted (os : Os) (started : os.Started) (H : Type) (enc : TypeId × Value → H) :
    ReturnsInHanded {} Try.checked os 6 .any (Rows.leaseKeepsSpec.pre6 enc Try.prog Try.f6 Rows.leaseKeepsRow.domain false) (Rows.leaseKeepsSpec.post enc Try.prog Try.f6 false true false false) := by
  refine returnsInHanded_of_change (C := Try.checked) Try.own started (by kernel_rfl) Try.func6
    (ChangeSpec.witness6 (enc := enc) (C := Try.checked) false ⟨#[], #[.agg #[.int .u64 0, .int .i64 0, .int .i64 0], .agg #[.int .i64 0, .int .u64 0], .agg #[.int .i64 0, .int .i64 0]], []⟩ 8 (by kernel_rfl) (by kernel_rfl) (by kernel_rfl) (by kernel_rfl)) ?_
  intro W base args ds gs before hval0 hW _ _
  have hval : ∀ (j : Nat) t v, Try.f6.params[j]? = some t → args[j]? = some v → Value.okWide Try.prog W .any base t v := hval0
  have hW' : DataW.Whole enc Try.prog Try.f6.params.toList Rows.leaseKeepsSpec.vars false W args.toList ds gs before := hW
  obtain ⟨p, q, hA0, hV, rfl, hfz, hnd⟩ := hW
  have hA : DataW.TrodAll enc Try.prog W 0 (fun _ => true) true Try.f6.params.toList args.toList ds p := hA0
  rw [Try.params6] at hA hval
  obtain ⟨v0, v1, v2, d0, d1, d2, p0, p1, p2, rfl, rfl, rfl, h0, h1, h2⟩ := trodAll_three hA
  obtain ⟨rfl, rfl⟩ := trodVars_none hV
  clear hA0 hval0
  obtain ⟨c0, c1, c2, y0, y1, y2, m, rfl, rfl, rfl, hy0, hy1, hy2⟩ := open_agg3 Try.underlying24 (by kernel_rfl) Try.cells24 (hval 0 24 v0 rfl rfl) h0
  obtain ⟨f0, f1, l0, l1, m3, rfl, rfl, rfl, hl0, hl1⟩ := open_agg2 Try.underlying35 (by kernel_rfl) Try.cells35 (hval 1 35 v1 rfl rfl) h1
  obtain ⟨x, e5, rfl, wx⟩ := DataW.trod_int Try.underlying3 hl0
  obtain ⟨ep, e6, rfl, wep⟩ := DataW.trod_int Try.underlying22 hl1
  obtain ⟨g0, g1, k0, k1, m2, rfl, rfl, rfl, hk0, hk1⟩ := open_agg2 Try.underlying26 (by kernel_rfl) Try.cells26 (hval 2 26 v2 rfl rfl) h2
  obtain ⟨e, e0, rfl, we⟩ := DataW.trod_int Try.underlying22 hy0
  obtain ⟨h, e1, rfl, wh⟩ := DataW.trod_int Try.underlying3 hy1
  obtain ⟨u, e2, rfl, wu⟩ := DataW.trod_int Try.underlying2 hy2
  obtain ⟨n, e3, rfl, wn⟩ := DataW.trod_int Try.underlying2 hk0
  obtain ⟨s, e4, rfl, ws⟩ := DataW.trod_int Try.underlying2 hk1
  simp at e0 e1 e2 e3 e4 e5 e6
  subst e0 e1 e2 e3 e4 e5 e6
  refine (leaseKeeps_any e h u x ep n s W (wf_u64_nonneg we)).mono fun en W' ⟨he, hb⟩ => ?_
  subst he
  exact ⟨_, rfl, law_post Try.laidOut rfl Try.underlying4 (by decide +kernel) rfl hW' rfl rfl rfl hb⟩

theorem leaseKeeps_holds : Rows.LeaseKeepsSaid :=
  OpenClaim.holds_of_wide 6 Try.f6 rfl rfl rfl rfl rfl rfl rfl ⟨rfl, rfl, rfl, rfl, rfl⟩ rfl rfl rfl rfl rfl (by kernel_rfl) Try.func6 (by kernel_rfl)
    (of_decide_eq_true (by kernel_rfl)) (by unfold Func.isWrapper; rw [if_neg (of_decide_eq_false (by kernel_rfl))]; exact ⟨rfl, rfl⟩)
    (fun os started H enc _ => keeps_lifted os started H enc)

#print axioms leaseKeeps_holds
end Go.Proofs.Ytgeieeohaeeccaa
