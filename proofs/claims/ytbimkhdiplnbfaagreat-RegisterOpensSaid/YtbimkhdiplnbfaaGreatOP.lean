/- RegisterOpens holds: which register a log of whatever bytes has, or why none; no condition. -/
import Derived.Test.YtbimkhdiplnbfaaGreatO31
import Derived.Test.YtbimkhdiplnbfaaGreatO41
set_option linter.unusedVariables false
set_option linter.unusedSimpArgs false
namespace Go.Proofs.YtbimkhdiplnbfaaGreat
set_option maxRecDepth 1000000
set_option maxHeartbeats 16000000
section
open Go.ChangeShapes Go.WideShapes Go.ChangeAt Go.RowKit Go.Joins Go.Deep
theorem registerOpens_lifted (os:Os)(started:os.Started)(H:Type)(enc:TypeId×Value→H):
  ReturnsInHanded {} Tryz.checked os 9 .any (Rows.registerOpensSpec.pre6 enc Tryz.prog Tryz.f9 Rows.registerOpensRow.domain false) (Rows.registerOpensSpec.post enc Tryz.prog Tryz.f9 false true false false):=by
 refine returnsInHanded_of_change_sized (C:=Tryz.checked) Tryz.own started (by kernel_rfl) Tryz.func9
  (ChangeSpec.witness6 (enc:=enc) (C:=Tryz.checked) false ⟨#[],#[.slice none 0 0,.slice none 0 0],[]⟩ 8 (by kernel_rfl) (by kernel_rfl) (by kernel_rfl) (by kernel_rfl)) ?_
 intro W base args ds gs before hval0 hW _ hsz _
 have hval: ∀(j:Nat) t v,Tryz.f9.params[j]?=some t→args[j]?=some v→Value.okWide Tryz.prog W .any base t v:=hval0
 have hW':DataW.Whole enc Tryz.prog Tryz.f9.params.toList Rows.registerOpensSpec.vars false W args.toList ds gs before:=hW
 obtain⟨p,q,hA0,hV,rfl,hfz,hnd⟩:=hW
 have hA:DataW.TrodAll enc Tryz.prog W 0 (fun _=>true) true Tryz.f9.params.toList args.toList ds p:=hA0
 rw[Tryz.params9] at hA hval
 obtain⟨v0,v1,d0,d1,p0,p1,rfl,rfl,rfl,h0,h1⟩:=trodAll_two hA
 obtain⟨rfl,rfl⟩:=trodVars_none hV
 have hS0:Sized 39 d0:=fun n hn=>by
  have:=List.all_eq_true.1 hsz n (DataW.weights_mem_each (j:=0) (t:=39) (d:=d0) (by kernel_rfl) rfl n hn)
  exact Nat.le_trans (of_decide_eq_true this) (by unfold reachBytes;omega)
 have hS1:Sized 32 d1:=fun n hn=>by
  have:=List.all_eq_true.1 hsz n (DataW.weights_mem_each (j:=1) (t:=32) (d:=d1) (by kernel_rfl) rfl n hn)
  exact Nat.le_trans (of_decide_eq_true this) (by unfold reachBytes;omega)
 clear hA0 hval0
 obtain⟨a0,len0,cap0,rfl⟩:=okWide_slice Tryz.underlying39 (hval 0 39 v0 rfl rfl)
 obtain⟨f0,h0⟩:=h0
 obtain⟨la0,lc0,bs0,e0,g0,gb0,gl0,gc0⟩:=open_bytesU h0 hS0
 simp[Value.cells] at e0
 obtain⟨rfl,rfl,rfl⟩:=e0
 obtain⟨a1,len1,cap1,rfl⟩:=okWide_slice Tryz.underlying32 (hval 1 32 v1 rfl rfl)
 obtain⟨f1,h1⟩:=h1
 obtain⟨la1,ln1,lc1,e1,g1,gl1,gc1⟩:=open_rowsU h1 hS1
 simp[Value.cells] at e1
 obtain⟨rfl,rfl,rfl⟩:=e1
 refine(opens_rows W g0 gb0 gl0 gc0 g1 gl1 gc1).mono fun en W' ⟨he,hb⟩=>?_
 subst he
 exact⟨_,rfl,law_post Tryz.laidOut rfl Tryz.underlying4 (by decide+kernel) rfl hW' rfl rfl rfl hb.below⟩
theorem registerOpens_holds:Rows.RegisterOpensSaid:=
 OpenClaim.holds_of_wide 9 Tryz.f9 rfl rfl rfl rfl rfl rfl rfl ⟨rfl,rfl,rfl,rfl,rfl⟩ rfl rfl rfl rfl rfl (by kernel_rfl) Tryz.func9 (by kernel_rfl)
  (of_decide_eq_true (by kernel_rfl)) (by unfold Func.isWrapper;rw[if_neg (of_decide_eq_false (by kernel_rfl))];exact⟨rfl,rfl⟩)
  (fun os started H enc _=>registerOpens_lifted os started H enc)
#print axioms registerOpens_holds
end
end Go.Proofs.YtbimkhdiplnbfaaGreat
