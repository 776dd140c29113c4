/- RegisterDoes holds: a register does as the document says, write by write, whatever fails, and whenever the power goes; no condition. -/
import Derived.Test.YtbimkhdiplnbfaaGreatU42
set_option linter.unusedVariables false
set_option linter.unusedSimpArgs false
namespace Go.Proofs.YtbimkhdiplnbfaaGreat
set_option maxRecDepth 1000000
set_option maxHeartbeats 16000000
section
open Go.ChangeShapes Go.WideShapes Go.ChangeAt Go.RowKit Go.Joins Go.Deep
theorem registerDoes_lifted (os:Os)(started:os.Started)(H:Type)(enc:TypeId×Value→H):
  ReturnsInHanded {} Tryz.checked os 11 .any (Rows.registerDoesSpec.pre6 enc Tryz.prog Tryz.f11 Rows.registerDoesRow.domain false) (Rows.registerDoesSpec.post enc Tryz.prog Tryz.f11 false true false false):=by
 refine returnsInHanded_of_change_sized (C:=Tryz.checked) Tryz.own started (by kernel_rfl) Tryz.func11
  (ChangeSpec.witness6 (enc:=enc) (C:=Tryz.checked) false ⟨#[],#[.int .i64 0,.slice none 0 0],[]⟩ 8 (by kernel_rfl) (by kernel_rfl) (by kernel_rfl) (by kernel_rfl)) ?_
 intro W a5 a2 ds gs a4 a0 hW _ b0 _
 have a3: ∀(j:Nat) t v,Tryz.f11.params[j]?=some t→a2[j]?=some v→Value.okWide Tryz.prog W .any a5 t v:=a0
 have b2:DataW.Whole enc Tryz.prog Tryz.f11.params.toList Rows.registerDoesSpec.vars false W a2.toList ds gs a4:=hW
 obtain⟨p,q,a6,hV,rfl,b9,b8⟩:=hW
 have hA:DataW.TrodAll enc Tryz.prog W 0 (fun _=>true) true Tryz.f11.params.toList a2.toList ds p:=a6
 rw[Tryz.params11] at hA a3
 obtain⟨v0,v1,d0,d1,p0,p1,rfl,rfl,rfl,h0,h1⟩:=trodAll_two hA
 obtain⟨rfl,rfl⟩:=trodVars_none hV
 have a9:Sized 75 d1:=fun n hn=>by
  have:=List.all_eq_true.1 b0 n (DataW.weights_mem_each (j:=1) (t:=75) (d:=d1) (by kernel_rfl) rfl n hn)
  exact Nat.le_trans (of_decide_eq_true this) (by unfold reachBytes;omega)
 clear a6 a0
 obtain⟨n0,rfl,rfl,rfl,b4⟩:=open_int Tryz.underlying3 (a3 0 3 v0 rfl rfl) h0
 obtain⟨a1,b1,a8,rfl⟩:=okWide_slice Tryz.underlying75 (a3 1 75 v1 rfl rfl)
 obtain⟨f1,h1⟩:=h1
 obtain⟨b7,b6,b5,e1,g1,b3,a7⟩:=Zpo h1 a9
 simp[Value.cells] at e1
 obtain⟨rfl,rfl,rfl⟩:=e1
 refine(Zma W g1 b3 a7).mono fun en W' ⟨he,hb⟩=>?_
 subst he
 exact⟨_,rfl,Zrq Tryz.laidOut rfl Tryz.underlying4 (by decide+kernel) rfl b2 rfl rfl rfl hb.below⟩
theorem registerDoes_holds:Rows.RegisterDoesSaid:=
 OpenClaim.holds_of_wide 11 Tryz.f11 rfl rfl rfl rfl rfl rfl rfl ⟨rfl,rfl,rfl,rfl,rfl⟩ rfl rfl rfl rfl rfl (by kernel_rfl) Tryz.func11 (by kernel_rfl)
  (of_decide_eq_true (by kernel_rfl)) (by unfold Func.isWrapper;rw[if_neg (of_decide_eq_false (by kernel_rfl))];exact⟨rfl,rfl⟩)
  (fun os started H enc _=>registerDoes_lifted os started H enc)
#print axioms registerDoes_holds
end
end Go.Proofs.YtbimkhdiplnbfaaGreat
