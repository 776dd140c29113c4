/- Walks. -/
import Derived.Test.YtbimkhdiplnbfaaGreatU20
import Derived.Laws.OwnMore
set_option linter.unusedVariables false
set_option linter.unusedSimpArgs false
namespace Go.Proofs.YtbimkhdiplnbfaaGreat
set_option maxRecDepth 1000000
set_option maxHeartbeats 16000000
variable {B:BatchV} {bad:Bool} {x:Int} {bs:List Int} {c n tb:Nat} {st:Option (List Int)} {a:Option Addr} {v:Value} {W w w0:World}
section
open Go.RowKit Go.Shelf
theorem Zd6 (w:World)(x y:Int):BytesIn (w.alloc (.cells #[.int .u8 x,.int .u8 y] 5)) (.slice (some ⟨w.heap.size,0,none⟩) 2 2) [x,y]:=by
 refine .inr ⟨⟨w.heap.size,0,none⟩,2,rfl,by simp,by unfold maxLen;omega,fun i u hi=>?_⟩
 rw[Addr.add_mid,Nat.zero_add,Zr (Zc rfl)]
 simpa [bcells] using hi
theorem Zi9 (w:World)(hl:bs.length≤1099511627700)(hv:BytesIn w v bs)(hx:0≤x∧x≤18446744073709551615):
  Calls Tryz.prog 144 #[v,.int .u64 x] w fun e w'=> ∃u,e=.returned u∧OwnB w' w.heap.size u (bs++layF x 64)∧U0 w w':=by
 have HC:=V (Zio (nb:=8) w hl hv hx (by omega))
 clear hv
 go_enter Tryz.func144,Tryz.ntmps144
 go_wp2_with (go_at_call 180;fail)
 refine HC.o.mono ?_
 rintro e w1 ⟨u1,rfl,ho,hu⟩
 have HO:=V ho;have HU:=V hu
 clear ho hu HC
 simp only[]
 go_wp2
 go_ret
 exact⟨_,rfl,HO.o,HU.o⟩
theorem Zl8 {x:SetV}(h:x.right=true):(setF x).length≤6031:=by
 simp only[SetV.right,decide_eq_true_eq] at h
 simp[setF,Ye,Yz,layF_length]
 omega
theorem Zb0: ∀{l:List SetV},(∀x∈l,x.right=true)→(Yc l).length≤6031 * l.length
 | [],_=>by simp[Yc]
 |x :: l,h=>by
  have h1:=Zl8 (h x (by simp))
  have h2:=Zb0 (l:=l) fun y hy=>h y (by simp[hy])
  simp only[Yc,List.flatMap_cons,List.length_append,List.length_cons] at h2 ⊢
  omega
theorem Zgs (w:World)(hs:SetsIn w a B.sets)(hr:B.right=true)(hk:B.Ok):
  Calls Tryz.prog 82 #[batchV B a c] w fun e w'=> ∃u,e=.returned u∧OwnB w' w.heap.size u (encF B)∧U0 w w':=by
 have h9:B.sets.length≤48:=by
  simp only[BatchV.right,Bool.and_eq_true,decide_eq_true_eq] at hr
  exact hr.1.1.2
 have HS:=V hs;have HR:=V hr;have d2:=V hk.epoch
 obtain⟨ns,c9⟩: ∃ns,ns=(B.sets.length:Int) % 256:=⟨_,rfl⟩
 have g8:IntKind.u8.wrap (B.sets.length:Int)=ns:=by rw[IntKind.wrap_u8,c9]
 have g7:=V c9
 obtain⟨w1,d3,d9,c8⟩:=nb w (.cells #[.int .u64 B.epoch,.bool B.large,.slice a B.sets.length c] 56)
 have hA:w1.drew.heap[w.heap.size]?=some (.cells #[.int .u64 B.epoch,.bool B.large,.slice a B.sets.length c] 56 (0,0)):=c8
 have HU:=V d9.drew
 have d6:=V d3;have f3:=V c8
 clear hs hr hk c9 d3 d9 c8
 unfold batchV
 go_enter Tryz.func82,Tryz.ntmps82
 go_upto_region 1 with fail
 rw[←d6.o]
 go_cut [3] from 7 to 50 (fun x wx=> ∃bo,x=.pointer (some ⟨bo,0,none⟩)∧EncAt w wx bo (layF B.epoch 64++[flagF B.large,ns])∧wx.heap[w.heap.size]?=some (.cells #[.int .u64 B.epoch,.bool B.large,.slice a B.sets.length c] 56 (0,0)))
 case first=>
  refine Zj 13 (fun W=>W.heap[w.heap.size]?=some (.cells #[.int .u64 B.epoch,.bool B.large,.slice a B.sets.length c] 56 (0,0))) [false,false,false,false,false,false,false,false,false,false,false,false,false,false] rfl (by kernel_rfl) ?_
  generalize w1.drew=wd at hA HU ⊢
  refine tpZ 0 (.pointer (some ⟨w.heap.size,0,none⟩)) hA ?_
  simp only[zz]
  refine tqZ 1 (.int .u64 B.epoch) [11,2] hA (fun w5 q1=>?_) ?_
  ·obtain⟨c0,c1,c2⟩:=Zk q1
   go_simp
  simp only[zz]
  refine tpZ 3 (.pointer (some ⟨w.heap.size,1,none⟩)) hA ?_
  simp only[zz]
  refine tqZ 4 (.bool B.large) [11,5] hA (fun w5 q1=>?_) ?_
  ·obtain⟨c0,c1,c2⟩:=Zk q1
   go_simp
  simp only[zz]
  refine tpZ 6 (.pointer (some ⟨w.heap.size,2,none⟩)) hA ?_
  simp only[zz]
  refine tqZ 7 (.slice a B.sets.length c) [11,10,9,8] hA (fun w5 q1=>?_) ?_
  ·obtain⟨c0,c1,c2⟩:=Zk q1
   go_simp
  simp only[zz]
  refine tpZ 8 (.int .i64 B.sets.length) hA ?_
  simp only[zz]
  refine tpZ 9 (.int .u8 ns) hA ?_
  simp only[zz]
  refine Ya (i:=2) (j:=12) rfl rfl (by kernel_rfl) rfl rfl (fun K hK=>?_) (fun K hK=>?_)
  ·have a0:=V hK
   clear hK
   go_step
   refine(Zi9 (v:=.slice none 0 0) (bs:=[]) (x:=B.epoch) _ (by simp) (.inl ⟨rfl,rfl⟩) d2.o).mono ?_
   rintro e WA ⟨u,rfl,g1,g2⟩
   have hA:=kb g2 hA
   have HO:=V (OwnB.mono g1 HU.o.size)
   have HU:=V (HU.o.trans g2)
   clear g1 g2
   simp only[]
   refine a0.o _ _ hA ?_
   clear a0
   simp only[zz]
   refine Ya (i:=5) (j:=12) rfl rfl (by kernel_rfl) rfl rfl (fun K hK=>?_) (fun K hK=>?_)
   ·have a0:=V hK
    clear hK
    go_step
    refine(Zdr B.large _).mono ?_
    rintro e wf ⟨rfl,rfl⟩
    simp only[]
    refine a0.o _ _ hA ?_
    clear a0
    simp only[zz]
    refine Ya (i:=10) (j:=12) rfl rfl (by kernel_rfl) rfl rfl (fun K hK=>?_) (fun K hK=>?_)
    ·have a0:=V hK
     clear hK
     go_step
     have ub:U0 WA (WA.alloc (.cells #[.int .u8 (flagF B.large),.int .u8 ns] 5)):=(Upd.refl _ _).alloc _
     have a1:=V (Zd6 WA (flagF B.large) ns)
     have hA:=kb ub hA
     have HU:=V (HU.o.trans ub);have HO:=V (OwnB.keptF HO.o ub n3Z)
     generalize hWB:WA.alloc (.cells #[.int .u8 (flagF B.large),.int .u8 ns] 5)=WB at a1 hA HU HO ub ⊢
     clear ub hWB
     refine a0.o _ _ hA ?_
     clear a0
     simp only[zz]
     refine Ya (i:=11) (j:=12) rfl rfl (by kernel_rfl) rfl rfl (fun K hK=>?_) (fun K hK=>?_)
     ·have a0:=V hK
      clear hK
      refine Y8 (.tmp 9) (.tmp 17) rfl rfl HO.o rfl a1.o (by simp[layF_length]) HU.o.size ?_
      intro v1 w1 g1 g2
      have hA:=(g2.block _ (Za hA) (fun e=>Zt HO.o hA (by decide) _ e rfl)).trans hA
      have HU:=V (HU.o.step g2 (fun j hj e=>by have:=(HO.o.lt j e).1;omega));have HO:=V g1
      obtain⟨ta,tm,tc,a5⟩:=g1.bytesAt.1.slice'
      subst a5
      clear g1 g2 a1
      refine a0.o _ _ hA ?_
      clear a0
      simp only[zz]
      refine doZ 12 (fun K a0=>?_)
      go_step
      have ua:U0 w1 (w1.alloc (.cells #[.slice none 0 0] 39)):=(Upd.refl _ _).alloc _
      have a2:=V HU.o.size
      have HX:=V (Zc (w:=w1) (o:=.cells #[.slice none 0 0] 39) rfl)
      have hA:=kb ua hA
      have HU:=V (HU.o.trans ua)
      have HO:=V (OwnB.keptF HO.o ua n3Z)
      clear ua
      refine a0.o _ _ hA ?_
      clear a0
      simp only[zz]
      generalize w1.alloc (.cells #[.slice none 0 0] 39)=w1X at HX hA HU HO ⊢
      generalize w1.heap.size=bo at HX a2 ⊢
      refine tlZ 13 ?_
      simp only[List.drop]
      have a4:=V (Zt HO.o HX.o (by decide))
      have c0:=Zf HX.o
      have f0:w1X.frozen? ⟨_,0,none⟩=false:=Zb HX.o
      go_wp2
      go_meet
      case rel=>
       have a3:=Zd w1X bo 0 (.slice ta tm tc)
       refine⟨_,rfl,⟨.slice ta tm tc,?_,OwnB.keptF HO.o a3 (fun k hk e=>a4.o k hk e),a4.o,a2.o,HU.o.step a3 (fun j hj e=>by have:=a2.o;omega)⟩,?_⟩
       ·have:=Ze (i:=0) (v:=.slice ta tm tc) HX.o
        simpa using this
       ·refine(a3.block _ (Za hA) (fun e=>?_)).trans hA
        have e1:=HX.o
        rw[←e,hA] at e1
        injection e1 with e1
        injection e1 with _ e2 _
        exact absurd e2 (by decide)
     ·have a0:=V hK
      clear hK
      go_step
      have ua:U0 WB (WB.alloc (.cells #[.slice none 0 0] 39)):=(Upd.refl _ _).alloc _
      have a2:=V HU.o.size
      have HX:=V (Zc (w:=WB) (o:=.cells #[.slice none 0 0] 39) rfl)
      have hA:=kb ua hA
      have HU:=V (HU.o.trans ua)
      have HO:=V (OwnB.keptF HO.o ua n3Z)
      have a1:=V (a1.o.kept ua)
      clear ua
      refine a0.o _ _ hA ?_
      clear a0
      simp only[zz]
      generalize WB.alloc (.cells #[.slice none 0 0] 39)=WBX at HX hA HU HO a1 ⊢
      generalize WB.heap.size=bo at HX a2 ⊢
      refine doZ 11 (fun K a0=>?_)
      refine Y8 (.tmp 9) (.tmp 17) rfl rfl HO.o rfl a1.o (by simp[layF_length]) HU.o.size ?_
      intro v1 w1 g1 g2
      have hA:=(g2.block _ (Za hA) (fun e=>Zt HO.o hA (by decide) _ e rfl)).trans hA
      have HX:=V ((g2.block _ (Za HX.o) (fun e=>Zt HO.o HX.o (by decide) _ e rfl)).trans HX.o)
      have HU:=V (HU.o.step g2 (fun j hj e=>by have:=(HO.o.lt j e).1;omega));have HO:=V g1
      obtain⟨ta,tm,tc,a5⟩:=g1.bytesAt.1.slice'
      subst a5
      clear g1 g2 a1
      refine a0.o _ _ hA ?_
      clear a0
      simp only[zz]
      refine tlZ 13 ?_
      simp only[List.drop]
      have a4:=V (Zt HO.o HX.o (by decide))
      have c0:=Zf HX.o
      have f0:w1.frozen? ⟨_,0,none⟩=false:=Zb HX.o
      go_wp2
      go_meet
      case rel=>
       have a3:=Zd w1 bo 0 (.slice ta tm tc)
       refine⟨_,rfl,⟨.slice ta tm tc,?_,OwnB.keptF HO.o a3 (fun k hk e=>a4.o k hk e),a4.o,a2.o,HU.o.step a3 (fun j hj e=>by have:=a2.o;omega)⟩,?_⟩
       ·have:=Ze (i:=0) (v:=.slice ta tm tc) HX.o
        simpa using this
       ·refine(a3.block _ (Za hA) (fun e=>?_)).trans hA
        have e1:=HX.o
        rw[←e,hA] at e1
        injection e1 with e1
        injection e1 with _ e2 _
        exact absurd e2 (by decide)
    ·have a0:=V hK
     clear hK
     go_step
     have ua:U0 WA (WA.alloc (.cells #[.slice none 0 0] 39)):=(Upd.refl _ _).alloc _
     have a2:=V HU.o.size
     have HX:=V (Zc (w:=WA) (o:=.cells #[.slice none 0 0] 39) rfl)
     have hA:=kb ua hA
     have HU:=V (HU.o.trans ua)
     have HO:=V (OwnB.keptF HO.o ua n3Z)
     clear ua
     refine a0.o _ _ hA ?_
     clear a0
     simp only[zz]
     generalize WA.alloc (.cells #[.slice none 0 0] 39)=WAX at HX hA HU HO ⊢
     generalize WA.heap.size=bo at HX a2 ⊢
     refine doZ 10 (fun K a0=>?_)
     go_step
     have ub:U0 WAX (WAX.alloc (.cells #[.int .u8 (flagF B.large),.int .u8 ns] 5)):=(Upd.refl _ _).alloc _
     have a1:=V (Zd6 WAX (flagF B.large) ns)
     have hA:=kb ub hA
     have HX:=V (kb ub HX.o)
     have HU:=V (HU.o.trans ub);have HO:=V (OwnB.keptF HO.o ub n3Z)
     generalize hWB:WAX.alloc (.cells #[.int .u8 (flagF B.large),.int .u8 ns] 5)=WB at a1 hA HU HO HX ub ⊢
     clear ub hWB
     refine a0.o _ _ hA ?_
     clear a0
     simp only[zz]
     refine doZ 11 (fun K a0=>?_)
     refine Y8 (.tmp 9) (.tmp 17) rfl rfl HO.o rfl a1.o (by simp[layF_length]) HU.o.size ?_
     intro v1 w1 g1 g2
     have hA:=(g2.block _ (Za hA) (fun e=>Zt HO.o hA (by decide) _ e rfl)).trans hA
     have HX:=V ((g2.block _ (Za HX.o) (fun e=>Zt HO.o HX.o (by decide) _ e rfl)).trans HX.o)
     have HU:=V (HU.o.step g2 (fun j hj e=>by have:=(HO.o.lt j e).1;omega));have HO:=V g1
     obtain⟨ta,tm,tc,a5⟩:=g1.bytesAt.1.slice'
     subst a5
     clear g1 g2 a1
     refine a0.o _ _ hA ?_
     clear a0
     simp only[zz]
     refine tlZ 13 ?_
     simp only[List.drop]
     have a4:=V (Zt HO.o HX.o (by decide))
     have c0:=Zf HX.o
     have f0:w1.frozen? ⟨_,0,none⟩=false:=Zb HX.o
     go_wp2
     go_meet
     case rel=>
      have a3:=Zd w1 bo 0 (.slice ta tm tc)
      refine⟨_,rfl,⟨.slice ta tm tc,?_,OwnB.keptF HO.o a3 (fun k hk e=>a4.o k hk e),a4.o,a2.o,HU.o.step a3 (fun j hj e=>by have:=a2.o;omega)⟩,?_⟩
      ·have:=Ze (i:=0) (v:=.slice ta tm tc) HX.o
       simpa using this
      ·refine(a3.block _ (Za hA) (fun e=>?_)).trans hA
       have e1:=HX.o
       rw[←e,hA] at e1
       injection e1 with e1
       injection e1 with _ e2 _
       exact absurd e2 (by decide)
   ·have a0:=V hK
    clear hK
    go_step
    have ua:U0 WA (WA.alloc (.cells #[.slice none 0 0] 39)):=(Upd.refl _ _).alloc _
    have a2:=V HU.o.size
    have HX:=V (Zc (w:=WA) (o:=.cells #[.slice none 0 0] 39) rfl)
    have hA:=kb ua hA
    have HU:=V (HU.o.trans ua)
    have HO:=V (OwnB.keptF HO.o ua n3Z)
    clear ua
    refine a0.o _ _ hA ?_
    clear a0
    simp only[zz]
    generalize WA.alloc (.cells #[.slice none 0 0] 39)=WAX at HX hA HU HO ⊢
    generalize WA.heap.size=bo at HX a2 ⊢
    refine doZ 5 (fun K a0=>?_)
    go_step
    refine(Zdr B.large _).mono ?_
    rintro e wf ⟨rfl,rfl⟩
    simp only[]
    refine a0.o _ _ hA ?_
    clear a0
    simp only[zz]
    refine doZ 10 (fun K a0=>?_)
    go_step
    have ub:U0 WAX (WAX.alloc (.cells #[.int .u8 (flagF B.large),.int .u8 ns] 5)):=(Upd.refl _ _).alloc _
    have a1:=V (Zd6 WAX (flagF B.large) ns)
    have hA:=kb ub hA
    have HX:=V (kb ub HX.o)
    have HU:=V (HU.o.trans ub);have HO:=V (OwnB.keptF HO.o ub n3Z)
    generalize hWB:WAX.alloc (.cells #[.int .u8 (flagF B.large),.int .u8 ns] 5)=WB at a1 hA HU HO HX ub ⊢
    clear ub hWB
    refine a0.o _ _ hA ?_
    clear a0
    simp only[zz]
    refine doZ 11 (fun K a0=>?_)
    refine Y8 (.tmp 9) (.tmp 17) rfl rfl HO.o rfl a1.o (by simp[layF_length]) HU.o.size ?_
    intro v1 w1 g1 g2
    have hA:=(g2.block _ (Za hA) (fun e=>Zt HO.o hA (by decide) _ e rfl)).trans hA
    have HX:=V ((g2.block _ (Za HX.o) (fun e=>Zt HO.o HX.o (by decide) _ e rfl)).trans HX.o)
    have HU:=V (HU.o.step g2 (fun j hj e=>by have:=(HO.o.lt j e).1;omega));have HO:=V g1
    obtain⟨ta,tm,tc,a5⟩:=g1.bytesAt.1.slice'
    subst a5
    clear g1 g2 a1
    refine a0.o _ _ hA ?_
    clear a0
    simp only[zz]
    refine tlZ 13 ?_
    simp only[List.drop]
    have a4:=V (Zt HO.o HX.o (by decide))
    have c0:=Zf HX.o
    have f0:w1.frozen? ⟨_,0,none⟩=false:=Zb HX.o
    go_wp2
    go_meet
    case rel=>
     have a3:=Zd w1 bo 0 (.slice ta tm tc)
     refine⟨_,rfl,⟨.slice ta tm tc,?_,OwnB.keptF HO.o a3 (fun k hk e=>a4.o k hk e),a4.o,a2.o,HU.o.step a3 (fun j hj e=>by have:=a2.o;omega)⟩,?_⟩
     ·have:=Ze (i:=0) (v:=.slice ta tm tc) HX.o
      simpa using this
     ·refine(a3.block _ (Za hA) (fun e=>?_)).trans hA
      have e1:=HX.o
      rw[←e,hA] at e1
      injection e1 with e1
      injection e1 with _ e2 _
      exact absurd e2 (by decide)
  ·have a0:=V hK
   clear hK
   go_step
   have ua:U0 wd (wd.alloc (.cells #[.slice none 0 0] 39)):=(Upd.refl _ _).alloc _
   have a2:=V HU.o.size
   have HX:=V (Zc (w:=wd) (o:=.cells #[.slice none 0 0] 39) rfl)
   have hA:=kb ua hA
   have HU:=V (HU.o.trans ua)
   clear ua
   refine a0.o _ _ hA ?_
   clear a0
   simp only[zz]
   generalize wd.alloc (.cells #[.slice none 0 0] 39)=wdX at HX hA HU ⊢
   generalize wd.heap.size=bo at HX a2 ⊢
   refine doZ 2 (fun K a0=>?_)
   go_step
   refine(Zi9 (v:=.slice none 0 0) (bs:=[]) (x:=B.epoch) _ (by simp) (.inl ⟨rfl,rfl⟩) d2.o).mono ?_
   rintro e WA ⟨u,rfl,g1,g2⟩
   have hA:=kb g2 hA
   have HX:=V (kb g2 HX.o)
   have HO:=V (OwnB.mono g1 HU.o.size)
   have HU:=V (HU.o.trans g2)
   clear g1 g2
   simp only[]
   refine a0.o _ _ hA ?_
   clear a0
   simp only[zz]
   refine doZ 5 (fun K a0=>?_)
   go_step
   refine(Zdr B.large _).mono ?_
   rintro e wf ⟨rfl,rfl⟩
   simp only[]
   refine a0.o _ _ hA ?_
   clear a0
   simp only[zz]
   refine doZ 10 (fun K a0=>?_)
   go_step
   have ub:U0 WA (WA.alloc (.cells #[.int .u8 (flagF B.large),.int .u8 ns] 5)):=(Upd.refl _ _).alloc _
   have a1:=V (Zd6 WA (flagF B.large) ns)
   have hA:=kb ub hA
   have HX:=V (kb ub HX.o)
   have HU:=V (HU.o.trans ub);have HO:=V (OwnB.keptF HO.o ub n3Z)
   generalize hWB:WA.alloc (.cells #[.int .u8 (flagF B.large),.int .u8 ns] 5)=WB at a1 hA HU HO HX ub ⊢
   clear ub hWB
   refine a0.o _ _ hA ?_
   clear a0
   simp only[zz]
   refine doZ 11 (fun K a0=>?_)
   refine Y8 (.tmp 9) (.tmp 17) rfl rfl HO.o rfl a1.o (by simp[layF_length]) HU.o.size ?_
   intro v1 w1 g1 g2
   have hA:=(g2.block _ (Za hA) (fun e=>Zt HO.o hA (by decide) _ e rfl)).trans hA
   have HX:=V ((g2.block _ (Za HX.o) (fun e=>Zt HO.o HX.o (by decide) _ e rfl)).trans HX.o)
   have HU:=V (HU.o.step g2 (fun j hj e=>by have:=(HO.o.lt j e).1;omega));have HO:=V g1
   obtain⟨ta,tm,tc,a5⟩:=g1.bytesAt.1.slice'
   subst a5
   clear g1 g2 a1
   refine a0.o _ _ hA ?_
   clear a0
   simp only[zz]
   refine tlZ 13 ?_
   simp only[List.drop]
   have a4:=V (Zt HO.o HX.o (by decide))
   have c0:=Zf HX.o
   have f0:w1.frozen? ⟨_,0,none⟩=false:=Zb HX.o
   go_wp2
   go_meet
   case rel=>
    have a3:=Zd w1 bo 0 (.slice ta tm tc)
    refine⟨_,rfl,⟨.slice ta tm tc,?_,OwnB.keptF HO.o a3 (fun k hk e=>a4.o k hk e),a4.o,a2.o,HU.o.step a3 (fun j hj e=>by have:=a2.o;omega)⟩,?_⟩
    ·have:=Ze (i:=0) (v:=.slice ta tm tc) HX.o
     simpa using this
    ·refine(a3.block _ (Za hA) (fun e=>?_)).trans hA
     have e1:=HX.o
     rw[←e,hA] at e1
     injection e1 with e1
     injection e1 with _ e2 _
     exact absurd e2 (by decide)
 case rest=>
  obtain⟨bo,rfl,hE,hX⟩:=hcut
  have HE:=V hE
  obtain⟨z0,z1,z2⟩:=Zk hX
  have g0:w.heap.size<wc.heap.size:=Za hX
  clear hE hX f3 d6 hA HU
  have b0: ∀x∈B.sets,x.right=true:=by
   have:=HR.o
   simp only[BatchV.right,Bool.and_eq_true,decide_eq_true_eq,List.all_eq_true] at this
   exact this.1.2
  have b1:=V b0
  obtain⟨hd,b7⟩: ∃hd,hd=layF B.epoch 64++[flagF B.large,ns]:=⟨_,rfl⟩
  have d1:hd.length=10:=by rw[b7];simp[layF_length]
  rw[←b7] at HE
  have e6:=V b7;have f6:=V d1
  clear b0 b7 d1
  go_upto_region 4 with fail
  go_loopg [23] B.sets.length (fun gk i wr=> ∃k:Nat,k≤B.sets.length∧gk=B.sets.length - k∧i=.int .i64 k∧EncAt w wr bo (hd++Yc (B.sets.take k)))
  case atStart=>exact⟨0,Nat.zero_le _,rfl,rfl,by simpa [Yc] using HE.o⟩
  case round=>
   obtain⟨k,hk,rfl,rfl,he⟩:=hrel
   have HE:=V he
   clear he
   by_cases c3:k<B.sets.length
   ·have e9:(k:Int)<B.sets.length:=by omega
    obtain⟨x,hx⟩: ∃x,B.sets[k]?=some x:=⟨_,List.getElem?_eq_getElem c3⟩
    obtain⟨g1,g2,g3,b,o,ea,oa,oc,na,nc,h0,h1,h2,h3,h4,h5,h6,h7,h8⟩:=HS.o k x hx
    have e0:=b1.o x (List.mem_of_getElem? hx)
    simp only[SetV.right,decide_eq_true_eq] at e0
    obtain⟨r1,r2,r3,r4,_,_⟩:=e0
    have d7:Yc (B.sets.take (k+1))=Yc (B.sets.take k)++setF x:=by
     have f2:B.sets[k]=x:=by rw[List.getElem?_eq_getElem c3] at hx;injection hx
     rw[List.take_succ_eq_append_getElem c3,f2]
     simp[Yc]
    have a7:(hd++Yc (B.sets.take k)).length≤300000:=by
     have:=Zb0 (l:=B.sets.take k) fun y hy=>b1.o y (List.mem_of_mem_take hy)
     have i0:=f6.o
     rw[List.length_append]
     simp only[List.length_take] at this
     have:6031 * min k B.sets.length≤6031 * 48:=Nat.mul_le_mul_left _ (by omega)
     omega
    subst ea
    obtain⟨v0,e1,e2,e3,e4,e5⟩:=HE.o
    have kc: ∀{o:Nat} {v:Value},w.cell? ⟨b,o,none⟩=some v→wr.cell? ⟨b,o,none⟩=some v:=fun h=>Zo e5 id h
    have q0:=kc h0;have q1:=kc h1;have q2:=kc h2;have q3:=kc h3;have q4:=kc h4
    obtain⟨a9,a8⟩: ∃a9,a9=hd++Yc (B.sets.take k):=⟨_,rfl⟩
    rw[←a8] at e2 a7
    have H5:=V h5;have H6:=V h6;have g4:=V d7;have c7:=V a8;have a6:=V a7
    have d5:=V e4
    have c4:IntKind.u8.wrap (x.name.size:Int)=x.name.size:=by rw[IntKind.wrap_u8];omega
    obtain⟨nl,b9⟩: ∃nl:Int,nl=(x.name.size:Int):=⟨_,rfl⟩
    have f5:=V b9
    rw[←b9] at c4
    have c4:IntKind.u8.wrap (x.name.size:Int)=nl:=by rw[←b9];exact c4
    have c5:=e1
    have f1:=V e5;have f9:=V e2
    clear hx h0 h1 h2 h3 h4 h5 h6 kc d7 a7 a8 e1 e2 e3 e5 e4 b9
    go_upto_region 6 with fail
    obtain⟨b6,b5⟩: ∃b6,b6=wr.heap.size:=⟨_,rfl⟩
    obtain⟨w3,b4⟩: ∃w3,w3=wr.alloc (.cells #[.string x.name,.bool x.was,.bool x.is,.slice oa x.old.length oc,.slice na x.new.length nc] 73):=⟨_,rfl⟩
    rw[←b4,←b5]
    have b3:U0 wr w3:=by rw[b4];exact(Upd.refl _ wr).alloc _
    have d4:w3.heap[b6]?=some (.cells #[.string x.name,.bool x.was,.bool x.is,.slice oa x.old.length oc,.slice na x.new.length nc] 73 (0,0)):=by rw[b4];exact Zc b5
    have hA:w3.drew.heap[bo]?=some (.cells #[v0] 39 (0,0))∧w3.drew.heap[b6]?=some (.cells #[.string x.name,.bool x.was,.bool x.is,.slice oa x.old.length oc,.slice na x.new.length nc] 73 (0,0)):=⟨kb b3 c5,d4⟩
    have HU:=V ((f1.o.trans b3).drew)
    have HO:=V (show OwnB w3.drew w.heap.size v0 a9 from OwnB.keptF f9.o b3.drew n3Z)
    have i1:bo<b6:=by rw[b5];exact Za c5
    clear b4 b5 b3 d4 c5 q0 q1 q2 q3 q4 z0 z1
    refine Zj 10 (fun W=>W.heap[bo]?=some (.cells #[v0] 39 (0,0))∧W.heap[b6]?=some (.cells #[.string x.name,.bool x.was,.bool x.is,.slice oa x.old.length oc,.slice na x.new.length nc] 73 (0,0))) [false,false,false,false,false,false,false,false,false,false,false] rfl (by kernel_rfl) ?_
    generalize w3.drew=wd at hA HU HO ⊢
    refine tqZ 0 (v0) [9,6] hA (fun w5 q1=>?_) ?_
    ·have c0:=Zf q1.1
     go_simp
    simp only[zz]
    refine tpZ 1 (.pointer (some ⟨b6,0,none⟩)) hA ?_
    simp only[zz]
    refine tqZ 2 (.string x.name) [9,6,5,4,3] hA (fun w5 q1=>?_) ?_
    ·obtain⟨x0,x1,x2,x3,x4⟩:=Zu q1.2
     go_simp
    simp only[zz]
    refine tpZ 3 (.int .i64 x.name.size) hA ?_
    simp only[zz]
    refine tpZ 4 (.int .u8 nl) hA ?_
    simp only[zz]
    refine tpZ 7 (.pointer (some ⟨b6,0,none⟩)) hA ?_
    simp only[zz]
    refine tqZ 8 (.string x.name) [9] hA (fun w5 q1=>?_) ?_
    ·obtain⟨x0,x1,x2,x3,x4⟩:=Zu q1.2
     go_simp
    simp only[zz]
    refine doZ 5 (fun K a0=>?_)
    go_step
    have ua:U0 wd (wd.alloc (.cells #[.int .u8 nl] 5)):=(Upd.refl _ _).alloc _
    have a1:=V (Zfo wd nl)
    have hA:=And.intro (kb ua hA.1) (kb ua hA.2)
    have HU:=V (HU.o.trans ua);have HO:=V (OwnB.keptF HO.o ua n3Z)
    refine a0.o _ _ hA ?_
    generalize wd.alloc (.cells #[.int .u8 nl] 5)=we at a1 hA HU HO ⊢
    clear ua
    clear a0
    simp only[zz]
    refine doZ 6 (fun K a0=>?_)
    refine Y8 (.tmp 27) (.tmp 32) rfl rfl HO.o rfl a1.o (by have:=a6.o;simp;omega) HU.o.size ?_
    intro v1 w4 g1 g2
    have hA:=And.intro ((g2.block _ (Za hA.1) (fun e=>Zt HO.o hA.1 (by decide) _ e rfl)).trans hA.1) ((g2.block _ (Za hA.2) (fun e=>Zt HO.o hA.2 (by decide) _ e rfl)).trans hA.2)
    have HU:=V (HU.o.step g2 (fun j hj e=>by have:=(HO.o.lt j e).1;omega));have HO:=V g1
    refine a0.o _ _ hA ?_
    clear g1 g2
    clear a0
    simp only[zz]
    refine doZ 9 (fun K a0=>?_)
    refine Zmv (.tmp 33) (.tmp 35) rfl rfl HO.o rfl (by have:=a6.o;simp;omega) HU.o.size ?_
    intro v2 w5 g1 g2
    have hA:=And.intro ((g2.block _ (Za hA.1) (fun e=>Zt HO.o hA.1 (by decide) _ e rfl)).trans hA.1) ((g2.block _ (Za hA.2) (fun e=>Zt HO.o hA.2 (by decide) _ e rfl)).trans hA.2)
    have HU:=V (HU.o.step g2 (fun j hj e=>by have:=(HO.o.lt j e).1;omega));have HO:=V g1
    obtain⟨ta,tm,tc,a5⟩:=g1.bytesAt.1.slice'
    refine a0.o _ _ hA ?_
    clear g1 g2
    subst a5
    clear a0
    simp only[zz]
    refine tlZ 10 ?_
    simp only[List.drop]
    have a4:=V (Zt HO.o hA.1 (by decide))
    have c0:=Zf hA.1
    have f0:w5.frozen? ⟨bo,0,none⟩=false:=Zb hA.1
    have HA:=V hA
    clear hA
    go_upto_region 7 with fail
    obtain⟨w6,b2⟩: ∃w6,w6=w5.setCell ⟨bo,0,none⟩ (.slice ta tm tc):=⟨_,rfl⟩
    rw[←b2]
    have b8:Upd (fun k=>k=bo) w5 w6:=by rw[b2];exact Zd w5 bo 0 _
    have d0:EncAt w w6 bo (a9++[nl]++numsOf x.name):=by
     refine⟨.slice ta tm tc,?_,OwnB.keptF HO.o b8 (fun k hk e=>a4.o k hk e),a4.o,d5.o,HU.o.step b8 (fun j hj e=>by have:=d5.o;omega)⟩
     rw[b2]
     have:=Ze (i:=0) (v:=.slice ta tm tc) HA.o.1
     simpa using this
    have c6:w6.heap[b6]?=some (.cells #[.string x.name,.bool x.was,.bool x.is,.slice oa x.old.length oc,.slice na x.new.length nc] 73 (0,0)):=(b8.block _ (Za HA.o.2) (by omega)).trans HA.o.2
    obtain⟨x0,x1,x2,x3,x4⟩:=Zu c6
    have f8:=V d0;have f4:=V c6
    clear b2 b8 d0 c6 c0 f0 HA HO HU a4
    go_wp2_with (go_at_call 146;fail)
    refine(Zhs w w6 f8.o H5.o (by omega) (by have:=a6.o;simp[Yz];omega)).mono ?_
    rintro e w7 ⟨⟨vv,rfl⟩,g5,g6⟩
    have d8:=g6 _ _ f4.o
    obtain⟨x0,x1,x2,x3,x4⟩:=Zu d8
    have f7:=V g5
    clear g5 g6 d8
    simp only[]
    go_wp2_with (go_at_call 146;fail)
    refine(Zhs w w7 f7.o H6.o (by omega) (by have:=a6.o;simp[Yz,Ye,layF_length];omega)).mono ?_
    rintro e w8 ⟨⟨g9,rfl⟩,g5,g6⟩
    have e7:=V g5
    clear g5 g6 x0 x1 x2 x3 x4
    simp only[]
    go_wp2
    go_roundg (B.sets.length - (k+1))
    case measure=>omega
    case rel=>
     refine⟨k+1,by omega,rfl,congrArg _ (by omega),?_⟩
     have e8:=e7.o
     have:hd++Yc (B.sets.take (k+1))=a9++[nl]++numsOf x.name++Ye x.was x.old++Ye x.is x.new:=by
      rw[g4.o,←List.append_assoc,←c7.o]
      have:setF x=nl :: (numsOf x.name++(Ye x.was x.old++Ye x.is x.new)):=by
       rw[f5.o]
       simp only[setF]
       congr 1
       omega
      rw[this]
      simp
     rw[this]
     exact e8
   ·obtain rfl:k=B.sets.length:=by omega
    have he:=HE.o
    rw[List.take_of_length_le (Nat.le_refl _)] at he
    obtain⟨v0,e1,e2,e3,e4,e5⟩:=he
    have c0:=Zf e1
    obtain⟨va,vm,vc,rfl⟩:=e2.bytesAt.1.slice'
    have E2:=V e2;have E5:=V e5
    clear e1 e2 e3 e4 e5
    go_wp2
    go_ret
    have hh:=e6.o
    refine⟨_,rfl,?_,E5.out⟩
    have:encF B=hd++Yc B.sets:=by rw[hh,g7.o];simp[encF]
    rw[this]
    exact E2.out
theorem Ztu (h:0≤x∧x≤18446744073709551615):bits .and .u64 x 255=x % 256:=by
 rw[u64_and x 255 h.1 (by omega) (by omega) (by omega)]
 have:(255:Int).toNat=255:=rfl
 rw[this,nat_mask8]
 omega
theorem Zt2 {b:Int}(h0:0≤x)(h1:x<72057594037927936)(h2:0≤b)(h3:b≤255):bits .or .u64 (x * 256) b=x * 256+b:=by
 obtain⟨B,rfl⟩:=Int.eq_ofNat_of_zero_le h2
 obtain⟨X,rfl⟩:=Int.eq_ofNat_of_zero_le h0
 have e:(X:Int) * 256=((2 ^ 8 * X:Nat):Int):=by rw[Int.mul_comm];push_cast;rfl
 rw[e,u64_or_nat _ _ (by omega) (by omega),←Nat.two_pow_add_eq_or_of_lt (by omega)]
 push_cast
 rfl
theorem Zp2 (x:Int):layF x 0=[]:=rfl
theorem Zp4 (x:Int)(n:Nat):layF x (8 * (n+1))=layF (x / 256) (8 * n)++[x % 256]:=by
 have e1:8 * (n+1) / 8=n+1:=by omega
 have e2:8 * n / 8=n:=by omega
 simp only[layF,e1,e2,List.range_succ,List.map_append,List.map_cons,List.map_nil]
 congr 1
 ·refine List.map_congr_left fun i hi=>?_
  have a0:i<n:=by simpa using hi
  have:(2:Int) ^ (8 * (n+1) - 8 * (i+1))=256 * 2 ^ (8 * n - 8 * (i+1)):=by
   rw[show 8 * (n+1) - 8 * (i+1)=8+(8 * n - 8 * (i+1)) by omega,Int.pow_add]
   rfl
  rw[this,Int.ediv_ediv_of_nonneg (by omega)]
 ·simp
theorem Zep: ∀(n:Nat) (x:Int) (w:World),n≤8→0≤x∧x≤18446744073709551615→Calls Tryz.prog 83 #[.int .u64 x,.int .i64 n] w fun e w'=> ∃u,e=.returned u∧OwnB w' w.heap.size u (layF x (8 * n))∧U0 w w'
 | 0,x,w,_,hx=>by
  go_enter Tryz.func83,Tryz.ntmps83
  go_wp2
  go_ret
  exact⟨_,rfl,by rw[Nat.mul_zero,Zp2];exact World.ownsRow_nil _ _ _ _,Upd.refl _ _⟩
 |n+1,x,w,hn,hx=>by
  have HC:=V (Zep n (x / 256) w (by omega) (by omega))
  have ha:=Ztu hx
  have hw8:IntKind.u8.wrap (x % 256)=x % 256:=by rw[IntKind.wrap_u8];omega
  have a4: ¬(((n+1:Nat):Int)=0):=by omega
  have a2:((n+1:Nat):Int) - 1=n:=by omega
  have HX:=V hx;have HN:=V hn
  have a5:((n+1:Nat):Int)≤8:=by omega
  clear hx hn
  go_enter Tryz.func83,Tryz.ntmps83
  go_wp2_with (go_at_call 83;fail)
  refine HC.o.mono ?_
  rintro e w1 ⟨u,rfl,ho,hu⟩
  obtain⟨ua,um,uc,rfl⟩:=ho.bytesAt.1.slice'
  have HO:=V ho;have HU:=V hu
  have a3:(layF (x / 256) (8 * n)).length≤8:=by rw[layF_length];omega
  clear ho hu HC
  simp only[]
  iterate 13 go_step
  refine Y7 (bs:=layF (x / 256) (8 * n)) (cs:=[x % 256]) rfl (.tmp 11) (.tmp 15) rfl rfl (OwnB.keptF HO.o ((Upd.refl (fun _=>False) w1).alloc _) n3Z) rfl ?_ (by simp only[List.length_cons,List.length_nil];omega) (Nat.le_trans HU.o.size (by simp)) ?_
  ·exact Zfo w1 (x % 256)
  intro v2 w2 g1 g2
  obtain⟨va,vm,vc,rfl⟩:=g1.bytesAt.1.slice'
  have a1:=V g1
  have a0:=V ((HU.o.trans ((Upd.refl (fun _=>False) w1).alloc _)).step g2 (fun j hj e=>by have:=(HO.o.lt j e).1;omega))
  clear g1 g2
  go_wp2
  go_ret
  exact⟨_,rfl,by rw[Zp4];exact a1.o,a0.o⟩
theorem Zt1 (m:Nat)(h:m≤7):(256:Int) ^ m≤72057594037927936:=by
 obtain rfl | rfl | rfl | rfl | rfl | rfl | rfl | rfl:m=0∨m=1∨m=2∨m=3∨m=4∨m=5∨m=6∨m=7:=by omega
 all_goals decide
theorem Zhq (w:World)(hv:BytesIn w v bs)(hB:Bytes bs)(hl:bs.length≤8):
  Calls Tryz.prog 85 #[v] w fun e w'=>e=.returned (.int .u64 (beF bs))∧w=w':=by
 obtain⟨a,c,rfl,b1,a8⟩: ∃a c,v=.slice a bs.length c∧bs.length≤c∧c≤maxLen:=by
  rcases hv with ⟨rfl,rfl⟩ | ⟨a,c,h1,h2,h3,_⟩
  ·exact⟨none,0,rfl,by simp,by unfold maxLen;omega⟩
  ·exact⟨_,c,h1,h2,h3⟩
 have HV:=V hv;have HB:=V hB
 clear hv hB
 unfold maxLen at a8
 go_enter Tryz.func85,Tryz.ntmps85
 go_upto_region 3 with fail
 go_loopg [3,4] bs.length (fun gk x i wr=> ∃k:Nat,k≤bs.length∧gk=bs.length - k∧i=.int .i64 k∧x=.int .u64 (beF (bs.take k))∧w=wr)
 case atStart=>exact⟨0,Nat.zero_le _,rfl,rfl,rfl,rfl⟩
 case round=>
  obtain⟨k,hk,rfl,rfl,rfl,rfl⟩:=hrel
  by_cases a6:k<bs.length
  ·have a9:(k:Int)<bs.length:=by omega
   obtain⟨b,hb⟩: ∃b,bs[k]?=some b:=⟨_,List.getElem?_eq_getElem a6⟩
   have a3:=HB.o b (List.mem_of_getElem? hb)
   have a1:Bytes (bs.take k):=fun x hx=>HB.o x (List.mem_of_mem_take hx)
   have a5:=Zca a1
   have a2:beF (bs.take k)<72057594037927936:=by
    have h1:=Zia a1
    have h2:(bs.take k).length≤7:=by simp;omega
    have h4:=Zt1 _ h2
    omega
   have a0:beF (bs.take (k+1))=beF (bs.take k) * 256+b:=by
    rw[List.take_add_one,hb]
    show List.foldl _ 0 (List.take k bs++[b])=_
    rw[List.foldl_append]
    rfl
   rcases HV.o with ⟨e,_⟩ | ⟨a',c',e,_,_,a4⟩
   ·injection e with e1 e2 e3;omega
   injection e with e1 e2 e3
   subst e1 e3
   clear e2
   have q:w.cell? (a'.add k)=some (.int .u8 b):=a4 k _ (by rw[bcells,List.getElem?_map,hb];rfl)
   obtain⟨x,hx⟩: ∃x,x=beF (bs.take k):=⟨_,rfl⟩
   rw[←hx] at a5 a2 a0 ⊢
   have ho:=Zt2 a5 a2 a3.1 a3.2
   have hw:IntKind.u64.wrap (x * 256)=x * 256:=by rw[IntKind.wrap_u64];omega
   have b0:IntKind.u64.wrap b=b:=by rw[IntKind.wrap_u64];omega
   have a7:=V a0;have HX:=V hx
   clear a0 hx hb a4
   go_wp2
   go_roundg (bs.length - (k+1))
   case measure=>omega
   case rel=>exact⟨k+1,by omega,rfl,congrArg _ (by omega),congrArg _ a7.o.symm,rfl⟩
  ·obtain rfl:k=bs.length:=by omega
   go_wp2
   go_ret
   exact⟨by rw[List.take_of_length_le (Nat.le_refl _)];rfl,rfl⟩
theorem Zs1 {B g:Nat}(h:W.heap[g]?=some (.cells #[.int .u8 x] 5 (0,0)))(hb:B≤g):OwnB W B (.slice (some ⟨g,0,none⟩) 1 1) [x]:=
 ⟨rfl,.inr ⟨g,1,_,rfl,hb,h,Nat.le_refl _,by unfold maxLen;omega,rfl,rfl⟩⟩
theorem Zi4 {f:Bool}{xa:Option Addr}{xs:List Int}{xc:Nat}(w:World)(hx:BytesIn w (.slice xa xs.length xc) xs)(hl:xs.length≤65535):
  Calls Tryz.prog 84 #[.bool f,.slice xa xs.length xc] w fun e w'=> ∃u,e=.returned u∧OwnB w' w.heap.size u (Ye f xs)∧U0 w w':=by
 have b4:IntKind.u64.wrap (xs.length:Int)=xs.length:=by rw[IntKind.wrap_u64];omega
 have HX:=V hx
 clear hx
 go_enter Tryz.func84,Tryz.ntmps84
 go_upto_region 2 with fail
 obtain⟨g,hg⟩: ∃g,g=w.heap.size:=⟨_,rfl⟩
 obtain⟨w1,a2⟩: ∃w1,w1=w.alloc (.cells #[.int .u8 0] 5):=⟨_,rfl⟩
 rw[←a2,←hg]
 have a7:U0 w w1:=by rw[a2];exact(Upd.refl _ w).alloc _
 have a1:w1.heap[g]?=some (.cells #[.int .u8 0] 5 (0,0)):=by rw[a2];exact Zc hg
 have c0:=Zf a1
 have f0:w1.frozen? ⟨g,0,none⟩=false:=Zb a1
 have a5:=V a1;have a4:=V a7;have HG:=V hg
 clear a2 a7 a1 hg
 go_upto_if 7 with fail
 go_cut [] from 8 to 17 (fun wx=>wx.heap[g]?=some (.cells #[.int .u8 (flagF f)] 5 (0,0))∧U0 w wx)
 case first=>
  cases f
  ·go_wp2
   go_meet
   case rel=>exact⟨a5.o,a4.o⟩
  ·go_wp2
   go_meet
   case rel=>
    refine⟨?_,a4.o.step (Zd w1 g 0 _) (fun k hk e=>by have:=HG.o;omega)⟩
    have:=Ze (i:=0) (v:=.int .u8 1) a5.o
    simpa [flagF] using this
 case rest=>
  obtain⟨a6,a8⟩:=hcut
  have a0:=V (Zs1 (B:=w.heap.size) a6 (by have:=HG.o;omega))
  have b1:=V a8
  clear a6 a8 a5 a4 c0 f0
  go_wp2_with (go_at_call 83;fail)
  refine(Zep 2 (xs.length:Int) wc (by omega) (by omega)).mono ?_
  rintro e w3 ⟨u,rfl,ho,hu⟩
  obtain⟨ua,um,uc,rfl⟩:=ho.bytesAt.1.slice'
  have a0:=V (OwnB.keptF a0.o hu n3Z)
  have b0:=V (b1.o.trans hu)
  have HB:=V ho.bytesIn
  clear ho hu
  simp only[]
  go_step
  refine Y7 (bs:=[flagF f]) (cs:=layF (xs.length:Int) (8 * 2)) rfl (.tmp 10) (.tmp 14) rfl rfl a0.o rfl HB.o (by simp only[List.length_cons,List.length_nil,layF_length];omega) b0.o.size ?_
  intro v4 w4 g1 g2
  have a9:=V g1
  have a3:=V (b0.o.step g2 (fun j hj e=>by have:=(a0.o.lt j e).1;omega))
  clear g1 g2
  iterate 3 go_step
  refine Y7 (bs:=[flagF f]++layF (xs.length:Int) (8 * 2)) (cs:=xs) rfl (.tmp 15) (.tmp 16) rfl rfl a9.o rfl (HX.o.kept a3.o) (by simp only[List.length_append,List.length_cons,List.length_nil,layF_length];omega) a3.o.size ?_
  intro v5 w5 g1 g2
  obtain⟨va,vm,vc,rfl⟩:=g1.bytesAt.1.slice'
  have b3:=V g1
  have b2:=V (a3.o.step g2 (fun j hj e=>by have:=(a9.o.lt j e).1;omega))
  clear g1 g2
  go_wp2
  go_ret
  exact⟨_,rfl,by have:=b3.o;simpa [Ye] using this,b2.o⟩
theorem OwnB.shape {B:Nat}(h:OwnB W B v bs)(hn:0<bs.length): ∃g cap cs,v=.slice (some ⟨g,0,none⟩) bs.length cap∧W.heap[g]?=some (.cells cs 5 (0,0))∧bs.length≤cs.size:=by
 rcases h.2 with ⟨_,e0⟩ | ⟨g,cap,a0,e0,_,hg,h1,_,h3,_⟩
 ·omega
 ·exact⟨g,cap,a0,e0,hg,by omega⟩
theorem Zb3 (w:World)(hs:SetsIn w a B.sets)(hr:B.right=true)(hk:B.Ok):
  Calls Tryz.prog 25 #[batchV B a c] w fun e w'=> ∃u,e=.returned u∧OwnB w' w.heap.size u (encF B)∧U0 w w':=by
 have f6:B.sets.length≤48:=by
  simp only[BatchV.right,Bool.and_eq_true,decide_eq_true_eq] at hr
  exact hr.1.1.2
 have HS:=V hs;have HR:=V hr;have c7:=V hk.epoch
 obtain⟨ns,c3⟩: ∃ns,ns=(B.sets.length:Int) % 256:=⟨_,rfl⟩
 have f2:IntKind.u8.wrap (B.sets.length:Int)=ns:=by rw[IntKind.wrap_u8,c3]
 have f0:=V c3
 obtain⟨w1,c8,d2,b9⟩:=nb w (.cells #[.int .u64 B.epoch,.bool B.large,.slice a B.sets.length c] 56)
 have hA:w1.drew.heap[w.heap.size]?=some (.cells #[.int .u64 B.epoch,.bool B.large,.slice a B.sets.length c] 56 (0,0)):=b9
 have HU:=V d2.drew
 have d0:=V c8;have e3:=V b9
 clear hs hr hk c3 c8 d2 b9
 unfold batchV
 go_enter Tryz.func25,Tryz.ntmps25
 go_upto_region 1 with fail
 rw[←d0.o]
 go_cut [3] from 6 to 50 (fun x wx=>OwnB wx w.heap.size x (layF B.epoch 64++[0,ns])∧U0 w wx∧wx.heap[w.heap.size]?=some (.cells #[.int .u64 B.epoch,.bool B.large,.slice a B.sets.length c] 56 (0,0)))
 case first=>
  refine Zj 9 (fun W=>W.heap[w.heap.size]?=some (.cells #[.int .u64 B.epoch,.bool B.large,.slice a B.sets.length c] 56 (0,0))) [false,false,false,false,false,false,false,false,false,false] rfl (by kernel_rfl) ?_
  generalize w1.drew=wd at hA HU ⊢
  refine tpZ 0 (.pointer (some ⟨w.heap.size,0,none⟩)) hA ?_
  simp only[zz]
  refine tqZ 1 (.int .u64 B.epoch) [8,2] hA (fun w5 q1=>?_) ?_
  ·obtain⟨c0,c1,c2⟩:=Zk q1
   go_simp
  simp only[zz]
  refine tpZ 3 (.pointer (some ⟨w.heap.size,2,none⟩)) hA ?_
  simp only[zz]
  refine tqZ 4 (.slice a B.sets.length c) [8,7,6,5] hA (fun w5 q1=>?_) ?_
  ·obtain⟨c0,c1,c2⟩:=Zk q1
   go_simp
  simp only[zz]
  refine tpZ 5 (.int .i64 B.sets.length) hA ?_
  simp only[zz]
  refine tpZ 6 (.int .u8 ns) hA ?_
  simp only[zz]
  refine Ya (i:=2) (j:=7) rfl rfl (by kernel_rfl) rfl rfl (fun K hK=>?_) (fun K hK=>?_)
  ·have a0:=V hK
   clear hK
   go_step
   refine(Zep 8 B.epoch wd (by omega) c7.o).mono ?_
   rintro e WA ⟨u,rfl,g1,g2⟩
   have hA:=kb g2 hA
   have HO:=V (OwnB.mono g1 HU.o.size)
   have HU:=V (HU.o.trans g2)
   clear g1 g2
   simp only[]
   refine a0.o _ _ hA ?_
   clear a0
   simp only[zz]
   refine doZ 7 (fun K a0=>?_)
   go_step
   have ub:U0 WA (WA.alloc (.cells #[.int .u8 0,.int .u8 ns] 5)):=(Upd.refl _ _).alloc _
   have a1:=V (Zd6 WA 0 ns)
   have hA:=kb ub hA
   have HU:=V (HU.o.trans ub)
   have HO:=V (OwnB.keptF HO.o ub n3Z)
   refine a0.o _ _ hA ?_
   generalize hWB:WA.alloc (.cells #[.int .u8 0,.int .u8 ns] 5)=WB at a1 hA HU HO ub ⊢
   clear ub hWB
   clear a0
   simp only[zz]
   refine doZ 8 (fun K a0=>?_)
   refine Y8 (.tmp 8) (.tmp 13) rfl rfl HO.o rfl a1.o (by simp[layF_length]) HU.o.size ?_
   intro v1 w3 g1 g2
   have hA:=(g2.block _ (Za hA) (fun e=>Zt HO.o hA (by decide) _ e rfl)).trans hA
   have HU:=V (HU.o.step g2 (fun j hj e=>by have:=(HO.o.lt j e).1;omega));have HO:=V g1
   obtain⟨ta,tm,tc,rfl⟩:=g1.bytesAt.1.slice'
   clear g1 g2 a1
   refine a0.o _ _ hA ?_
   clear a0
   simp only[zz]
   refine tlZ 9 ?_
   simp only[List.drop]
   go_wp2
   go_meet
   case rel=>exact⟨HO.o,HU.o,hA⟩
  ·have a0:=V hK
   clear hK
   go_step
   have ub:U0 wd (wd.alloc (.cells #[.int .u8 0,.int .u8 ns] 5)):=(Upd.refl _ _).alloc _
   have a1:=V (Zd6 wd 0 ns)
   have hA:=kb ub hA
   have HU:=V (HU.o.trans ub)
   refine a0.o _ _ hA ?_
   generalize hWB:wd.alloc (.cells #[.int .u8 0,.int .u8 ns] 5)=WB at a1 hA HU ub ⊢
   clear ub hWB
   clear a0
   simp only[zz]
   refine doZ 2 (fun K a0=>?_)
   go_step
   refine(Zep 8 B.epoch WB (by omega) c7.o).mono ?_
   rintro e WA ⟨u,rfl,g1,g2⟩
   have hA:=kb g2 hA
   have HO:=V (OwnB.mono g1 HU.o.size)
   have HU:=V (HU.o.trans g2)
   have a1:=V (a1.o.kept g2)
   clear g1 g2
   simp only[]
   refine a0.o _ _ hA ?_
   clear a0
   simp only[zz]
   refine doZ 8 (fun K a0=>?_)
   refine Y8 (.tmp 8) (.tmp 13) rfl rfl HO.o rfl a1.o (by simp[layF_length]) HU.o.size ?_
   intro v1 w3 g1 g2
   have hA:=(g2.block _ (Za hA) (fun e=>Zt HO.o hA (by decide) _ e rfl)).trans hA
   have HU:=V (HU.o.step g2 (fun j hj e=>by have:=(HO.o.lt j e).1;omega));have HO:=V g1
   obtain⟨ta,tm,tc,rfl⟩:=g1.bytesAt.1.slice'
   clear g1 g2 a1
   refine a0.o _ _ hA ?_
   clear a0
   simp only[zz]
   refine tlZ 9 ?_
   simp only[List.drop]
   go_wp2
   go_meet
   case rel=>exact⟨HO.o,HU.o,hA⟩
 case rest=>
  obtain⟨ho,hu,hx⟩:=hcut
  obtain⟨g,gc,cs,rfl,a8,c9⟩:=ho.shape (by simp[layF_length])
  have b2:(layF B.epoch 64++[0,ns]).length=10:=by simp[layF_length]
  rw[b2] at ho c9 ⊢
  obtain⟨z0,z1,z2⟩:=Zk hx
  have HO:=V ho;have b3:=V hu;have HX:=V hx
  clear ho hu hx e3 d0 hA HU
  have q8: ∃y,wc.cell? ⟨g,8,none⟩=some y:=by
   rw[Zr a8]
   exact⟨_,Array.getElem?_eq_getElem (by omega)⟩
  obtain⟨y8,q8⟩:=q8
  have f8:wc.frozen? ⟨g,8,none⟩=false:=Zb a8
  have HG:=V a8
  clear a8 c9
  go_upto_if 16 with fail
  go_cut [0] from 6 to 50 (fun _ wx=>OwnB wx w.heap.size (.slice (some ⟨g,0,none⟩) 10 gc) (layF B.epoch 64++[flagF B.large,ns])∧U0 w wx∧wx.heap[w.heap.size]?=some (.cells #[.int .u64 B.epoch,.bool B.large,.slice a B.sets.length c] 56 (0,0)))
  case first=>
   cases hlg:B.large with
   |false=>
    go_wp2
    go_meet
    case rel=>exact⟨by rw[hlg];exact HO.o,b3.o,HX.o⟩
   |true=>
    go_wp2
    go_meet
    case rel=>
     have f4:=(HO.o.lt g rfl).1
     refine⟨?_,b3.o.step (Zd wc g 8 _) (fun k hk e=>by omega),?_⟩
     ·have:=(World.ownsRow.stored HO.o 8 (.int .u8 1)).1
      have e1:(bcells (layF B.epoch 64++[0,ns])).set 8 (.int .u8 1)=bcells (layF B.epoch 64++[flagF true,ns]):=by
       rw[Zeo]
       rfl
      rw[hlg]
      unfold OwnB
      rw[←e1]
      have e2:(layF B.epoch 64++[flagF true,ns]).length=(layF B.epoch 64++[0,ns]).length:=by simp
      rw[e2]
      exact this
     ·refine(Yd ?_).trans HX.o
      intro e
      have e1:=HX.o
      rw[show w.heap.size=g from e,HG.o] at e1
      injection e1 with e1
      injection e1 with _ e2 _
      exact absurd e2 (by decide)
  case rest=>
   obtain⟨ho,hu,hx⟩:=hcut
   obtain⟨z0,z1,z2⟩:=Zk hx
   have HO:=V ho;have HU:=V hu
   clear ho hu hx b3 HX HG q8 f8
   have a6: ∀x∈B.sets,x.right=true:=by
    have:=HR.o
    simp only[BatchV.right,Bool.and_eq_true,decide_eq_true_eq,List.all_eq_true] at this
    exact this.1.2
   have a7:=V a6
   obtain⟨hd,b0⟩: ∃hd,hd=layF B.epoch 64++[flagF B.large,ns]:=⟨_,rfl⟩
   have c6:hd.length=10:=by rw[b0];simp[layF_length]
   rw[←b0] at HO
   have d4:=V b0;have e6:=V c6
   clear a6 b0 c6
   go_upto_region 5 with fail
   go_loopg [3,22] B.sets.length (fun gk v i wr=> ∃k:Nat,k≤B.sets.length∧gk=B.sets.length - k∧i=.int .i64 k∧OwnB wr w.heap.size v (hd++Yc (B.sets.take k))∧U0 w wr)
   case atStart=>exact⟨0,Nat.zero_le _,rfl,rfl,by simpa [Yc] using HO.o,HU.o⟩
   case round=>
    obtain⟨k,hk,rfl,rfl,e2,e5⟩:=hrel
    by_cases b1:k<B.sets.length
    ·have d6:(k:Int)<B.sets.length:=by omega
     obtain⟨x,hx⟩: ∃x,B.sets[k]?=some x:=⟨_,List.getElem?_eq_getElem b1⟩
     obtain⟨g1,g2,g3,b,o,ea,oa,oc,na,nc,h0,h1,h2,h3,h4,h5,h6,h7,h8⟩:=HS.o k x hx
     have d3:=a7.o x (List.mem_of_getElem? hx)
     simp only[SetV.right,decide_eq_true_eq] at d3
     obtain⟨r1,r2,r3,r4,_,_⟩:=d3
     have d1:Yc (B.sets.take (k+1))=Yc (B.sets.take k)++setF x:=by
      have d9:B.sets[k]=x:=by rw[List.getElem?_eq_getElem b1] at hx;injection hx
      rw[List.take_succ_eq_append_getElem b1,d9]
      simp[Yc]
     have a3:(hd++Yc (B.sets.take k)).length≤300000:=by
      have:=Zb0 (l:=B.sets.take k) fun y hy=>a7.o y (List.mem_of_mem_take hy)
      have f7:=e6.o
      rw[List.length_append]
      simp only[List.length_take] at this
      have:6031 * min k B.sets.length≤6031 * 48:=Nat.mul_le_mul_left _ (by omega)
      omega
     subst ea
     have kc: ∀{o:Nat} {v:Value},w.cell? ⟨b,o,none⟩=some v→wr.cell? ⟨b,o,none⟩=some v:=fun h=>Zo e5 id h
     have q0:=kc h0;have q1:=kc h1;have q2:=kc h2;have q3:=kc h3;have q4:=kc h4
     obtain⟨a5,a4⟩: ∃a5,a5=hd++Yc (B.sets.take k):=⟨_,rfl⟩
     rw[←a4] at e2 a3
     have H5:=V h5;have H6:=V h6;have e9:=V d1;have b7:=V a4;have a2:=V a3
     obtain⟨nl,c4⟩: ∃nl:Int,nl=(x.name.size:Int):=⟨_,rfl⟩
     have e4:=V c4
     have f3:IntKind.u8.wrap (x.name.size:Int)=nl:=by rw[c4,IntKind.wrap_u8];omega
     have d7:=V e5;have b8:=V e2
     clear hx h0 h1 h2 h3 h4 h5 h6 kc d1 a3 a4 e2 e5 c4
     obtain⟨e0,d8,f1,c5⟩:=b8.o.bytesAt.1.slice'
     subst c5
     obtain⟨v0,c5⟩: ∃v0,v0=Value.slice e0 d8 f1:=⟨_,rfl⟩
     go_upto_region 7 with fail
     rw[←c5] at b8 ⊢
     obtain⟨b6,b5⟩: ∃b6,b6=wr.heap.size:=⟨_,rfl⟩
     obtain⟨w3,a9⟩: ∃w3,w3=wr.alloc (.cells #[.string x.name,.bool x.was,.bool x.is,.slice oa x.old.length oc,.slice na x.new.length nc] 73):=⟨_,rfl⟩
     rw[←a9,←b5]
     have b4:U0 wr w3:=by rw[a9];exact(Upd.refl _ wr).alloc _
     have hA:w3.drew.heap[b6]?=some (.cells #[.string x.name,.bool x.was,.bool x.is,.slice oa x.old.length oc,.slice na x.new.length nc] 73 (0,0)):=by
      show w3.heap[b6]?=_
      rw[a9];exact Zc b5
     have HU:=V ((d7.o.trans b4).drew)
     have HO:=V (show OwnB w3.drew w.heap.size v0 a5 from OwnB.keptF b8.o b4.drew n3Z)
     clear a9 b5 b4 q0 q1 q2 q3 q4 z0 z1 z2
     refine Zj 10 (fun W=>W.heap[b6]?=some (.cells #[.string x.name,.bool x.was,.bool x.is,.slice oa x.old.length oc,.slice na x.new.length nc] 73 (0,0))) [false,false,false,false,false,false,false,false,false,false,false] rfl (by kernel_rfl) ?_
     generalize w3.drew=wd at hA HU HO ⊢
     refine tpZ 0 (v0) hA ?_
     simp only[zz]
     refine tpZ 1 (.pointer (some ⟨b6,0,none⟩)) hA ?_
     simp only[zz]
     refine tqZ 2 (.string x.name) [9,6,5,4,3] hA (fun w5 q1=>?_) ?_
     ·obtain⟨x0,x1,x2,x3,x4⟩:=Zu q1
      go_simp
     simp only[zz]
     refine tpZ 3 (.int .i64 x.name.size) hA ?_
     simp only[zz]
     refine tpZ 4 (.int .u8 nl) hA ?_
     simp only[zz]
     refine tpZ 7 (.pointer (some ⟨b6,0,none⟩)) hA ?_
     simp only[zz]
     refine tqZ 8 (.string x.name) [9] hA (fun w5 q1=>?_) ?_
     ·obtain⟨x0,x1,x2,x3,x4⟩:=Zu q1
      go_simp
     simp only[zz]
     refine doZ 5 (fun K a0=>?_)
     go_step
     have ua:U0 wd (wd.alloc (.cells #[.int .u8 nl] 5)):=(Upd.refl _ _).alloc _
     have a1:=V (Zfo wd nl)
     have hA:=kb ua hA
     have HU:=V (HU.o.trans ua);have HO:=V (OwnB.keptF HO.o ua n3Z)
     refine a0.o _ _ hA ?_
     generalize wd.alloc (.cells #[.int .u8 nl] 5)=we at a1 hA HU HO ⊢
     clear ua
     clear a0
     simp only[zz]
     refine doZ 6 (fun K a0=>?_)
     refine Y8 (.tmp 26) (.tmp 31) rfl rfl HO.o rfl a1.o (by have:=a2.o;simp;omega) HU.o.size ?_
     intro v1 w4 g1 g2
     have hA:=(g2.block _ (Za hA) (fun e=>Zt HO.o hA (by decide) _ e rfl)).trans hA
     have HU:=V (HU.o.step g2 (fun j hj e=>by have:=(HO.o.lt j e).1;omega));have HO:=V g1
     refine a0.o _ _ hA ?_
     clear g1 g2
     clear a0
     simp only[zz]
     refine doZ 9 (fun K a0=>?_)
     refine Zmv (.tmp 32) (.tmp 34) rfl rfl HO.o rfl (by have:=a2.o;simp;omega) HU.o.size ?_
     intro v2 w5 g1 g2
     have hA:=(g2.block _ (Za hA) (fun e=>Zt HO.o hA (by decide) _ e rfl)).trans hA
     have HU:=V (HU.o.step g2 (fun j hj e=>by have:=(HO.o.lt j e).1;omega));have HO:=V g1
     obtain⟨ta,tm,tc,e7⟩:=g1.bytesAt.1.slice'
     refine a0.o _ _ hA ?_
     clear g1 g2
     subst e7
     clear a0
     simp only[zz]
     refine tlZ 10 ?_
     simp only[List.drop]
     go_upto_region 8 with fail
     have hA:w5.drew.heap[b6]?=some (.cells #[.string x.name,.bool x.was,.bool x.is,.slice oa x.old.length oc,.slice na x.new.length nc] 73 (0,0)):=hA
     have HU:=V HU.o.drew
     have HO:=V (show OwnB w5.drew w.heap.size (.slice ta tm tc) _ from HO.o)
     refine Zj 13 (fun W=>W.heap[b6]?=some (.cells #[.string x.name,.bool x.was,.bool x.is,.slice oa x.old.length oc,.slice na x.new.length nc] 73 (0,0))) [false,false,false,false,false,false,false,false,false,false,false,false,false,false] rfl (by kernel_rfl) ?_
     generalize w5.drew=wf at hA HU HO ⊢
     refine tpZ 0 (.slice ta tm tc) hA ?_
     simp only[zz]
     refine tpZ 1 (.pointer (some ⟨b6,1,none⟩)) hA ?_
     simp only[zz]
     refine tqZ 2 (.bool x.was) [12,6,5] hA (fun w5 q1=>?_) ?_
     ·obtain⟨x0,x1,x2,x3,x4⟩:=Zu q1
      go_simp
     simp only[zz]
     refine tpZ 3 (.pointer (some ⟨b6,3,none⟩)) hA ?_
     simp only[zz]
     refine tqZ 4 (.slice oa x.old.length oc) [12,6,5] hA (fun w5 q1=>?_) ?_
     ·obtain⟨x0,x1,x2,x3,x4⟩:=Zu q1
      go_simp
     simp only[zz]
     refine tpZ 7 (.pointer (some ⟨b6,2,none⟩)) hA ?_
     simp only[zz]
     refine tqZ 8 (.bool x.is) [12,11] hA (fun w5 q1=>?_) ?_
     ·obtain⟨x0,x1,x2,x3,x4⟩:=Zu q1
      go_simp
     simp only[zz]
     refine tpZ 9 (.pointer (some ⟨b6,4,none⟩)) hA ?_
     simp only[zz]
     refine tqZ 10 (.slice na x.new.length nc) [12,11] hA (fun w5 q1=>?_) ?_
     ·obtain⟨x0,x1,x2,x3,x4⟩:=Zu q1
      go_simp
     simp only[zz]
     refine doZ 5 (fun K a0=>?_)
     go_step
     refine(Zi4 wf (H5.o.kept HU.o) (by omega)).mono ?_
     rintro e f5 ⟨u,rfl,g1,g2⟩
     have hA:=kb g2 hA
     have HO:=V (OwnB.keptF HO.o g2 n3Z);have HU:=V (HU.o.trans g2);have a1:=V g1.bytesIn
     clear g1 g2
     simp only[]
     refine a0.o _ _ hA ?_
     clear a0
     simp only[zz]
     refine doZ 6 (fun K a0=>?_)
     refine Y8 (.tmp 36) (.tmp 41) rfl rfl HO.o rfl a1.o (by have:=a2.o;simp[Ye,layF_length,Yz];omega) HU.o.size ?_
     intro v3 w6 g1 g2
     have hA:=(g2.block _ (Za hA) (fun e=>Zt HO.o hA (by decide) _ e rfl)).trans hA
     have HU:=V (HU.o.step g2 (fun j hj e=>by have:=(HO.o.lt j e).1;omega));have HO:=V g1
     refine a0.o _ _ hA ?_
     clear g1 g2
     clear a0
     simp only[zz]
     refine doZ 11 (fun K a0=>?_)
     go_step
     refine(Zi4 w6 (H6.o.kept HU.o) (by omega)).mono ?_
     rintro e f9 ⟨u,rfl,g1,g2⟩
     have hA:=kb g2 hA
     have HO:=V (OwnB.keptF HO.o g2 n3Z);have HU:=V (HU.o.trans g2);have a1:=V g1.bytesIn
     clear g1 g2
     simp only[]
     refine a0.o _ _ hA ?_
     clear a0
     simp only[zz]
     refine doZ 12 (fun K a0=>?_)
     refine Y8 (.tmp 42) (.tmp 47) rfl rfl HO.o rfl a1.o (by have:=a2.o;simp[Ye,layF_length,Yz];omega) HU.o.size ?_
     intro v4 w7 g1 g2
     have hA:=(g2.block _ (Za hA) (fun e=>Zt HO.o hA (by decide) _ e rfl)).trans hA
     have HU:=V (HU.o.step g2 (fun j hj e=>by have:=(HO.o.lt j e).1;omega));have HO:=V g1
     obtain⟨sa,sm,sc,d5⟩:=g1.bytesAt.1.slice'
     refine a0.o _ _ hA ?_
     clear g1 g2
     subst d5
     clear a0
     simp only[zz]
     refine tlZ 13 ?_
     simp only[List.drop]
     go_wp2
     go_roundg (B.sets.length - (k+1))
     case measure=>omega
     case rel=>
      refine⟨k+1,by omega,rfl,congrArg _ (by omega),?_,HU.o⟩
      have e8:=HO.o
      have:hd++Yc (B.sets.take (k+1))=a5++[nl]++numsOf x.name++Ye x.was x.old++Ye x.is x.new:=by
       rw[e9.o,←List.append_assoc,←b7.o]
       have:setF x=nl :: (numsOf x.name++(Ye x.was x.old++Ye x.is x.new)):=by
        rw[e4.o]
        simp only[setF]
        congr 1
        omega
       rw[this]
       simp
      rw[this]
      exact e8
    ·obtain rfl:k=B.sets.length:=by omega
     rw[List.take_of_length_le (Nat.le_refl _)] at e2
     obtain⟨va,vm,vc,rfl⟩:=e2.bytesAt.1.slice'
     have E2:=V e2;have E5:=V e5
     clear e2 e5
     go_wp2
     go_ret
     have hh:=d4.o
     refine⟨_,rfl,?_,E5.out⟩
     have:encF B=hd++Yc B.sets:=by rw[hh,f0.o];simp[encF]
     rw[this]
     exact E2.out
theorem Zua:Tryz.prog.underlying 54=some (.slice (Tryz.prog.elem 54)):=by kernel_rfl
theorem Zst (W:World):(sizeOf (Tryz.prog.elem 54)).run Tryz.prog W=.ok 5 W:=by kernel_rfl
theorem toList_eq (s t:ByteArray):(s.toList == t.toList)=decide (s=t):=by
 have h: ∀u:ByteArray,u.toList=Lib.bytesOf (numsOf u):=fun u=>by rw[←Lib.strOfNums_toList,Za9]
 rw[Bool.eq_iff_iff,beq_iff_eq,decide_eq_true_eq]
 refine⟨fun e=>?_,fun e=>by rw[e]⟩
 rw[h s,h t] at e
 exact Zn3 (Zd1 (Zdc s) (Zdc t) e)
theorem Zfe (w:World)(hs:SetsIn w a B.sets)(hl:B.sets.length≤900)(hc:B.sets.length≤c):
  Calls Tryz.prog 22 #[batchV B a c] w fun e w'=>e=.returned (.bool B.right)∧U0 w w':=by
 rw[Zkz]
 have HS:=V hs
 obtain⟨w1,c4,c7,b6⟩:=nb w (.cells #[.int .u64 B.epoch,.bool B.large,.slice a B.sets.length c] 56)
 obtain⟨z0,z1,z2⟩:=Zk b6
 have d8:=V c4;have b3:=V c7;have e5:=V b6
 obtain⟨aw,b0⟩: ∃aw,aw=anyWrong [] B.sets:=⟨_,rfl⟩
 rw[←b0]
 have e2:=V b0
 clear hs c4 c7 b6 b0
 unfold batchV
 go_enter Tryz.func22,Tryz.ntmps22
 go_upto_region 1 with fail
 rw[←d8.o]
 by_cases h1:B.epoch≤4611686018427387904
 rotate_left
 ·have d2:B.epoch > 4611686018427387904:=by omega
  have HH:=V h1
  go_wp2
  go_ret
  exact⟨Zao (by rw[show decide (B.epoch≤4611686018427387904)=false from decide_eq_false (by omega)];rfl),b3.o⟩
 have d2: ¬B.epoch > 4611686018427387904:=by omega
 by_cases h2:B.sets.length≤48
 rotate_left
 ·have c3:(B.sets.length:Int) > 48:=by omega
  have HH:=V h2
  go_wp2
  go_ret
  exact⟨Zao (by first | rfl | (rw[show decide (B.sets.length≤48)=false from decide_eq_false HH.o];simp)),b3.o⟩
 have c3: ¬(B.sets.length:Int) > 48:=by omega
 have HH:=V (And.intro h1 h2)
 have c1:RowKit.Hid ((decide (B.epoch≤4611686018427387904) && decide (B.sets.length≤48) && !aw)=!aw):=V (by rw[decide_eq_true h1,decide_eq_true h2];rfl)
 go_upto_region 4 with fail
 clear h1 d2 c3
 go_loopg [19] B.sets.length (fun gk i wr=> ∃k:Nat,k≤B.sets.length∧gk=B.sets.length - k∧i=.int .i64 k∧U0 w wr∧wr.heap[w.heap.size]?=some (.cells #[.int .u64 B.epoch,.bool B.large,.slice a B.sets.length c] 56 (0,0))∧aw=anyWrong ((B.sets.take k).map SetV.name) (B.sets.drop k))
 case atStart=>exact⟨0,Nat.zero_le _,rfl,rfl,b3.o,e5.o,e2.o⟩
 case round=>
  obtain⟨k,hk,rfl,rfl,hu,b2,ha⟩:=hrel
  obtain⟨z0,z1,z2⟩:=Zk b2
  have HU:=V hu;have e1:=V b2;have HA:=V ha
  clear hu b2 ha
  by_cases a3:k<B.sets.length
  ·have d9:(k:Int)<B.sets.length:=by omega
   obtain⟨x,hx⟩: ∃x,B.sets[k]?=some x:=⟨_,List.getElem?_eq_getElem a3⟩
   obtain⟨g1,g2,g3,b,o,ea,oa,oc,na,nc,h0,h1,h2,h3,h4,h5,h6,_⟩:=HS.o k x hx
   subst ea
   have kc: ∀{o:Nat} {v:Value},w.cell? ⟨b,o,none⟩=some v→wr.cell? ⟨b,o,none⟩=some v:=fun h=>Zo HU.o id h
   have q0:=kc h0;have q1:=kc h1;have q2:=kc h2;have q3:=kc h3;have q4:=kc h4
   have d1:B.sets[k]=x:=by rw[List.getElem?_eq_getElem a3] at hx;injection hx
   have hd:anyWrong ((B.sets.take k).map SetV.name) (B.sets.drop k)=((metB ((B.sets.take k).map SetV.name) x.name || Zbf x.name x.was x.is x.old.length x.new.length) || anyWrong ((B.sets.take (k+1)).map SetV.name) (B.sets.drop (k+1))):=by
    rw[List.drop_eq_getElem_cons a3,List.take_succ_eq_append_getElem a3,d1]
    simp[anyWrong]
   have HD:=V (HA.o.trans hd)
   have e9:(k:Int)≤c:=by omega
   clear h0 h1 h2 h3 h4 h5 h6 kc hx d1 hd
   go_upto_region 6 with fail
   obtain⟨bx,b5⟩: ∃bx,bx=wr.heap.size:=⟨_,rfl⟩
   obtain⟨w3,a4⟩: ∃w3,w3=wr.alloc (.cells #[.string x.name,.bool x.was,.bool x.is,.slice oa x.old.length oc,.slice na x.new.length nc] 73):=⟨_,rfl⟩
   rw[←a4,←b5]
   have a9:U0 wr w3:=by rw[a4];exact(Upd.refl _ wr).alloc _
   have c6:w3.heap[bx]?=some (.cells #[.string x.name,.bool x.was,.bool x.is,.slice oa x.old.length oc,.slice na x.new.length nc] 73 (0,0)):=by rw[a4];exact Zc b5
   have a0:=kb a9 e1.o
   obtain⟨z0,z1,z2⟩:=Zk a0
   have d5:=V c6;have b4:=V a0;have a7:=V (HU.o.trans a9)
   clear a4 b5 a9 c6 a0 q0 q1 q2 q3 q4
   go_upto_region 7 with fail
   go_loopg [29] k (fun gk i wr=> ∃j:Nat,j≤k∧gk=k - j∧i=.int .i64 j∧U0 w3 wr∧metB ((B.sets.take k).map SetV.name) x.name=metB (((B.sets.take k).drop j).map SetV.name) x.name)
   case atStart=>exact⟨0,Nat.zero_le _,rfl,rfl,Upd.refl _ _,rfl⟩
   case round=>
    obtain⟨j,hj,rfl,rfl,a5,hm⟩:=hrel
    have a2:=V a5;have HM:=V hm
    have b1:=kb a5 d5.o
    obtain⟨x0,x1,x2,x3,x4⟩:=Zu b1
    have a1:=kb a5 b4.o
    have e0:=V b1;have b8:=V a1
    clear a5 hm b1 a1
    by_cases e8:j<k
    ·have e3:(j:Int)<k:=by omega
     have c2:j<B.sets.length:=by omega
     obtain⟨y,hy⟩: ∃y,B.sets[j]?=some y:=⟨_,List.getElem?_eq_getElem c2⟩
     obtain⟨_,_,_,b',o',ea,f1,e6,e7,f0,h0,h1,h2,h3,h4,h5,h6,_⟩:=HS.o j y hy
     injection ea with ea
     injection ea with ea1 ea2
     subst ea1 ea2
     have kc: ∀{o:Nat} {v:Value},w.cell? ⟨b,o,none⟩=some v→wr.cell? ⟨b,o,none⟩=some v:=fun h=>Zo (a7.o.trans a2.o) id h
     have q0:=kc h0;have q1:=kc h1;have q2:=kc h2;have q3:=kc h3;have q4:=kc h4
     have c8:B.sets[j]=y:=by rw[List.getElem?_eq_getElem c2] at hy;injection hy
     have c5:metB (((B.sets.take k).drop j).map SetV.name) x.name=(decide (y.name=x.name) || metB (((B.sets.take k).drop (j+1)).map SetV.name) x.name):=by
      rw[List.drop_eq_getElem_cons (by simp;omega),List.getElem_take,c8]
      simp[metB]
     have d3:=V (HM.o.trans c5)
     clear h0 h1 h2 h3 h4 h5 h6 kc hy c8 c5
     have a6:=toList_eq x.name y.name
     have d7:=Za e0.o
     by_cases he:y.name=x.name
     ·have a8:(x.name.toList == y.name.toList)=true:=by rw[a6];exact decide_eq_true he.symm
      have HE:=V he
      clear a6 he
      go_wp2
      go_ret
      refine⟨Zao ?_,a7.o.trans (a2.o.trans ((Upd.refl (fun _=>False) wr).alloc _))⟩
      have e:aw=true:=by rw[HD.o,d3.o,decide_eq_true HE.o];rfl
      have hh:=c1.o
      rw[e] at hh ⊢
      simp
     ·have a8:(x.name.toList == y.name.toList)=false:=by rw[a6];exact decide_eq_false (fun e=>he e.symm)
      have HE:=V he
      clear a6 he
      go_wp2
      go_roundg (k - (j+1))
      case measure=>omega
      case rel=>
       refine⟨j+1,by omega,rfl,congrArg _ (by omega),a2.o.trans ((Upd.refl (fun _=>False) wr).alloc _),?_⟩
       rw[d3.o,decide_eq_false HE.o]
       rfl
    ·obtain rfl:j=k:=by omega
     have hm:=HM.o
     rw[List.drop_of_length_le (List.length_take_le _ _)] at hm
     have hd:=HD.o
     have c9:metB (List.map SetV.name []) x.name=false:=rfl
     rw[hm,c9,Bool.false_or] at hd
     obtain⟨nx,b7⟩: ∃nx,nx=anyWrong ((B.sets.take (j+1)).map SetV.name) (B.sets.drop (j+1)):=⟨_,rfl⟩
     rw[←b7] at hd
     have HD:=V hd;have d6:=V b7
     have d0: ¬(1≤x.name.size∧x.name.size≤24∧x.old.length≤3000∧x.new.length≤3000∧(x.was=false→x.old.length=0)∧(x.is=false→x.new.length=0))→aw=true:=fun h=>by
      rw[hd]
      unfold Zbf
      rw[decide_eq_false h]
      rfl
     have b9:(1≤x.name.size∧x.name.size≤24∧x.old.length≤3000∧x.new.length≤3000∧(x.was=false→x.old.length=0)∧(x.is=false→x.new.length=0))→aw=nx:=fun h=>by
      rw[hd]
      unfold Zbf
      rw[decide_eq_true h]
      rfl
     have d4:=V d0;have c0:=V b9
     clear hm hd c9 b7 HD d0 b9
     generalize x.old.length=lo at *
     generalize x.new.length=ln at *
     cases hxw:x.was<;> cases hxi:x.is
     all_goals
      rw[hxw,hxi] at d4 c0
      go_wp2
     all_goals first
     | (go_ret
        have e:aw=true:=d4.o (by
         simp only[true_implies,false_implies,Bool.true_eq_false,reduceCtorEq,and_true,true_and]
         omega)
        exact⟨Zao (by simp[e]),a7.o.trans a2.o⟩)
     | (go_roundg (B.sets.length - (j+1))
        case measure=>omega
        case rel=>
         refine⟨j+1,by omega,rfl,congrArg _ (by omega),a7.o.trans a2.o,b8.o,?_⟩
         refine(c0.o ?_).trans d6.o
         simp only[true_implies,false_implies,Bool.true_eq_false,reduceCtorEq,and_true,true_and]
         omega)
  ·obtain rfl:k=B.sets.length:=by omega
   have ha:=HA.o
   rw[List.drop_of_length_le (Nat.le_refl _)] at ha
   have e4:=V ha
   clear ha
   go_wp2
   go_ret
   exact⟨Zao (by rw[c1.o,e4.o];rfl),HU.o⟩
theorem BytesIn.shape' (h:BytesIn w v bs): ∃a c,v=.slice a bs.length c∧bs.length≤c∧c≤maxLen:=by
 rcases h with ⟨rfl,rfl⟩ | ⟨a,c,h1,h2,h3,h4⟩
 ·exact⟨none,0,rfl,by simp,by unfold maxLen;omega⟩
 ·exact⟨_,c,h1,h2,h3⟩
theorem BytesIn.front (h:BytesIn w v bs)(hn:n≤bs.length):
  ∃u,(∀W,(Instr.slice 39 v none (some (.int .i64 n)) none).run Tryz.prog W=.ok u W)∧BytesIn w u (bs.take n):=by
 have hl:(bs.take n).length=n:=by simp;omega
 rcases h with ⟨rfl,rfl⟩ | ⟨a,c,rfl,h2,h3,h4⟩
 ·obtain rfl:n=0:=by simpa using hn
  refine⟨.slice none 0 0,fun W=>?_,.inl ⟨rfl,rfl⟩⟩
  have:=run_slice_h W 39 none 0 0 Zbj .i64 0 (by omega) (by omega)
  rw[show((0:Nat):Int)=0 from rfl,this,Za2]
  rfl
 ·refine⟨sliced (some a) 0 n c 1,fun W=>?_,.inr ⟨if c=0 then a else a.add 0,c,by rw[hl];unfold sliced;simp;split<;> rfl,by rw[hl];omega,by omega,fun i u hi=>?_⟩⟩
  ·rw[run_slice_h W 39 _ bs.length c Zbj .i64 n (by omega) (by omega),Za2]
   simp[Result.andThen]
  ·have a0:=(List.getElem?_eq_some_iff.1 hi).1
   simp only[bcells,List.length_map,hl] at a0
   have e:(if c=0 then a else a.add 0).add i=a.add i:=by
    split
    ·rfl
    ·rw[Addr.add_add,Nat.zero_add]
   rw[e]
   refine h4 i u ?_
   simp only[bcells,List.getElem?_map,List.getElem?_take_of_lt a0] at hi ⊢
   exact hi
theorem BytesIn.rest (h:BytesIn w v bs)(hn:n≤bs.length):
  ∃u,(∀W,(Instr.slice 39 v (some (.int .i64 n)) none none).run Tryz.prog W=.ok u W)∧BytesIn w u (bs.drop n):=by
 have hl:(bs.drop n).length=bs.length - n:=by simp
 rcases h with ⟨rfl,rfl⟩ | ⟨a,c,rfl,h2,h3,h4⟩
 ·obtain rfl:n=0:=by simpa using hn
  refine⟨.slice none 0 0,fun W=>?_,.inl ⟨rfl,rfl⟩⟩
  have:=run_slice_l W 39 none 0 0 Zbj .i64 0 (by omega) (by omega)
  rw[show((0:Nat):Int)=0 from rfl,this,Za2]
  rfl
 ·refine⟨sliced (some a) n bs.length c 1,fun W=>?_,.inr ⟨if c=n then a else a.add n,c - n,by rw[hl];unfold sliced;simp;split<;> rfl,by rw[hl];omega,by omega,fun i u hi=>?_⟩⟩
  ·rw[run_slice_l W 39 _ bs.length c Zbj .i64 n (by omega) (by omega),Za2]
   simp[Result.andThen]
  ·have a0:=(List.getElem?_eq_some_iff.1 hi).1
   simp only[bcells,List.length_map,hl] at a0
   rw[if_neg (by omega),Addr.add_add]
   refine h4 (n+i) u ?_
   simp only[bcells,List.getElem?_map,List.getElem?_drop] at hi ⊢
   exact hi
theorem Zm6 (W:World)(n:Nat)(hn:n≤1000000):BytesIn (W.alloc (.cells (madeCells #[.int .u8 0] n) 5)) (.slice (some ⟨W.heap.size,0,none⟩) n n) (zs n):=by
 have hl:(zs n).length=n:=Zdl n
 refine .inr ⟨⟨W.heap.size,0,none⟩,n,by rw[hl],by omega,by unfold maxLen;omega,fun i u hi=>?_⟩
 rw[Addr.add_mid,Nat.zero_add,Zr (Zc rfl)]
 have hm:(madeCells #[Value.int .u8 0] n).toList=bcells (zs n):=by
  simp only[madeCells,zs,bcells]
  apply List.ext_getElem
  ·simp
  ·intro j h1 h2
   simp[Nat.mod_one]
 rw[←hi,←hm]
 simp
def takeT (n:Nat)(st:Option (List Int)):List Int×Option (List Int):=match (takeS n st).2 with
 |none=>(zs n,none)
 |some r=>((takeS n st).1,some r)
theorem Zee (n:Nat)(st:Option (List Int)):(takeT n st).2=(takeS n st).2:=by
 unfold takeT
 split<;> simp[*]
def TkS (w0 W:World)(tb:Nat)(st:Option (List Int))(bad:Bool):Prop:=(w0.heap.size≤tb∧U0 w0 W)∧
 match st with
 |some bs=> ∃v,W.heap[tb]?=some (.cells #[v,.bool false,.bool bad] 152 (0,0))∧BytesIn w0 v bs∧Bytes bs
 |none=> ∃a n c,W.heap[tb]?=some (.cells #[.slice a n c,.bool true,.bool bad] 152 (0,0))
theorem TkS.lt (h:TkS w0 W tb st bad):tb<W.heap.size:=by
 obtain⟨_,h⟩:=h
 cases st with
 |some bs=>obtain⟨v,h1,_⟩:=h;exact Za h1
 |none=>obtain⟨a,n,c,h1⟩:=h;exact Za h1
theorem TkS.kept {F:Nat→Prop}{W':World}(h:TkS w0 W tb st bad)(hu:Upd F W W')(ht: ¬F tb)(hf: ∀k,k<w0.heap.size→ ¬F k):TkS w0 W' tb st bad:=by
 obtain⟨h0,h⟩:=h
 refine⟨⟨h0.1,h0.2.step hu (fun k hk e=>hf k hk e)⟩,?_⟩
 cases st with
 |some bs=>obtain⟨v,h1,h2⟩:=h;exact⟨v,(hu.block _ (Za h1) ht).trans h1,h2⟩
 |none=>obtain⟨a,n,c,h1⟩:=h;exact⟨a,n,c,(hu.block _ (Za h1) ht).trans h1⟩
theorem TkS.bytes (h:TkS w0 W tb st bad): ∀bs,st=some bs→Bytes bs:=by
 rintro bs rfl
 obtain⟨_,v,_,_,h4⟩:=h
 exact h4
def TakeAns (w0 W:World)(tb n:Nat)(st:Option (List Int))(bad:Bool)(e:Ending)(w':World):Prop:=
 ∃u,e=.returned u∧BytesIn w' u (takeT n st).1∧TkS w0 w' tb (takeT n st).2 bad∧Upd (fun k=>k=tb) W w'
theorem Zi8 {m:Nat}{sh:Bool}(w0 w:World)(h:w.heap[tb]?=some (.cells #[.slice a m c,.bool sh,.bool bad] 152 (0,0)))(h0:w0.heap.size≤tb∧U0 w0 w)(hn:n≤1000000)(hs:sh=true∨m<n):
  Calls Tryz.prog 86 #[.pointer (some ⟨tb,0,none⟩),.int .i64 n] w fun e w'=> ∃u,e=.returned u∧BytesIn w' u (zs n)∧TkS w0 w' tb none bad∧Upd (fun k=>k=tb) w w':=by
 obtain⟨c0,c1,c2⟩:=Zk h
 have f1:w.frozen? ⟨tb,1,none⟩=false:=Zb h
 have a5: ∀W:World,(Instr.makeSlice 39 (.int .i64 n) (.int .i64 n)).run Tryz.prog W=.ok (.slice (some ⟨W.heap.size,0,none⟩) n n) (W.alloc (.cells (madeCells #[.int .u8 0] n) 5)):=
  run_make_row' (P:=Tryz.prog) 39 5 (.int .u8 0) 1 Tryz.underlying39 Tryz.info5p rfl .i64 .i64 n (by omega) (by omega)
 have HX:=V h;have H0:=V h0
 have a3: ∀W,W=(w.setCell ⟨tb,1,none⟩ (.bool true))→TkS w0 (W.alloc (.cells (madeCells #[.int .u8 0] n) 5)) tb none bad∧Upd (fun k=>k=tb) w (W.alloc (.cells (madeCells #[.int .u8 0] n) 5)):=by
  rintro W rfl
  have a1:Upd (fun k=>k=tb) w (w.setCell ⟨tb,1,none⟩ (.bool true)):=Zd w tb 1 _
  refine⟨⟨⟨H0.o.1,(H0.o.2.step a1 (fun k hk e=>by have:=H0.o.1;omega)).alloc _⟩,a,m,c,?_⟩,a1.alloc _⟩
  rw[Zm (by have:=Za HX.o;have:=a1.size;omega)]
  have:=Ze (i:=1) (v:=.bool true) HX.o
  simpa using this
 have a2:=V a3
 clear h h0 a3
 cases sh with
 |true=>
  clear hs
  go_enter Tryz.func86,Tryz.ntmps86
  go_wp2
  go_ret
  have a0:=Zm6 (w.setCell ⟨tb,1,none⟩ (.bool true)) n hn
  rw[show(w.setCell ⟨tb,1,none⟩ (.bool true)).heap.size=w.heap.size by simp[World.setCell]] at a0
  exact⟨.slice (some ⟨w.heap.size,0,none⟩) n n,rfl,a0,a2.out _ rfl⟩
 |false=>
  have a4:(m:Int)<n:=by
   rcases hs with h | h
   ·cases h
   ·omega
  clear hs
  go_enter Tryz.func86,Tryz.ntmps86
  go_wp2
  go_ret
  have a0:=Zm6 (w.setCell ⟨tb,1,none⟩ (.bool true)) n hn
  rw[show(w.setCell ⟨tb,1,none⟩ (.bool true)).heap.size=w.heap.size by simp[World.setCell]] at a0
  exact⟨.slice (some ⟨w.heap.size,0,none⟩) n n,rfl,a0,a2.out _ rfl⟩
theorem Zj6 (w0 w:World)(h:TkS w0 w tb st bad)(hn:n≤1000000):
  Calls Tryz.prog 86 #[.pointer (some ⟨tb,0,none⟩),.int .i64 n] w (TakeAns w0 w tb n st bad):=by
 cases st with
 |none=>
  obtain⟨h0,a,m,c,h1⟩:=h
  refine(Zi8 w0 w h1 h0 hn (.inl rfl)).mono ?_
  rintro e w' ⟨u,h1,h2,h3,h4⟩
  exact⟨u,h1,h2,h3,h4⟩
 |some bs=>
  obtain⟨h0,v,h1,h2,h3⟩:=h
  by_cases a0:bs.length<n
  ·obtain⟨a,c,rfl,_,_⟩:=h2.shape'
   refine(Zi8 w0 w h1 h0 hn (.inr a0)).mono ?_
   rintro e w' ⟨u,h1,h2,h3,h4⟩
   have e1:takeT n (some bs)=(zs n,none):=by simp[takeT,takeS,a0]
   exact⟨u,h1,by rw[e1];exact h2,by rw[e1];exact h3,h4⟩
  ·have e1:takeT n (some bs)=(bs.take n,some (bs.drop n)):=by simp[takeT,takeS,a0]
   obtain⟨u1,b0,a3⟩:=h2.front (n:=n) (by omega)
   obtain⟨u2,b1,a4⟩:=h2.rest (n:=n) (by omega)
   obtain⟨a,c,rfl,b5,b4⟩:=h2.shape'
   obtain⟨a1,c1,rfl,_,_⟩:=a3.shape'
   obtain⟨a2,c2,rfl,_,_⟩:=a4.shape'
   obtain⟨m1,a5⟩: ∃m,m=(bs.take n).length:=⟨_,rfl⟩
   obtain⟨m2,a6⟩: ∃m,m=(bs.drop n).length:=⟨_,rfl⟩
   rw[←a5] at b0 a3
   rw[←a6] at b1 a4
   obtain⟨q0,q1,q2⟩:=Zk h1
   have f0:w.frozen? ⟨tb,0,none⟩=false:=Zb h1
   have a9: ¬((bs.length:Int)<n):=by omega
   have HX:=V h1;have H0:=V h0;have b3:=V a3;have b2:=V a4;have H3:=V h3;have HE:=V e1
   clear h1 h0 h2 h3 a3 a4 a5 a6 e1 a0
   go_enter Tryz.func86,Tryz.ntmps86
   go_wp2
   go_ret
   have a8:Upd (fun k=>k=tb) w (w.setCell ⟨tb,0,none⟩ (.slice a2 m2 c2)):=Zd w tb 0 _
   have a7:=H0.o.2.step a8 (fun k hk e=>by have:=H0.o.1;omega)
   refine⟨_,rfl,by rw[HE.o];exact b3.o.kept a7,?_,a8⟩
   rw[HE.o]
   refine⟨⟨H0.o.1,a7⟩,_,?_,b2.o,fun x hx=>H3.o x (List.mem_of_mem_drop hx)⟩
   have:=Ze (i:=0) (v:=.slice a2 m2 c2) HX.o
   simpa using this
theorem Zlt: ∀n,beF (zs n)=0
 | 0=>rfl
 |n+1=>by
  show beF (0 :: zs n)=0
  rw[Zev,Zlt n]
  omega
theorem Zcl (h:bs.length<n):takeT n (some bs)=(zs n,none)∧takeS n (some bs)=([],none):=by
 simp[takeT,takeS,h]
theorem Zcx (h: ¬bs.length<n):takeT n (some bs)=(bs.take n,some (bs.drop n))∧takeS n (some bs)=(bs.take n,some (bs.drop n)):=by
 simp[takeT,takeS,h]
theorem Ze8 (n:Nat)(st:Option (List Int)):beF (takeT n st).1=(numS n st).1:=by
 unfold numS
 cases st with
 |none=>exact Zlt n
 |some bs=>
  by_cases h:bs.length<n
  ·rw[(Zcl h).1,(Zcl h).2];exact Zlt n
  ·rw[(Zcx h).1,(Zcx h).2]
theorem Zbp (n:Nat)(st:Option (List Int)):(takeT n st).1.length=n:=by
 cases st with
 |none=>exact Zdl n
 |some bs=>
  by_cases h:bs.length<n
  ·rw[(Zcl h).1];exact Zdl n
  ·rw[(Zcx h).1];simp only[List.length_take];omega
theorem Zi5 (st:Option (List Int)):(takeT 1 st).1=[(numS 1 st).1]:=by
 rw[←Ze8]
 have h:=Zbp 1 st
 match h2:(takeT 1 st).1 with
 | []=>rw[h2] at h;simp at h
 | [x]=>simp[beF]
 |x :: y :: t=>rw[h2] at h;simp at h
theorem Zg0 (h: ∀bs,st=some bs→Bytes bs):Bytes (takeT n st).1:=by
 cases st with
 |none=>exact Zj7 n
 |some bs=>
  by_cases h1:bs.length<n
  ·rw[(Zcl h1).1];exact Zj7 n
  ·rw[(Zcx h1).1];exact fun x hx=>h bs rfl x (List.mem_of_mem_take hx)
theorem Zhi {r:List Int}(h:(takeS n st).2=some r):(takeT n st).1=(takeS n st).1:=by
 unfold takeT
 rw[h]
theorem Addr.add_zero' (a:Addr):a.add 0=a:=by cases a;rfl
theorem BytesIn.one {u:Value}(h:BytesIn W u [x]): ∃a c,u=.slice (some a) 1 c∧W.cell? a=some (.int .u8 x):=by
 rcases h with ⟨_,h⟩ | ⟨a,c,h1,_,_,h4⟩
 ·cases h
 ·exact⟨a,c,h1,by have:=h4 0 _ rfl;rwa [Addr.add_zero'] at this⟩
theorem TkS.cells (h:TkS w0 W tb st bad): ∃v,W.heap[tb]?=some (.cells #[v,.bool st.isNone,.bool bad] 152 (0,0)):=by
 obtain⟨_,h⟩:=h
 cases st with
 |some bs=>obtain⟨v,h1,_⟩:=h;exact⟨v,h1⟩
 |none=>obtain⟨a,n,c,h1⟩:=h;exact⟨_,h1⟩
theorem TkS.setBad (h:TkS w0 W tb st bad)(b':Bool):TkS w0 (W.setCell ⟨tb,2,none⟩ (.bool b')) tb st b':=by
 obtain⟨h0,h⟩:=h
 have hu:Upd (fun k=>k=tb) W (W.setCell ⟨tb,2,none⟩ (.bool b')):=Zd W tb 2 _
 refine⟨⟨h0.1,h0.2.step hu (fun k hk e=>by have:=h0.1;omega)⟩,?_⟩
 cases st with
 |some bs=>
  obtain⟨v,h1,h2⟩:=h
  refine⟨v,?_,h2⟩
  have:=Ze (i:=2) (v:=.bool b') h1
  simpa using this
 |none=>
  obtain⟨a,n,c,h1⟩:=h
  refine⟨a,n,c,?_⟩
  have:=Ze (i:=2) (v:=.bool b') h1
  simpa using this
def Zbt (st:Option (List Int)):List Int:=(takeT (numS 2 (numS 1 st).2).1.toNat (numS 2 (numS 1 st).2).2).1
theorem Zfq {r:List Int}(h:(Z8 st bad).2.2.1=some r):Zbt st=(Z8 st bad).2.1:=Zhi h
theorem Zm4 (w0 w:World)(h:TkS w0 w tb st bad):
  Calls Tryz.prog 87 #[.pointer (some ⟨tb,0,none⟩)] w fun e w'=> ∃u,e=.returned (.tuple #[.bool (Z8 st bad).1,u])∧OwnB w' w.heap.size u (Zbt st)∧TkS w0 w' tb (Z8 st bad).2.2.1 (Z8 st bad).2.2.2∧Upd (fun k=>k=tb) w w':=by
 simp only[Z8,Zbt]
 obtain⟨x1,b0⟩: ∃x1,x1=(numS 1 st).1:=⟨_,rfl⟩
 obtain⟨s1,a9⟩: ∃s1,s1=(numS 1 st).2:=⟨_,rfl⟩
 have d5:=Ym (n:=1) h.bytes
 have c6:RowKit.Hid (∀W,TkS w0 W tb st bad→Calls Tryz.prog 86 #[.pointer (some ⟨tb,0,none⟩),.int .i64 1] W fun e w'=> ∃u,e=.returned u∧BytesIn w' u [x1]∧TkS w0 w' tb s1 bad∧Upd (fun k=>k=tb) W w'):=V (by
  intro W hW
  refine(Zj6 (n:=1) w0 W hW (by omega)).mono ?_
  rintro e w' ⟨u,h1,h2,h3,h4⟩
  rw[Zi5,←b0] at h2
  rw[Zee] at h3
  rw[a9]
  exact⟨u,h1,h2,h3,h4⟩)
 rw[←b0] at d5
 rw[←b0,←a9]
 have a5:=Yr (n:=1) h.bytes
 have a5: ∀bs,s1=some bs→Bytes bs:=by rw[a9];exact a5
 obtain⟨n2,b3⟩: ∃n2,n2=(numS 2 s1).1:=⟨_,rfl⟩
 obtain⟨s2,b6⟩: ∃s2,s2=(numS 2 s1).2:=⟨_,rfl⟩
 obtain⟨t2,a6⟩: ∃t2,t2=(takeT 2 s1).1:=⟨_,rfl⟩
 have a4:=Ym (n:=2) a5
 have c7:RowKit.Hid (∀W b,TkS w0 W tb s1 b→Calls Tryz.prog 86 #[.pointer (some ⟨tb,0,none⟩),.int .i64 2] W fun e w'=> ∃u,e=.returned u∧BytesIn w' u t2∧TkS w0 w' tb s2 b∧Upd (fun k=>k=tb) W w'):=V (by
  intro W b hW
  refine(Zj6 (n:=2) w0 W hW (by omega)).mono ?_
  rintro e w' ⟨u,h1,h2,h3,h4⟩
  rw[Zee] at h3
  rw[b6,a6]
  exact⟨u,h1,h2,h3,h4⟩)
 have c0:t2.length=2:=by rw[a6];exact Zbp 2 s1
 have b7:RowKit.Hid (∀W v,BytesIn W v t2→Calls Tryz.prog 85 #[v] W fun e w'=>e=.returned (.int .u64 n2)∧W=w'):=V (by
  intro W v hv
  have q:=Zhq W hv (by rw[a6];exact Zg0 a5) (by omega)
  rw[a6,Ze8,←b3] at q
  exact q)
 rw[←b3] at a4
 rw[←b3,←b6]
 have c9:((n2.toNat:Nat):Int)=n2:=by omega
 have d6:IntKind.i64.wrap n2=n2:=by rw[IntKind.wrap_i64];omega
 have b9:RowKit.Hid (∀W b,TkS w0 W tb s2 b→Calls Tryz.prog 86 #[.pointer (some ⟨tb,0,none⟩),.int .i64 n2] W fun e w'=> ∃u,e=.returned u∧BytesIn w' u (takeT n2.toNat s2).1∧TkS w0 w' tb (takeS n2.toNat s2).2 b∧Upd (fun k=>k=tb) W w'):=V (by
  intro W b hW
  have q:=Zj6 (n:=n2.toNat) w0 W hW (by omega)
  rw[c9] at q
  refine q.mono ?_
  rintro e w' ⟨u,h1,h2,h3,h4⟩
  rw[Zee] at h3
  exact⟨u,h1,h2,h3,h4⟩)
 have d4:(takeT n2.toNat s2).1.length≤65535:=by rw[Zbp];omega
 obtain⟨b2,a4⟩: ∃b2,b2=(bad || decide (1<x1)):=⟨_,rfl⟩
 rw[←a4]
 have c8:=V a4
 clear a4
 have H:=V h
 obtain⟨t3,c5⟩: ∃t3,t3=(takeT n2.toNat s2).1:=⟨_,rfl⟩
 obtain⟨s3,c4⟩: ∃s3,s3=(takeS n2.toNat s2).2:=⟨_,rfl⟩
 rw[←c5] at d4 b9 ⊢
 rw[←c4] at b9 ⊢
 clear h b0 a9 b3 b6 a4 c9 a5 a6 c5 c4
 go_enter Tryz.func87,Tryz.ntmps87
 go_wp2_with (go_at_call 86;fail)
 refine(c6.o _ H.out).mono ?_
 rintro e w1 ⟨u,rfl,g1,g2,g3⟩
 obtain⟨a1,c1,rfl,q1⟩:=g1.one
 obtain⟨v1,k1⟩:=g2.cells
 obtain⟨z0,z1,z2⟩:=Zk k1
 have f2:w1.frozen? ⟨tb,2,none⟩=false:=Zb k1
 have H2:=V g2;have HU:=V g3
 clear g1 g2 g3 k1 H c6
 simp only[]
 have HS:=V (H2.o.setBad b2)
 have b5:=V (HU.o.trans (Zd w1 tb 2 (.bool b2)))
 go_upto_region 2 with fail
 go_cut [] from 10 to 21 (fun wx=>wx=w1.setCell ⟨tb,2,none⟩ (.bool b2))
 case first=>
  cases bad
  ·go_wp2
   go_meet
   case rel=>rw[c8.o,Bool.false_or]
  ·go_wp2
   go_meet
   case rel=>rw[c8.o,Bool.true_or]
 case rest=>
  rw[←hcut] at HS b5
  clear hcut z0 z1 z2 f2 q1
  go_wp2_with (go_at_call 86;fail)
  refine(c7.o _ _ HS.o).mono ?_
  rintro e w3 ⟨u,rfl,g1,g2,g3⟩
  obtain⟨a2,c2,rfl,_,_⟩:=g1.shape'
  rw[c0] at g1 ⊢
  have HG:=V g1;have HS:=V g2;have HU:=V (b5.o.trans g3)
  clear g1 g2 g3 c7 b5
  simp only[]
  go_upto_region 4 with fail
  obtain⟨ob,a0⟩: ∃ob,ob=w3.heap.size:=⟨_,rfl⟩
  obtain⟨w4,a7⟩: ∃w4,w4=w3.alloc (.cells #[] 5):=⟨_,rfl⟩
  have b4:=V HS.o.lt
  have a8:U0 w3 w4:=by rw[a7];exact(Upd.refl _ w3).alloc _
  have HO:=V (show OwnB w4 w.heap.size (.slice (some ⟨ob,0,none⟩) 0 0) [] from
   ⟨rfl,.inr ⟨ob,0,_,rfl,by rw[a0];exact HU.o.size,by rw[a7];exact Zc a0,Nat.le_refl _,by unfold maxLen;omega,rfl,rfl⟩⟩)
  have HS:=V (HS.o.kept a8 id n3Z)
  have HG:=V (HG.o.kept a8)
  have b1:=V (show w.heap.size≤ob∧tb<ob from⟨by rw[a0];exact HU.o.size,by rw[a0];exact b4.o⟩)
  have HU:=V (HU.o.trans (a8.mono (fun _ _ e=>e.elim)))
  have d0:=V a7;have b8:=V a0
  clear a8 a7 a0
  go_wp2_with (go_at_call 85;fail)
  rw[←d0.o,←b8.o]
  refine(b7.o w4 _ HG.o).mono ?_
  rintro e w5 ⟨rfl,rfl⟩
  simp only[]
  go_wp2_with (go_at_call 86;fail)
  refine(b9.o w4 _ HS.o).mono ?_
  rintro e w5 ⟨u,rfl,g1,g2,g3⟩
  obtain⟨a3,c3,rfl,_,_⟩:=g1.shape'
  have d3:=V (OwnB.keptF HO.o g3 (fun k hk e=>by have:=b1.o;simp[Value.ownBlock] at hk;omega))
  have HG:=V g1;have HS:=V g2;have HU:=V (HU.o.trans g3)
  clear g1 g2 g3
  simp only[]
  go_step
  refine Y7 (v:=.slice (some ⟨ob,0,none⟩) 0 0) (bs:=[]) (cs:=t3) rfl (.tmp 25) (.tmp 30) rfl rfl d3.o rfl HG.o (by simp only[List.length_nil];omega) HU.o.size ?_
  intro v4 w6 g1 g2
  obtain⟨va,vm,vc,rfl⟩:=g1.bytesAt.1.slice'
  have d2:=V g1
  have HS:=V (HS.o.kept g2 (fun e=>by have:=b1.o;simp[Value.ownBlock] at e;omega) (fun k hk e=>by have:=b1.o;have:=HS.o.1.1;simp[Value.ownBlock] at e;omega))
  have d1:=V (HU.o.step g2 (fun j hj e=>by have:=b1.o;simp[Value.ownBlock] at e;omega))
  clear g1 g2
  go_wp2
  go_returns
  exact⟨_,rfl,d2.o,HS.o,d1.o⟩
end
end Go.Proofs.YtbimkhdiplnbfaaGreat
