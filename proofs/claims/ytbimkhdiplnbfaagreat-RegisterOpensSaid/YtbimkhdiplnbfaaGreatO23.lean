/- Walks: a batch as bytes, whole. -/
import Derived.Test.YtbimkhdiplnbfaaGreatO18
import Derived.Test.YtbimkhdiplnbfaaGreatO20
import Derived.Laws.OwnMore
open Go.Lib (hid)
set_option linter.unusedVariables false
set_option linter.unusedSimpArgs false
namespace Go.Proofs.YtbimkhdiplnbfaaGreat
set_option maxRecDepth 1000000
set_option maxHeartbeats 16000000
section
open Go.RowKit Go.Shelf
theorem two_in (w:World)(x y:Int):BytesIn (w.alloc (.cells #[.int .u8 x,.int .u8 y] 5)) (.slice (some ⟨w.heap.size,0,none⟩) 2 2) [x,y]:=by
 refine .inr ⟨⟨w.heap.size,0,none⟩,2,rfl,by simp,by unfold maxLen;omega,fun i u hi=>?_⟩
 rw[Addr.add_mid,Nat.zero_add,cell_of_heap (alloc_at rfl)]
 simpa [bcells] using hi
theorem put64_any {v:Value}{bs:List Int}{x:Int}(w:World)(hl:bs.length≤1099511627700)(hv:BytesIn w v bs)(hx:0≤x∧x≤18446744073709551615):
  Calls Tryz.prog 144 #[v,.int .u64 x] w fun e w'=> ∃u,e=.returned u∧OwnB w' w.heap.size u (bs++layF x 64)∧Upd (fun _=>False) w w':=by
 have HC:=hid (lay_any (nb:=8) w hl hv hx (by omega))
 clear hv
 go_enter Tryz.func144,Tryz.ntmps144
 go_wp2_with (go_at_call 180;fail)
 refine HC.out.mono ?_
 rintro e w1 ⟨u1,rfl,ho,hu⟩
 have HO:=hid ho;have HU:=hid hu
 clear ho hu HC
 simp only[]
 go_wp2
 go_ret
 exact⟨_,rfl,HO.out,HU.out⟩
theorem setF_length {x:SetV}(h:x.right=true):(setF x).length≤6031:=by
 simp only[SetV.right,decide_eq_true_eq] at h
 simp[setF,maybeF,numsOf_length,layF_length]
 omega
theorem setsF_length: ∀{l:List SetV},(∀x∈l,x.right=true)→(setsF l).length≤6031 * l.length
 | [],_=>by simp[setsF]
 |x :: l,h=>by
  have h1:=setF_length (h x (by simp))
  have h2:=setsF_length (l:=l) fun y hy=>h y (by simp[hy])
  simp only[setsF,List.flatMap_cons,List.length_append,List.length_cons] at h2 ⊢
  omega
theorem encoded_any {c:Nat}{a:Option Addr}{B:BatchV}(w:World)(hs:SetsIn w a B.sets)(hr:B.right=true)(hk:B.Ok):
  Calls Tryz.prog 82 #[batchV B a c] w fun e w'=> ∃u,e=.returned u∧OwnB w' w.heap.size u (encF B)∧Upd (fun _=>False) w w':=by
 have hsl:B.sets.length≤48:=by
  simp only[BatchV.right,Bool.and_eq_true,decide_eq_true_eq] at hr
  exact hr.1.1.2
 have HS:=hid hs;have HR:=hid hr;have HEP:=hid hk.epoch
 obtain⟨ns,hns⟩: ∃ns,ns=(B.sets.length:Int) % 256:=⟨_,rfl⟩
 have hcv8:IntKind.u8.wrap (B.sets.length:Int)=ns:=by rw[IntKind.wrap_u8,hns]
 have HNS:=hid hns
 obtain⟨w1,hw1⟩: ∃w1,w1=w.alloc (.cells #[.int .u64 B.epoch,.bool B.large,.slice a B.sets.length c] 56):=⟨_,rfl⟩
 have hu1:Upd (fun _=>False) w w1:=by rw[hw1];exact(Upd.refl _ w).alloc _
 have hx1:w1.heap[w.heap.size]?=some (.cells #[.int .u64 B.epoch,.bool B.large,.slice a B.sets.length c] 56 (0,0)):=by rw[hw1];exact alloc_at rfl
 have hA:w1.drew.heap[w.heap.size]?=some (.cells #[.int .u64 B.epoch,.bool B.large,.slice a B.sets.length c] 56 (0,0)):=hx1
 have HU:=hid hu1.drew
 have HW1:=hid hw1;have HX1:=hid hx1
 clear hs hr hk hns hw1 hu1 hx1
 unfold batchV
 go_enter Tryz.func82,Tryz.ntmps82
 go_upto_region 1 with fail
 rw[←HW1.out]
 go_cut [3] from 7 to 50 (fun x wx=> ∃bo,x=.pointer (some ⟨bo,0,none⟩)∧EncAt w wx bo (layF B.epoch 64++[flagF B.large,ns])∧wx.heap[w.heap.size]?=some (.cells #[.int .u64 B.epoch,.bool B.large,.slice a B.sets.length c] 56 (0,0)))
 case first=>
  refine wp_region_G 13 (fun W=>W.heap[w.heap.size]?=some (.cells #[.int .u64 B.epoch,.bool B.large,.slice a B.sets.length c] 56 (0,0))) [false,false,false,false,false,false,false,false,false,false,false,false,false,false] rfl (by kernel_rfl) ?_
  generalize w1.drew=wd at hA HU ⊢
  refine tqZ 0 (.pointer (some ⟨w.heap.size,0,none⟩)) [11,2,1] hA (fun w5 q1=>?_) ?_
  ·go_simp
  simp only[pZ,nZ,bZ,List.set]
  refine tqZ 1 (.int .u64 B.epoch) [11,2] hA (fun w5 q1=>?_) ?_
  ·obtain⟨c0,c1,c2⟩:=cells3_of q1
   go_simp
  simp only[pZ,nZ,bZ,List.set]
  refine tqZ 3 (.pointer (some ⟨w.heap.size,1,none⟩)) [11,5,4] hA (fun w5 q1=>?_) ?_
  ·go_simp
  simp only[pZ,nZ,bZ,List.set]
  refine tqZ 4 (.bool B.large) [11,5] hA (fun w5 q1=>?_) ?_
  ·obtain⟨c0,c1,c2⟩:=cells3_of q1
   go_simp
  simp only[pZ,nZ,bZ,List.set]
  refine tqZ 6 (.pointer (some ⟨w.heap.size,2,none⟩)) [11,10,9,8,7] hA (fun w5 q1=>?_) ?_
  ·go_simp
  simp only[pZ,nZ,bZ,List.set]
  refine tqZ 7 (.slice a B.sets.length c) [11,10,9,8] hA (fun w5 q1=>?_) ?_
  ·obtain⟨c0,c1,c2⟩:=cells3_of q1
   go_simp
  simp only[pZ,nZ,bZ,List.set]
  refine tqZ 8 (.int .i64 B.sets.length) [11,10,9] hA (fun w5 q1=>?_) ?_
  ·go_simp
  simp only[pZ,nZ,bZ,List.set]
  refine tqZ 9 (.int .u8 ns) [11,10] hA (fun w5 q1=>?_) ?_
  ·go_simp
  simp only[pZ,nZ,bZ,List.set]
  refine wpG_do2 (i:=2) (j:=12) rfl rfl (by kernel_rfl) rfl rfl (fun K hK=>?_) (fun K hK=>?_)
  ·have HKK:=hid hK
   clear hK
   go_step
   refine(put64_any (v:=.slice none 0 0) (bs:=[]) (x:=B.epoch) _ (by simp) (.inl ⟨rfl,rfl⟩) HEP.out).mono ?_
   rintro e WA ⟨u,rfl,g1,g2⟩
   have hA:=(g2.block _ (lt_of_heap hA) (fun e=>e)).trans hA
   have HO:=hid (OwnB.mono g1 HU.out.size)
   have HU:=hid (HU.out.trans g2)
   clear g1 g2
   simp only[]
   refine HKK.out _ _ hA ?_
   clear HKK
   simp only[pZ,nZ,bZ,List.set]
   refine wpG_do2 (i:=5) (j:=12) rfl rfl (by kernel_rfl) rfl rfl (fun K hK=>?_) (fun K hK=>?_)
   ·have HKK:=hid hK
    clear hK
    go_step
    refine(flagv_any B.large _).mono ?_
    rintro e wf ⟨rfl,rfl⟩
    simp only[]
    refine HKK.out _ _ hA ?_
    clear HKK
    simp only[pZ,nZ,bZ,List.set]
    refine wpG_do2 (i:=10) (j:=12) rfl rfl (by kernel_rfl) rfl rfl (fun K hK=>?_) (fun K hK=>?_)
    ·have HKK:=hid hK
     clear hK
     go_step
     have ub:Upd (fun _=>False) WA (WA.alloc (.cells #[.int .u8 (flagF B.large),.int .u8 ns] 5)):=(Upd.refl _ _).alloc _
     have HB1:=hid (two_in WA (flagF B.large) ns)
     have hA:=(ub.block _ (lt_of_heap hA) (fun e=>e)).trans hA
     have HU:=hid (HU.out.trans ub);have HO:=hid (OwnB.keptF HO.out ub (fun _ _ e=>e))
     generalize hWB:WA.alloc (.cells #[.int .u8 (flagF B.large),.int .u8 ns] 5)=WB at HB1 hA HU HO ub ⊢
     clear ub hWB
     refine HKK.out _ _ hA ?_
     clear HKK
     simp only[pZ,nZ,bZ,List.set]
     refine wpG_do2 (i:=11) (j:=12) rfl rfl (by kernel_rfl) rfl rfl (fun K hK=>?_) (fun K hK=>?_)
     ·have HKK:=hid hK
      clear hK
      refine wp_appB (.tmp 9) (.tmp 17) rfl rfl HO.out rfl HB1.out (by simp[layF_length]) HU.out.size ?_
      intro v1 w1 g1 g2
      have hA:=(g2.block _ (lt_of_heap hA) (fun e=>own_apart HO.out hA (by decide) _ e rfl)).trans hA
      have HU:=hid (HU.out.step g2 (fun j hj e=>by have:=(HO.out.lt j e).1;omega));have HO:=hid g1
      obtain⟨ta,tm,tc,ht3⟩:=g1.bytesAt.1.slice'
      subst ht3
      clear g1 g2 HB1
      refine HKK.out _ _ hA ?_
      clear HKK
      simp only[pZ,nZ,bZ,List.set]
      refine wpG_do (i:=12) rfl (by kernel_rfl) rfl (fun K hK=>?_)
      have HKK:=hid hK
      clear hK
      go_step
      have ua:Upd (fun _=>False) w1 (w1.alloc (.cells #[.slice none 0 0] 39)):=(Upd.refl _ _).alloc _
      have HB6:=hid HU.out.size
      have HX:=hid (alloc_at (w:=w1) (o:=.cells #[.slice none 0 0] 39) rfl)
      have hA:=(ua.block _ (lt_of_heap hA) (fun e=>e)).trans hA
      have HU:=hid (HU.out.trans ua)
      have HO:=hid (OwnB.keptF HO.out ua (fun _ _ e=>e))
      clear ua
      refine HKK.out _ _ hA ?_
      clear HKK
      simp only[pZ,nZ,bZ,List.set]
      generalize w1.alloc (.cells #[.slice none 0 0] 39)=w1X at HX hA HU HO ⊢
      generalize w1.heap.size=bo at HX HB6 ⊢
      refine wpG_tail_lit (k:=13) rfl rfl (by kernel_rfl) ?_
      simp only[List.drop]
      have HNE:=hid (own_apart HO.out HX.out (by decide))
      have c0:=cells1_of HX.out
      have f0:w1X.frozen? ⟨_,0,none⟩=false:=frozen_of_heap HX.out
      go_wp2
      go_meet
      case rel=>
       have hu9:=upd_own w1X bo 0 (.slice ta tm tc)
       refine⟨_,rfl,⟨.slice ta tm tc,?_,OwnB.keptF HO.out hu9 (fun k hk e=>HNE.out k hk e),HNE.out,HB6.out,HU.out.step hu9 (fun j hj e=>by have:=HB6.out;omega)⟩,?_⟩
       ·have:=blk_set (i:=0) (v:=.slice ta tm tc) HX.out
        simpa using this
       ·refine(hu9.block _ (lt_of_heap hA) (fun e=>?_)).trans hA
        have e1:=HX.out
        rw[←e,hA] at e1
        injection e1 with e1
        injection e1 with _ e2 _
        exact absurd e2 (by decide)
     ·have HKK:=hid hK
      clear hK
      go_step
      have ua:Upd (fun _=>False) WB (WB.alloc (.cells #[.slice none 0 0] 39)):=(Upd.refl _ _).alloc _
      have HB6:=hid HU.out.size
      have HX:=hid (alloc_at (w:=WB) (o:=.cells #[.slice none 0 0] 39) rfl)
      have hA:=(ua.block _ (lt_of_heap hA) (fun e=>e)).trans hA
      have HU:=hid (HU.out.trans ua)
      have HO:=hid (OwnB.keptF HO.out ua (fun _ _ e=>e))
      have HB1:=hid (HB1.out.kept ua)
      clear ua
      refine HKK.out _ _ hA ?_
      clear HKK
      simp only[pZ,nZ,bZ,List.set]
      generalize WB.alloc (.cells #[.slice none 0 0] 39)=WBX at HX hA HU HO HB1 ⊢
      generalize WB.heap.size=bo at HX HB6 ⊢
      refine wpG_do (i:=11) rfl (by kernel_rfl) rfl (fun K hK=>?_)
      have HKK:=hid hK
      clear hK
      refine wp_appB (.tmp 9) (.tmp 17) rfl rfl HO.out rfl HB1.out (by simp[layF_length]) HU.out.size ?_
      intro v1 w1 g1 g2
      have hA:=(g2.block _ (lt_of_heap hA) (fun e=>own_apart HO.out hA (by decide) _ e rfl)).trans hA
      have HX:=hid ((g2.block _ (lt_of_heap HX.out) (fun e=>own_apart HO.out HX.out (by decide) _ e rfl)).trans HX.out)
      have HU:=hid (HU.out.step g2 (fun j hj e=>by have:=(HO.out.lt j e).1;omega));have HO:=hid g1
      obtain⟨ta,tm,tc,ht3⟩:=g1.bytesAt.1.slice'
      subst ht3
      clear g1 g2 HB1
      refine HKK.out _ _ hA ?_
      clear HKK
      simp only[pZ,nZ,bZ,List.set]
      refine wpG_tail_lit (k:=13) rfl rfl (by kernel_rfl) ?_
      simp only[List.drop]
      have HNE:=hid (own_apart HO.out HX.out (by decide))
      have c0:=cells1_of HX.out
      have f0:w1.frozen? ⟨_,0,none⟩=false:=frozen_of_heap HX.out
      go_wp2
      go_meet
      case rel=>
       have hu9:=upd_own w1 bo 0 (.slice ta tm tc)
       refine⟨_,rfl,⟨.slice ta tm tc,?_,OwnB.keptF HO.out hu9 (fun k hk e=>HNE.out k hk e),HNE.out,HB6.out,HU.out.step hu9 (fun j hj e=>by have:=HB6.out;omega)⟩,?_⟩
       ·have:=blk_set (i:=0) (v:=.slice ta tm tc) HX.out
        simpa using this
       ·refine(hu9.block _ (lt_of_heap hA) (fun e=>?_)).trans hA
        have e1:=HX.out
        rw[←e,hA] at e1
        injection e1 with e1
        injection e1 with _ e2 _
        exact absurd e2 (by decide)
    ·have HKK:=hid hK
     clear hK
     go_step
     have ua:Upd (fun _=>False) WA (WA.alloc (.cells #[.slice none 0 0] 39)):=(Upd.refl _ _).alloc _
     have HB6:=hid HU.out.size
     have HX:=hid (alloc_at (w:=WA) (o:=.cells #[.slice none 0 0] 39) rfl)
     have hA:=(ua.block _ (lt_of_heap hA) (fun e=>e)).trans hA
     have HU:=hid (HU.out.trans ua)
     have HO:=hid (OwnB.keptF HO.out ua (fun _ _ e=>e))
     clear ua
     refine HKK.out _ _ hA ?_
     clear HKK
     simp only[pZ,nZ,bZ,List.set]
     generalize WA.alloc (.cells #[.slice none 0 0] 39)=WAX at HX hA HU HO ⊢
     generalize WA.heap.size=bo at HX HB6 ⊢
     refine wpG_do (i:=10) rfl (by kernel_rfl) rfl (fun K hK=>?_)
     have HKK:=hid hK
     clear hK
     go_step
     have ub:Upd (fun _=>False) WAX (WAX.alloc (.cells #[.int .u8 (flagF B.large),.int .u8 ns] 5)):=(Upd.refl _ _).alloc _
     have HB1:=hid (two_in WAX (flagF B.large) ns)
     have hA:=(ub.block _ (lt_of_heap hA) (fun e=>e)).trans hA
     have HX:=hid ((ub.block _ (lt_of_heap HX.out) (fun e=>e)).trans HX.out)
     have HU:=hid (HU.out.trans ub);have HO:=hid (OwnB.keptF HO.out ub (fun _ _ e=>e))
     generalize hWB:WAX.alloc (.cells #[.int .u8 (flagF B.large),.int .u8 ns] 5)=WB at HB1 hA HU HO HX ub ⊢
     clear ub hWB
     refine HKK.out _ _ hA ?_
     clear HKK
     simp only[pZ,nZ,bZ,List.set]
     refine wpG_do (i:=11) rfl (by kernel_rfl) rfl (fun K hK=>?_)
     have HKK:=hid hK
     clear hK
     refine wp_appB (.tmp 9) (.tmp 17) rfl rfl HO.out rfl HB1.out (by simp[layF_length]) HU.out.size ?_
     intro v1 w1 g1 g2
     have hA:=(g2.block _ (lt_of_heap hA) (fun e=>own_apart HO.out hA (by decide) _ e rfl)).trans hA
     have HX:=hid ((g2.block _ (lt_of_heap HX.out) (fun e=>own_apart HO.out HX.out (by decide) _ e rfl)).trans HX.out)
     have HU:=hid (HU.out.step g2 (fun j hj e=>by have:=(HO.out.lt j e).1;omega));have HO:=hid g1
     obtain⟨ta,tm,tc,ht3⟩:=g1.bytesAt.1.slice'
     subst ht3
     clear g1 g2 HB1
     refine HKK.out _ _ hA ?_
     clear HKK
     simp only[pZ,nZ,bZ,List.set]
     refine wpG_tail_lit (k:=13) rfl rfl (by kernel_rfl) ?_
     simp only[List.drop]
     have HNE:=hid (own_apart HO.out HX.out (by decide))
     have c0:=cells1_of HX.out
     have f0:w1.frozen? ⟨_,0,none⟩=false:=frozen_of_heap HX.out
     go_wp2
     go_meet
     case rel=>
      have hu9:=upd_own w1 bo 0 (.slice ta tm tc)
      refine⟨_,rfl,⟨.slice ta tm tc,?_,OwnB.keptF HO.out hu9 (fun k hk e=>HNE.out k hk e),HNE.out,HB6.out,HU.out.step hu9 (fun j hj e=>by have:=HB6.out;omega)⟩,?_⟩
      ·have:=blk_set (i:=0) (v:=.slice ta tm tc) HX.out
       simpa using this
      ·refine(hu9.block _ (lt_of_heap hA) (fun e=>?_)).trans hA
       have e1:=HX.out
       rw[←e,hA] at e1
       injection e1 with e1
       injection e1 with _ e2 _
       exact absurd e2 (by decide)
   ·have HKK:=hid hK
    clear hK
    go_step
    have ua:Upd (fun _=>False) WA (WA.alloc (.cells #[.slice none 0 0] 39)):=(Upd.refl _ _).alloc _
    have HB6:=hid HU.out.size
    have HX:=hid (alloc_at (w:=WA) (o:=.cells #[.slice none 0 0] 39) rfl)
    have hA:=(ua.block _ (lt_of_heap hA) (fun e=>e)).trans hA
    have HU:=hid (HU.out.trans ua)
    have HO:=hid (OwnB.keptF HO.out ua (fun _ _ e=>e))
    clear ua
    refine HKK.out _ _ hA ?_
    clear HKK
    simp only[pZ,nZ,bZ,List.set]
    generalize WA.alloc (.cells #[.slice none 0 0] 39)=WAX at HX hA HU HO ⊢
    generalize WA.heap.size=bo at HX HB6 ⊢
    refine wpG_do (i:=5) rfl (by kernel_rfl) rfl (fun K hK=>?_)
    have HKK:=hid hK
    clear hK
    go_step
    refine(flagv_any B.large _).mono ?_
    rintro e wf ⟨rfl,rfl⟩
    simp only[]
    refine HKK.out _ _ hA ?_
    clear HKK
    simp only[pZ,nZ,bZ,List.set]
    refine wpG_do (i:=10) rfl (by kernel_rfl) rfl (fun K hK=>?_)
    have HKK:=hid hK
    clear hK
    go_step
    have ub:Upd (fun _=>False) WAX (WAX.alloc (.cells #[.int .u8 (flagF B.large),.int .u8 ns] 5)):=(Upd.refl _ _).alloc _
    have HB1:=hid (two_in WAX (flagF B.large) ns)
    have hA:=(ub.block _ (lt_of_heap hA) (fun e=>e)).trans hA
    have HX:=hid ((ub.block _ (lt_of_heap HX.out) (fun e=>e)).trans HX.out)
    have HU:=hid (HU.out.trans ub);have HO:=hid (OwnB.keptF HO.out ub (fun _ _ e=>e))
    generalize hWB:WAX.alloc (.cells #[.int .u8 (flagF B.large),.int .u8 ns] 5)=WB at HB1 hA HU HO HX ub ⊢
    clear ub hWB
    refine HKK.out _ _ hA ?_
    clear HKK
    simp only[pZ,nZ,bZ,List.set]
    refine wpG_do (i:=11) rfl (by kernel_rfl) rfl (fun K hK=>?_)
    have HKK:=hid hK
    clear hK
    refine wp_appB (.tmp 9) (.tmp 17) rfl rfl HO.out rfl HB1.out (by simp[layF_length]) HU.out.size ?_
    intro v1 w1 g1 g2
    have hA:=(g2.block _ (lt_of_heap hA) (fun e=>own_apart HO.out hA (by decide) _ e rfl)).trans hA
    have HX:=hid ((g2.block _ (lt_of_heap HX.out) (fun e=>own_apart HO.out HX.out (by decide) _ e rfl)).trans HX.out)
    have HU:=hid (HU.out.step g2 (fun j hj e=>by have:=(HO.out.lt j e).1;omega));have HO:=hid g1
    obtain⟨ta,tm,tc,ht3⟩:=g1.bytesAt.1.slice'
    subst ht3
    clear g1 g2 HB1
    refine HKK.out _ _ hA ?_
    clear HKK
    simp only[pZ,nZ,bZ,List.set]
    refine wpG_tail_lit (k:=13) rfl rfl (by kernel_rfl) ?_
    simp only[List.drop]
    have HNE:=hid (own_apart HO.out HX.out (by decide))
    have c0:=cells1_of HX.out
    have f0:w1.frozen? ⟨_,0,none⟩=false:=frozen_of_heap HX.out
    go_wp2
    go_meet
    case rel=>
     have hu9:=upd_own w1 bo 0 (.slice ta tm tc)
     refine⟨_,rfl,⟨.slice ta tm tc,?_,OwnB.keptF HO.out hu9 (fun k hk e=>HNE.out k hk e),HNE.out,HB6.out,HU.out.step hu9 (fun j hj e=>by have:=HB6.out;omega)⟩,?_⟩
     ·have:=blk_set (i:=0) (v:=.slice ta tm tc) HX.out
      simpa using this
     ·refine(hu9.block _ (lt_of_heap hA) (fun e=>?_)).trans hA
      have e1:=HX.out
      rw[←e,hA] at e1
      injection e1 with e1
      injection e1 with _ e2 _
      exact absurd e2 (by decide)
  ·have HKK:=hid hK
   clear hK
   go_step
   have ua:Upd (fun _=>False) wd (wd.alloc (.cells #[.slice none 0 0] 39)):=(Upd.refl _ _).alloc _
   have HB6:=hid HU.out.size
   have HX:=hid (alloc_at (w:=wd) (o:=.cells #[.slice none 0 0] 39) rfl)
   have hA:=(ua.block _ (lt_of_heap hA) (fun e=>e)).trans hA
   have HU:=hid (HU.out.trans ua)
   clear ua
   refine HKK.out _ _ hA ?_
   clear HKK
   simp only[pZ,nZ,bZ,List.set]
   generalize wd.alloc (.cells #[.slice none 0 0] 39)=wdX at HX hA HU ⊢
   generalize wd.heap.size=bo at HX HB6 ⊢
   refine wpG_do (i:=2) rfl (by kernel_rfl) rfl (fun K hK=>?_)
   have HKK:=hid hK
   clear hK
   go_step
   refine(put64_any (v:=.slice none 0 0) (bs:=[]) (x:=B.epoch) _ (by simp) (.inl ⟨rfl,rfl⟩) HEP.out).mono ?_
   rintro e WA ⟨u,rfl,g1,g2⟩
   have hA:=(g2.block _ (lt_of_heap hA) (fun e=>e)).trans hA
   have HX:=hid ((g2.block _ (lt_of_heap HX.out) (fun e=>e)).trans HX.out)
   have HO:=hid (OwnB.mono g1 HU.out.size)
   have HU:=hid (HU.out.trans g2)
   clear g1 g2
   simp only[]
   refine HKK.out _ _ hA ?_
   clear HKK
   simp only[pZ,nZ,bZ,List.set]
   refine wpG_do (i:=5) rfl (by kernel_rfl) rfl (fun K hK=>?_)
   have HKK:=hid hK
   clear hK
   go_step
   refine(flagv_any B.large _).mono ?_
   rintro e wf ⟨rfl,rfl⟩
   simp only[]
   refine HKK.out _ _ hA ?_
   clear HKK
   simp only[pZ,nZ,bZ,List.set]
   refine wpG_do (i:=10) rfl (by kernel_rfl) rfl (fun K hK=>?_)
   have HKK:=hid hK
   clear hK
   go_step
   have ub:Upd (fun _=>False) WA (WA.alloc (.cells #[.int .u8 (flagF B.large),.int .u8 ns] 5)):=(Upd.refl _ _).alloc _
   have HB1:=hid (two_in WA (flagF B.large) ns)
   have hA:=(ub.block _ (lt_of_heap hA) (fun e=>e)).trans hA
   have HX:=hid ((ub.block _ (lt_of_heap HX.out) (fun e=>e)).trans HX.out)
   have HU:=hid (HU.out.trans ub);have HO:=hid (OwnB.keptF HO.out ub (fun _ _ e=>e))
   generalize hWB:WA.alloc (.cells #[.int .u8 (flagF B.large),.int .u8 ns] 5)=WB at HB1 hA HU HO HX ub ⊢
   clear ub hWB
   refine HKK.out _ _ hA ?_
   clear HKK
   simp only[pZ,nZ,bZ,List.set]
   refine wpG_do (i:=11) rfl (by kernel_rfl) rfl (fun K hK=>?_)
   have HKK:=hid hK
   clear hK
   refine wp_appB (.tmp 9) (.tmp 17) rfl rfl HO.out rfl HB1.out (by simp[layF_length]) HU.out.size ?_
   intro v1 w1 g1 g2
   have hA:=(g2.block _ (lt_of_heap hA) (fun e=>own_apart HO.out hA (by decide) _ e rfl)).trans hA
   have HX:=hid ((g2.block _ (lt_of_heap HX.out) (fun e=>own_apart HO.out HX.out (by decide) _ e rfl)).trans HX.out)
   have HU:=hid (HU.out.step g2 (fun j hj e=>by have:=(HO.out.lt j e).1;omega));have HO:=hid g1
   obtain⟨ta,tm,tc,ht3⟩:=g1.bytesAt.1.slice'
   subst ht3
   clear g1 g2 HB1
   refine HKK.out _ _ hA ?_
   clear HKK
   simp only[pZ,nZ,bZ,List.set]
   refine wpG_tail_lit (k:=13) rfl rfl (by kernel_rfl) ?_
   simp only[List.drop]
   have HNE:=hid (own_apart HO.out HX.out (by decide))
   have c0:=cells1_of HX.out
   have f0:w1.frozen? ⟨_,0,none⟩=false:=frozen_of_heap HX.out
   go_wp2
   go_meet
   case rel=>
    have hu9:=upd_own w1 bo 0 (.slice ta tm tc)
    refine⟨_,rfl,⟨.slice ta tm tc,?_,OwnB.keptF HO.out hu9 (fun k hk e=>HNE.out k hk e),HNE.out,HB6.out,HU.out.step hu9 (fun j hj e=>by have:=HB6.out;omega)⟩,?_⟩
    ·have:=blk_set (i:=0) (v:=.slice ta tm tc) HX.out
     simpa using this
    ·refine(hu9.block _ (lt_of_heap hA) (fun e=>?_)).trans hA
     have e1:=HX.out
     rw[←e,hA] at e1
     injection e1 with e1
     injection e1 with _ e2 _
     exact absurd e2 (by decide)
 case rest=>
  obtain⟨bo,rfl,hE,hX⟩:=hcut
  have HE:=hid hE
  obtain⟨z0,z1,z2⟩:=cells3_of hX
  have hszl:w.heap.size<wc.heap.size:=lt_of_heap hX
  clear hE hX HX1 HW1 hA HU
  have hall: ∀x∈B.sets,x.right=true:=by
   have:=HR.out
   simp only[BatchV.right,Bool.and_eq_true,decide_eq_true_eq,List.all_eq_true] at this
   exact this.1.2
  have HALL:=hid hall
  obtain⟨hd,hhd⟩: ∃hd,hd=layF B.epoch 64++[flagF B.large,ns]:=⟨_,rfl⟩
  have hhl:hd.length=10:=by rw[hhd];simp[layF_length]
  rw[←hhd] at HE
  have HHD:=hid hhd;have HHL:=hid hhl
  clear hall hhd hhl
  go_upto_region 4 with fail
  go_loopg [23] B.sets.length (fun gk i wr=> ∃k:Nat,k≤B.sets.length∧gk=B.sets.length - k∧i=.int .i64 k∧EncAt w wr bo (hd++setsF (B.sets.take k)))
  case atStart=>exact⟨0,Nat.zero_le _,rfl,rfl,by simpa [setsF] using HE.out⟩
  case round=>
   obtain⟨k,hk,rfl,rfl,he⟩:=hrel
   have HE:=hid he
   clear he
   by_cases hkn:k<B.sets.length
   ·have hkni:(k:Int)<B.sets.length:=by omega
    obtain⟨x,hx⟩: ∃x,B.sets[k]?=some x:=⟨_,List.getElem?_eq_getElem hkn⟩
    obtain⟨g1,g2,g3,b,o,ea,oa,oc,na,nc,h0,h1,h2,h3,h4,h5,h6,h7,h8⟩:=HS.out k x hx
    have hxr:=HALL.out x (List.mem_of_getElem? hx)
    simp only[SetV.right,decide_eq_true_eq] at hxr
    obtain⟨r1,r2,r3,r4,_,_⟩:=hxr
    have hts:setsF (B.sets.take (k+1))=setsF (B.sets.take k)++setF x:=by
     have hxx:B.sets[k]=x:=by rw[List.getElem?_eq_getElem hkn] at hx;injection hx
     rw[List.take_succ_eq_append_getElem hkn,hxx]
     simp[setsF]
    have hlen:(hd++setsF (B.sets.take k)).length≤300000:=by
     have:=setsF_length (l:=B.sets.take k) fun y hy=>HALL.out y (List.mem_of_mem_take hy)
     have h10:=HHL.out
     rw[List.length_append]
     simp only[List.length_take] at this
     have:6031 * min k B.sets.length≤6031 * 48:=Nat.mul_le_mul_left _ (by omega)
     omega
    subst ea
    obtain⟨v0,e1,e2,e3,e4,e5⟩:=HE.out
    have kc: ∀{o:Nat} {v:Value},w.cell? ⟨b,o,none⟩=some v→wr.cell? ⟨b,o,none⟩=some v:=fun h=>cell_keptF e5 (fun e=>e) h
    have q0:=kc h0;have q1:=kc h1;have q2:=kc h2;have q3:=kc h3;have q4:=kc h4
    obtain⟨out,hout⟩: ∃out,out=hd++setsF (B.sets.take k):=⟨_,rfl⟩
    rw[←hout] at e2 hlen
    have H5:=hid h5;have H6:=hid h6;have HTS:=hid hts;have HOUT:=hid hout;have HLEN:=hid hlen
    have HB0:=hid e4
    have hcn:IntKind.u8.wrap (x.name.size:Int)=x.name.size:=by rw[IntKind.wrap_u8];omega
    obtain⟨nl,hnl⟩: ∃nl:Int,nl=(x.name.size:Int):=⟨_,rfl⟩
    have HNL:=hid hnl
    rw[←hnl] at hcn
    have hcn:IntKind.u8.wrap (x.name.size:Int)=nl:=by rw[←hnl];exact hcn
    have hA0:=e1
    have HU0:=hid e5;have HO0:=hid e2
    clear hx h0 h1 h2 h3 h4 h5 h6 kc hts hlen hout e1 e2 e3 e5 e4 hnl
    go_upto_region 6 with fail
    obtain⟨b6,hb6⟩: ∃b6,b6=wr.heap.size:=⟨_,rfl⟩
    obtain⟨w3,hw3⟩: ∃w3,w3=wr.alloc (.cells #[.string x.name,.bool x.was,.bool x.is,.slice oa x.old.length oc,.slice na x.new.length nc] 73):=⟨_,rfl⟩
    rw[←hw3,←hb6]
    have hu3:Upd (fun _=>False) wr w3:=by rw[hw3];exact(Upd.refl _ wr).alloc _
    have hx3:w3.heap[b6]?=some (.cells #[.string x.name,.bool x.was,.bool x.is,.slice oa x.old.length oc,.slice na x.new.length nc] 73 (0,0)):=by rw[hw3];exact alloc_at hb6
    have hA:w3.drew.heap[bo]?=some (.cells #[v0] 39 (0,0))∧w3.drew.heap[b6]?=some (.cells #[.string x.name,.bool x.was,.bool x.is,.slice oa x.old.length oc,.slice na x.new.length nc] 73 (0,0)):=⟨(hu3.block _ (lt_of_heap hA0) (fun e=>e)).trans hA0,hx3⟩
    have HU:=hid ((HU0.out.trans hu3).drew)
    have HO:=hid (show OwnB w3.drew w.heap.size v0 out from OwnB.keptF HO0.out hu3.drew (fun _ _ e=>e))
    have hbl:bo<b6:=by rw[hb6];exact lt_of_heap hA0
    clear hw3 hb6 hu3 hx3 hA0 q0 q1 q2 q3 q4 z0 z1
    refine wp_region_G 10 (fun W=>W.heap[bo]?=some (.cells #[v0] 39 (0,0))∧W.heap[b6]?=some (.cells #[.string x.name,.bool x.was,.bool x.is,.slice oa x.old.length oc,.slice na x.new.length nc] 73 (0,0))) [false,false,false,false,false,false,false,false,false,false,false] rfl (by kernel_rfl) ?_
    generalize w3.drew=wd at hA HU HO ⊢
    refine tqZ 0 (v0) [9,6] hA (fun w5 q1=>?_) ?_
    ·have c0:=cells1_of q1.1
     go_simp
    simp only[pZ,nZ,bZ,List.set]
    refine tqZ 1 (.pointer (some ⟨b6,0,none⟩)) [9,6,5,4,3,2] hA (fun w5 q1=>?_) ?_
    ·go_simp
    simp only[pZ,nZ,bZ,List.set]
    refine tqZ 2 (.string x.name) [9,6,5,4,3] hA (fun w5 q1=>?_) ?_
    ·obtain⟨x0,x1,x2,x3,x4⟩:=cells5_of q1.2
     go_simp
    simp only[pZ,nZ,bZ,List.set]
    refine tqZ 3 (.int .i64 x.name.size) [9,6,5,4] hA (fun w5 q1=>?_) ?_
    ·go_simp
    simp only[pZ,nZ,bZ,List.set]
    refine tqZ 4 (.int .u8 nl) [9,6,5] hA (fun w5 q1=>?_) ?_
    ·go_simp
    simp only[pZ,nZ,bZ,List.set]
    refine tqZ 7 (.pointer (some ⟨b6,0,none⟩)) [9,8] hA (fun w5 q1=>?_) ?_
    ·go_simp
    simp only[pZ,nZ,bZ,List.set]
    refine tqZ 8 (.string x.name) [9] hA (fun w5 q1=>?_) ?_
    ·obtain⟨x0,x1,x2,x3,x4⟩:=cells5_of q1.2
     go_simp
    simp only[pZ,nZ,bZ,List.set]
    refine wpG_do (i:=5) rfl (by kernel_rfl) rfl (fun K hK=>?_)
    have HKK:=hid hK
    clear hK
    go_step
    have ua:Upd (fun _=>False) wd (wd.alloc (.cells #[.int .u8 nl] 5)):=(Upd.refl _ _).alloc _
    have HB1:=hid (one_in wd nl)
    have hA:=And.intro ((ua.block _ (lt_of_heap hA.1) (fun e=>e)).trans hA.1) ((ua.block _ (lt_of_heap hA.2) (fun e=>e)).trans hA.2)
    have HU:=hid (HU.out.trans ua);have HO:=hid (OwnB.keptF HO.out ua (fun _ _ e=>e))
    refine HKK.out _ _ hA ?_
    generalize wd.alloc (.cells #[.int .u8 nl] 5)=we at HB1 hA HU HO ⊢
    clear ua
    clear HKK
    simp only[pZ,nZ,bZ,List.set]
    refine wpG_do (i:=6) rfl (by kernel_rfl) rfl (fun K hK=>?_)
    have HKK:=hid hK
    clear hK
    refine wp_appB (.tmp 27) (.tmp 32) rfl rfl HO.out rfl HB1.out (by have:=HLEN.out;simp;omega) HU.out.size ?_
    intro v1 w4 g1 g2
    have hA:=And.intro ((g2.block _ (lt_of_heap hA.1) (fun e=>own_apart HO.out hA.1 (by decide) _ e rfl)).trans hA.1) ((g2.block _ (lt_of_heap hA.2) (fun e=>own_apart HO.out hA.2 (by decide) _ e rfl)).trans hA.2)
    have HU:=hid (HU.out.step g2 (fun j hj e=>by have:=(HO.out.lt j e).1;omega));have HO:=hid g1
    refine HKK.out _ _ hA ?_
    clear g1 g2
    clear HKK
    simp only[pZ,nZ,bZ,List.set]
    refine wpG_do (i:=9) rfl (by kernel_rfl) rfl (fun K hK=>?_)
    have HKK:=hid hK
    clear hK
    refine wp_appS (.tmp 33) (.tmp 35) rfl rfl HO.out rfl (by have:=HLEN.out;simp;omega) HU.out.size ?_
    intro v2 w5 g1 g2
    have hA:=And.intro ((g2.block _ (lt_of_heap hA.1) (fun e=>own_apart HO.out hA.1 (by decide) _ e rfl)).trans hA.1) ((g2.block _ (lt_of_heap hA.2) (fun e=>own_apart HO.out hA.2 (by decide) _ e rfl)).trans hA.2)
    have HU:=hid (HU.out.step g2 (fun j hj e=>by have:=(HO.out.lt j e).1;omega));have HO:=hid g1
    obtain⟨ta,tm,tc,ht3⟩:=g1.bytesAt.1.slice'
    refine HKK.out _ _ hA ?_
    clear g1 g2
    subst ht3
    clear HKK
    simp only[pZ,nZ,bZ,List.set]
    refine wpG_tail_lit (k:=10) rfl rfl (by kernel_rfl) ?_
    simp only[List.drop]
    have HNE:=hid (own_apart HO.out hA.1 (by decide))
    have c0:=cells1_of hA.1
    have f0:w5.frozen? ⟨bo,0,none⟩=false:=frozen_of_heap hA.1
    have HA:=hid hA
    clear hA
    go_upto_region 7 with fail
    obtain⟨w6,hw6⟩: ∃w6,w6=w5.setCell ⟨bo,0,none⟩ (.slice ta tm tc):=⟨_,rfl⟩
    rw[←hw6]
    have hu6:Upd (fun k=>k=bo) w5 w6:=by rw[hw6];exact upd_own w5 bo 0 _
    have hE6:EncAt w w6 bo (out++[nl]++numsOf x.name):=by
     refine⟨.slice ta tm tc,?_,OwnB.keptF HO.out hu6 (fun k hk e=>HNE.out k hk e),HNE.out,HB0.out,HU.out.step hu6 (fun j hj e=>by have:=HB0.out;omega)⟩
     rw[hw6]
     have:=blk_set (i:=0) (v:=.slice ta tm tc) HA.out.1
     simpa using this
    have hx6:w6.heap[b6]?=some (.cells #[.string x.name,.bool x.was,.bool x.is,.slice oa x.old.length oc,.slice na x.new.length nc] 73 (0,0)):=(hu6.block _ (lt_of_heap HA.out.2) (by omega)).trans HA.out.2
    obtain⟨x0,x1,x2,x3,x4⟩:=cells5_of hx6
    have HE6:=hid hE6;have HX6:=hid hx6
    clear hw6 hu6 hE6 hx6 c0 f0 HA HO HU HNE
    go_wp2_with (go_at_call 146;fail)
    refine(maybe1_any w w6 HE6.out H5.out (by omega) (by have:=HLEN.out;simp[numsOf_length];omega)).mono ?_
    rintro e w7 ⟨⟨vv,rfl⟩,g5,g6⟩
    have hx7:=g6 _ _ HX6.out
    obtain⟨x0,x1,x2,x3,x4⟩:=cells5_of hx7
    have HE7:=hid g5
    clear g5 g6 hx7
    simp only[]
    go_wp2_with (go_at_call 146;fail)
    refine(maybe1_any w w7 HE7.out H6.out (by omega) (by have:=HLEN.out;simp[numsOf_length,maybeF,layF_length];omega)).mono ?_
    rintro e w8 ⟨⟨vv2,rfl⟩,g5,g6⟩
    have HE8:=hid g5
    clear g5 g6 x0 x1 x2 x3 x4
    simp only[]
    go_wp2
    go_roundg (B.sets.length - (k+1))
    case measure=>omega
    case rel=>
     refine⟨k+1,by omega,rfl,congrArg _ (by omega),?_⟩
     have e8:=HE8.out
     have:hd++setsF (B.sets.take (k+1))=out++[nl]++numsOf x.name++maybeF x.was x.old++maybeF x.is x.new:=by
      rw[HTS.out,←List.append_assoc,←HOUT.out]
      have:setF x=nl :: (numsOf x.name++(maybeF x.was x.old++maybeF x.is x.new)):=by
       rw[HNL.out]
       simp only[setF]
       congr 1
       omega
      rw[this]
      simp
     rw[this]
     exact e8
   ·obtain rfl:k=B.sets.length:=by omega
    have he:=HE.out
    rw[List.take_of_length_le (Nat.le_refl _)] at he
    obtain⟨v0,e1,e2,e3,e4,e5⟩:=he
    have c0:=cells1_of e1
    obtain⟨va,vm,vc,rfl⟩:=e2.bytesAt.1.slice'
    have E2:=hid e2;have E5:=hid e5
    clear e1 e2 e3 e4 e5
    go_wp2
    go_ret
    have hh:=HHD.out
    refine⟨_,rfl,?_,E5.out⟩
    have:encF B=hd++setsF B.sets:=by rw[hh,HNS.out];simp[encF]
    rw[this]
    exact E2.out
theorem and_255 {x:Int}(h:0≤x∧x≤18446744073709551615):bits .and .u64 x 255=x % 256:=by
 rw[u64_and x 255 h.1 (by omega) (by omega) (by omega)]
 have:(255:Int).toNat=255:=rfl
 rw[this,nat_mask8]
 omega
theorem or_low {x b:Int}(h0:0≤x)(h1:x<72057594037927936)(h2:0≤b)(h3:b≤255):bits .or .u64 (x * 256) b=x * 256+b:=by
 obtain⟨B,rfl⟩:=Int.eq_ofNat_of_zero_le h2
 obtain⟨X,rfl⟩:=Int.eq_ofNat_of_zero_le h0
 have e:(X:Int) * 256=((2 ^ 8 * X:Nat):Int):=by rw[Int.mul_comm];push_cast;rfl
 rw[e,u64_or_nat _ _ (by omega) (by omega),←Nat.two_pow_add_eq_or_of_lt (by omega)]
 push_cast
 rfl
theorem layF_zero (x:Int):layF x 0=[]:=rfl
theorem layF_more (x:Int)(n:Nat):layF x (8 * (n+1))=layF (x / 256) (8 * n)++[x % 256]:=by
 have e1:8 * (n+1) / 8=n+1:=by omega
 have e2:8 * n / 8=n:=by omega
 simp only[layF,e1,e2,List.range_succ,List.map_append,List.map_cons,List.map_nil]
 congr 1
 ·refine List.map_congr_left fun i hi=>?_
  have hi':i<n:=by simpa using hi
  have:(2:Int) ^ (8 * (n+1) - 8 * (i+1))=256 * 2 ^ (8 * n - 8 * (i+1)):=by
   rw[show 8 * (n+1) - 8 * (i+1)=8+(8 * n - 8 * (i+1)) by omega,Int.pow_add]
   rfl
  rw[this,Int.ediv_ediv_of_nonneg (by omega)]
 ·simp
theorem high_any: ∀(n:Nat) (x:Int) (w:World),n≤8→0≤x∧x≤18446744073709551615→Calls Tryz.prog 83 #[.int .u64 x,.int .i64 n] w fun e w'=> ∃u,e=.returned u∧OwnB w' w.heap.size u (layF x (8 * n))∧Upd (fun _=>False) w w'
 | 0,x,w,_,hx=>by
  go_enter Tryz.func83,Tryz.ntmps83
  go_wp2
  go_ret
  exact⟨_,rfl,by rw[Nat.mul_zero,layF_zero];exact World.ownsRow_nil _ _ _ _,Upd.refl _ _⟩
 |n+1,x,w,hn,hx=>by
  have HC:=hid (high_any n (x / 256) w (by omega) (by omega))
  have ha:=and_255 hx
  have hw8:IntKind.u8.wrap (x % 256)=x % 256:=by rw[IntKind.wrap_u8];omega
  have hn0: ¬(((n+1:Nat):Int)=0):=by omega
  have hn1:((n+1:Nat):Int) - 1=n:=by omega
  have HX:=hid hx;have HN:=hid hn
  have hnb:((n+1:Nat):Int)≤8:=by omega
  clear hx hn
  go_enter Tryz.func83,Tryz.ntmps83
  go_wp2_with (go_at_call 83;fail)
  refine HC.out.mono ?_
  rintro e w1 ⟨u,rfl,ho,hu⟩
  obtain⟨ua,um,uc,rfl⟩:=ho.bytesAt.1.slice'
  have HO:=hid ho;have HU:=hid hu
  have hul:(layF (x / 256) (8 * n)).length≤8:=by rw[layF_length];omega
  clear ho hu HC
  simp only[]
  iterate 13 go_step
  refine wpList_appB (bs:=layF (x / 256) (8 * n)) (cs:=[x % 256]) rfl (.tmp 11) (.tmp 15) rfl rfl (OwnB.keptF HO.out ((Upd.refl (fun _=>False) w1).alloc _) (fun _ _ e=>e)) rfl ?_ (by simp only[List.length_cons,List.length_nil];omega) (Nat.le_trans HU.out.size (by simp)) ?_
  ·exact one_in w1 (x % 256)
  intro v2 w2 g1 g2
  obtain⟨va,vm,vc,rfl⟩:=g1.bytesAt.1.slice'
  have HO2:=hid g1
  have HU2:=hid ((HU.out.trans ((Upd.refl (fun _=>False) w1).alloc _)).step g2 (fun j hj e=>by have:=(HO.out.lt j e).1;omega))
  clear g1 g2
  go_wp2
  go_ret
  exact⟨_,rfl,by rw[layF_more];exact HO2.out,HU2.out⟩
theorem pow256 (m:Nat)(h:m≤7):(256:Int) ^ m≤72057594037927936:=by
 obtain rfl | rfl | rfl | rfl | rfl | rfl | rfl | rfl:m=0∨m=1∨m=2∨m=3∨m=4∨m=5∨m=6∨m=7:=by omega
 all_goals decide
theorem number_any {v:Value}{bs:List Int}(w:World)(hv:BytesIn w v bs)(hB:Bytes bs)(hl:bs.length≤8):
  Calls Tryz.prog 85 #[v] w fun e w'=>e=.returned (.int .u64 (beF bs))∧w=w':=by
 obtain⟨a,c,rfl,hc1,hc2⟩: ∃a c,v=.slice a bs.length c∧bs.length≤c∧c≤maxLen:=by
  rcases hv with ⟨rfl,rfl⟩ | ⟨a,c,h1,h2,h3,_⟩
  ·exact⟨none,0,rfl,by simp,by unfold maxLen;omega⟩
  ·exact⟨_,c,h1,h2,h3⟩
 have HV:=hid hv;have HB:=hid hB
 clear hv hB
 unfold maxLen at hc2
 go_enter Tryz.func85,Tryz.ntmps85
 go_upto_region 3 with fail
 go_loopg [3,4] bs.length (fun gk x i wr=> ∃k:Nat,k≤bs.length∧gk=bs.length - k∧i=.int .i64 k∧x=.int .u64 (beF (bs.take k))∧w=wr)
 case atStart=>exact⟨0,Nat.zero_le _,rfl,rfl,rfl,rfl⟩
 case round=>
  obtain⟨k,hk,rfl,rfl,rfl,rfl⟩:=hrel
  by_cases hkn:k<bs.length
  ·have hkni:(k:Int)<bs.length:=by omega
   obtain⟨b,hb⟩: ∃b,bs[k]?=some b:=⟨_,List.getElem?_eq_getElem hkn⟩
   have hbb:=HB.out b (List.mem_of_getElem? hb)
   have hBt:Bytes (bs.take k):=fun x hx=>HB.out x (List.mem_of_mem_take hx)
   have hx0:=beF_nonneg hBt
   have hx1:beF (bs.take k)<72057594037927936:=by
    have h1:=beF_lt hBt
    have h2:(bs.take k).length≤7:=by simp;omega
    have h4:=pow256 _ h2
    omega
   have hnx:beF (bs.take (k+1))=beF (bs.take k) * 256+b:=by
    rw[List.take_add_one,hb]
    show List.foldl _ 0 (List.take k bs++[b])=_
    rw[List.foldl_append]
    rfl
   rcases HV.out with ⟨e,_⟩ | ⟨a',c',e,_,_,hcs⟩
   ·injection e with e1 e2 e3;omega
   injection e with e1 e2 e3
   subst e1 e3
   clear e2
   have q:w.cell? (a'.add k)=some (.int .u8 b):=hcs k _ (by rw[bcells,List.getElem?_map,hb];rfl)
   obtain⟨x,hx⟩: ∃x,x=beF (bs.take k):=⟨_,rfl⟩
   rw[←hx] at hx0 hx1 hnx ⊢
   have ho:=or_low hx0 hx1 hbb.1 hbb.2
   have hw:IntKind.u64.wrap (x * 256)=x * 256:=by rw[IntKind.wrap_u64];omega
   have hwb:IntKind.u64.wrap b=b:=by rw[IntKind.wrap_u64];omega
   have HNX:=hid hnx;have HX:=hid hx
   clear hnx hx hb hcs
   go_wp2
   go_roundg (bs.length - (k+1))
   case measure=>omega
   case rel=>exact⟨k+1,by omega,rfl,congrArg _ (by omega),congrArg _ HNX.out.symm,rfl⟩
  ·obtain rfl:k=bs.length:=by omega
   go_wp2
   go_ret
   exact⟨by rw[List.take_of_length_le (Nat.le_refl _)];rfl,rfl⟩
theorem own_one {W:World}{B g:Nat}{x:Int}(h:W.heap[g]?=some (.cells #[.int .u8 x] 5 (0,0)))(hb:B≤g):OwnB W B (.slice (some ⟨g,0,none⟩) 1 1) [x]:=
 ⟨rfl,.inr ⟨g,1,_,rfl,hb,h,Nat.le_refl _,by unfold maxLen;omega,rfl,rfl⟩⟩
theorem there_any {f:Bool}{xa:Option Addr}{xs:List Int}{xc:Nat}(w:World)(hx:BytesIn w (.slice xa xs.length xc) xs)(hl:xs.length≤65535):
  Calls Tryz.prog 84 #[.bool f,.slice xa xs.length xc] w fun e w'=> ∃u,e=.returned u∧OwnB w' w.heap.size u (maybeF f xs)∧Upd (fun _=>False) w w':=by
 have hcv:IntKind.u64.wrap (xs.length:Int)=xs.length:=by rw[IntKind.wrap_u64];omega
 have HX:=hid hx
 clear hx
 go_enter Tryz.func84,Tryz.ntmps84
 go_upto_region 2 with fail
 obtain⟨g,hg⟩: ∃g,g=w.heap.size:=⟨_,rfl⟩
 obtain⟨w1,hw1⟩: ∃w1,w1=w.alloc (.cells #[.int .u8 0] 5):=⟨_,rfl⟩
 rw[←hw1,←hg]
 have hu1:Upd (fun _=>False) w w1:=by rw[hw1];exact(Upd.refl _ w).alloc _
 have hx1:w1.heap[g]?=some (.cells #[.int .u8 0] 5 (0,0)):=by rw[hw1];exact alloc_at hg
 have c0:=cells1_of hx1
 have f0:w1.frozen? ⟨g,0,none⟩=false:=frozen_of_heap hx1
 have HX1:=hid hx1;have HU1:=hid hu1;have HG:=hid hg
 clear hw1 hu1 hx1 hg
 go_upto_if 7 with fail
 go_cut [] from 8 to 17 (fun wx=>wx.heap[g]?=some (.cells #[.int .u8 (flagF f)] 5 (0,0))∧Upd (fun _=>False) w wx)
 case first=>
  cases f
  ·go_wp2
   go_meet
   case rel=>exact⟨HX1.out,HU1.out⟩
  ·go_wp2
   go_meet
   case rel=>
    refine⟨?_,HU1.out.step (upd_own w1 g 0 _) (fun k hk e=>by have:=HG.out;omega)⟩
    have:=blk_set (i:=0) (v:=.int .u8 1) HX1.out
    simpa [flagF] using this
 case rest=>
  obtain⟨hx2,hu2⟩:=hcut
  have HO2:=hid (own_one (B:=w.heap.size) hx2 (by have:=HG.out;omega))
  have HU2:=hid hu2
  clear hx2 hu2 HX1 HU1 c0 f0
  go_wp2_with (go_at_call 83;fail)
  refine(high_any 2 (xs.length:Int) wc (by omega) (by omega)).mono ?_
  rintro e w3 ⟨u,rfl,ho,hu⟩
  obtain⟨ua,um,uc,rfl⟩:=ho.bytesAt.1.slice'
  have HO2:=hid (OwnB.keptF HO2.out hu (fun _ _ e=>e))
  have HU3:=hid (HU2.out.trans hu)
  have HB:=hid ho.bytesIn
  clear ho hu
  simp only[]
  go_step
  refine wpList_appB (bs:=[flagF f]) (cs:=layF (xs.length:Int) (8 * 2)) rfl (.tmp 10) (.tmp 14) rfl rfl HO2.out rfl HB.out (by simp only[List.length_cons,List.length_nil,layF_length];omega) HU3.out.size ?_
  intro v4 w4 g1 g2
  have HO4:=hid g1
  have HU4:=hid (HU3.out.step g2 (fun j hj e=>by have:=(HO2.out.lt j e).1;omega))
  clear g1 g2
  iterate 3 go_step
  refine wpList_appB (bs:=[flagF f]++layF (xs.length:Int) (8 * 2)) (cs:=xs) rfl (.tmp 15) (.tmp 16) rfl rfl HO4.out rfl (HX.out.kept HU4.out) (by simp only[List.length_append,List.length_cons,List.length_nil,layF_length];omega) HU4.out.size ?_
  intro v5 w5 g1 g2
  obtain⟨va,vm,vc,rfl⟩:=g1.bytesAt.1.slice'
  have HO5:=hid g1
  have HU5:=hid (HU4.out.step g2 (fun j hj e=>by have:=(HO4.out.lt j e).1;omega))
  clear g1 g2
  go_wp2
  go_ret
  exact⟨_,rfl,by have:=HO5.out;simpa [maybeF] using this,HU5.out⟩
theorem OwnB.shape {W:World}{B:Nat}{v:Value}{bs:List Int}(h:OwnB W B v bs)(hn:0<bs.length): ∃g cap cs,v=.slice (some ⟨g,0,none⟩) bs.length cap∧W.heap[g]?=some (.cells cs 5 (0,0))∧bs.length≤cs.size:=by
 rcases h.2 with ⟨_,e0⟩ | ⟨g,cap,cur,e0,_,hg,h1,_,h3,_⟩
 ·omega
 ·exact⟨g,cap,cur,e0,hg,by omega⟩
theorem refBytes_any {c:Nat}{a:Option Addr}{B:BatchV}(w:World)(hs:SetsIn w a B.sets)(hr:B.right=true)(hk:B.Ok):
  Calls Tryz.prog 25 #[batchV B a c] w fun e w'=> ∃u,e=.returned u∧OwnB w' w.heap.size u (encF B)∧Upd (fun _=>False) w w':=by
 have hsl:B.sets.length≤48:=by
  simp only[BatchV.right,Bool.and_eq_true,decide_eq_true_eq] at hr
  exact hr.1.1.2
 have HS:=hid hs;have HR:=hid hr;have HEP:=hid hk.epoch
 obtain⟨ns,hns⟩: ∃ns,ns=(B.sets.length:Int) % 256:=⟨_,rfl⟩
 have hcv8:IntKind.u8.wrap (B.sets.length:Int)=ns:=by rw[IntKind.wrap_u8,hns]
 have HNS:=hid hns
 obtain⟨w1,hw1⟩: ∃w1,w1=w.alloc (.cells #[.int .u64 B.epoch,.bool B.large,.slice a B.sets.length c] 56):=⟨_,rfl⟩
 have hu1:Upd (fun _=>False) w w1:=by rw[hw1];exact(Upd.refl _ w).alloc _
 have hx1:w1.heap[w.heap.size]?=some (.cells #[.int .u64 B.epoch,.bool B.large,.slice a B.sets.length c] 56 (0,0)):=by rw[hw1];exact alloc_at rfl
 have hA:w1.drew.heap[w.heap.size]?=some (.cells #[.int .u64 B.epoch,.bool B.large,.slice a B.sets.length c] 56 (0,0)):=hx1
 have HU:=hid hu1.drew
 have HW1:=hid hw1;have HX1:=hid hx1
 clear hs hr hk hns hw1 hu1 hx1
 unfold batchV
 go_enter Tryz.func25,Tryz.ntmps25
 go_upto_region 1 with fail
 rw[←HW1.out]
 go_cut [3] from 6 to 50 (fun x wx=>OwnB wx w.heap.size x (layF B.epoch 64++[0,ns])∧Upd (fun _=>False) w wx∧wx.heap[w.heap.size]?=some (.cells #[.int .u64 B.epoch,.bool B.large,.slice a B.sets.length c] 56 (0,0)))
 case first=>
  refine wp_region_G 9 (fun W=>W.heap[w.heap.size]?=some (.cells #[.int .u64 B.epoch,.bool B.large,.slice a B.sets.length c] 56 (0,0))) [false,false,false,false,false,false,false,false,false,false] rfl (by kernel_rfl) ?_
  generalize w1.drew=wd at hA HU ⊢
  refine tqZ 0 (.pointer (some ⟨w.heap.size,0,none⟩)) [8,2,1] hA (fun w5 q1=>?_) ?_
  ·go_simp
  simp only[pZ,nZ,bZ,List.set]
  refine tqZ 1 (.int .u64 B.epoch) [8,2] hA (fun w5 q1=>?_) ?_
  ·obtain⟨c0,c1,c2⟩:=cells3_of q1
   go_simp
  simp only[pZ,nZ,bZ,List.set]
  refine tqZ 3 (.pointer (some ⟨w.heap.size,2,none⟩)) [8,7,6,5,4] hA (fun w5 q1=>?_) ?_
  ·go_simp
  simp only[pZ,nZ,bZ,List.set]
  refine tqZ 4 (.slice a B.sets.length c) [8,7,6,5] hA (fun w5 q1=>?_) ?_
  ·obtain⟨c0,c1,c2⟩:=cells3_of q1
   go_simp
  simp only[pZ,nZ,bZ,List.set]
  refine tqZ 5 (.int .i64 B.sets.length) [8,7,6] hA (fun w5 q1=>?_) ?_
  ·go_simp
  simp only[pZ,nZ,bZ,List.set]
  refine tqZ 6 (.int .u8 ns) [8,7] hA (fun w5 q1=>?_) ?_
  ·go_simp
  simp only[pZ,nZ,bZ,List.set]
  refine wpG_do2 (i:=2) (j:=7) rfl rfl (by kernel_rfl) rfl rfl (fun K hK=>?_) (fun K hK=>?_)
  ·have HKK:=hid hK
   clear hK
   go_step
   refine(high_any 8 B.epoch wd (by omega) HEP.out).mono ?_
   rintro e WA ⟨u,rfl,g1,g2⟩
   have hA:=(g2.block _ (lt_of_heap hA) (fun e=>e)).trans hA
   have HO:=hid (OwnB.mono g1 HU.out.size)
   have HU:=hid (HU.out.trans g2)
   clear g1 g2
   simp only[]
   refine HKK.out _ _ hA ?_
   clear HKK
   simp only[pZ,nZ,bZ,List.set]
   refine wpG_do (i:=7) rfl (by kernel_rfl) rfl (fun K hK=>?_)
   have HKK:=hid hK
   clear hK
   go_step
   have ub:Upd (fun _=>False) WA (WA.alloc (.cells #[.int .u8 0,.int .u8 ns] 5)):=(Upd.refl _ _).alloc _
   have HB1:=hid (two_in WA 0 ns)
   have hA:=(ub.block _ (lt_of_heap hA) (fun e=>e)).trans hA
   have HU:=hid (HU.out.trans ub)
   have HO:=hid (OwnB.keptF HO.out ub (fun _ _ e=>e))
   refine HKK.out _ _ hA ?_
   generalize hWB:WA.alloc (.cells #[.int .u8 0,.int .u8 ns] 5)=WB at HB1 hA HU HO ub ⊢
   clear ub hWB
   clear HKK
   simp only[pZ,nZ,bZ,List.set]
   refine wpG_do (i:=8) rfl (by kernel_rfl) rfl (fun K hK=>?_)
   have HKK:=hid hK
   clear hK
   refine wp_appB (.tmp 8) (.tmp 13) rfl rfl HO.out rfl HB1.out (by simp[layF_length]) HU.out.size ?_
   intro v1 w3 g1 g2
   have hA:=(g2.block _ (lt_of_heap hA) (fun e=>own_apart HO.out hA (by decide) _ e rfl)).trans hA
   have HU:=hid (HU.out.step g2 (fun j hj e=>by have:=(HO.out.lt j e).1;omega));have HO:=hid g1
   obtain⟨ta,tm,tc,rfl⟩:=g1.bytesAt.1.slice'
   clear g1 g2 HB1
   refine HKK.out _ _ hA ?_
   clear HKK
   simp only[pZ,nZ,bZ,List.set]
   refine wpG_tail_lit (k:=9) rfl rfl (by kernel_rfl) ?_
   simp only[List.drop]
   go_wp2
   go_meet
   case rel=>exact⟨HO.out,HU.out,hA⟩
  ·have HKK:=hid hK
   clear hK
   go_step
   have ub:Upd (fun _=>False) wd (wd.alloc (.cells #[.int .u8 0,.int .u8 ns] 5)):=(Upd.refl _ _).alloc _
   have HB1:=hid (two_in wd 0 ns)
   have hA:=(ub.block _ (lt_of_heap hA) (fun e=>e)).trans hA
   have HU:=hid (HU.out.trans ub)
   refine HKK.out _ _ hA ?_
   generalize hWB:wd.alloc (.cells #[.int .u8 0,.int .u8 ns] 5)=WB at HB1 hA HU ub ⊢
   clear ub hWB
   clear HKK
   simp only[pZ,nZ,bZ,List.set]
   refine wpG_do (i:=2) rfl (by kernel_rfl) rfl (fun K hK=>?_)
   have HKK:=hid hK
   clear hK
   go_step
   refine(high_any 8 B.epoch WB (by omega) HEP.out).mono ?_
   rintro e WA ⟨u,rfl,g1,g2⟩
   have hA:=(g2.block _ (lt_of_heap hA) (fun e=>e)).trans hA
   have HO:=hid (OwnB.mono g1 HU.out.size)
   have HU:=hid (HU.out.trans g2)
   have HB1:=hid (HB1.out.kept g2)
   clear g1 g2
   simp only[]
   refine HKK.out _ _ hA ?_
   clear HKK
   simp only[pZ,nZ,bZ,List.set]
   refine wpG_do (i:=8) rfl (by kernel_rfl) rfl (fun K hK=>?_)
   have HKK:=hid hK
   clear hK
   refine wp_appB (.tmp 8) (.tmp 13) rfl rfl HO.out rfl HB1.out (by simp[layF_length]) HU.out.size ?_
   intro v1 w3 g1 g2
   have hA:=(g2.block _ (lt_of_heap hA) (fun e=>own_apart HO.out hA (by decide) _ e rfl)).trans hA
   have HU:=hid (HU.out.step g2 (fun j hj e=>by have:=(HO.out.lt j e).1;omega));have HO:=hid g1
   obtain⟨ta,tm,tc,rfl⟩:=g1.bytesAt.1.slice'
   clear g1 g2 HB1
   refine HKK.out _ _ hA ?_
   clear HKK
   simp only[pZ,nZ,bZ,List.set]
   refine wpG_tail_lit (k:=9) rfl rfl (by kernel_rfl) ?_
   simp only[List.drop]
   go_wp2
   go_meet
   case rel=>exact⟨HO.out,HU.out,hA⟩
 case rest=>
  obtain⟨ho,hu,hx⟩:=hcut
  obtain⟨g,gc,cs,rfl,hgc,hgs⟩:=ho.shape (by simp[layF_length])
  have hl10:(layF B.epoch 64++[0,ns]).length=10:=by simp[layF_length]
  rw[hl10] at ho hgs ⊢
  obtain⟨z0,z1,z2⟩:=cells3_of hx
  have HO:=hid ho;have HU2:=hid hu;have HX:=hid hx
  clear ho hu hx HX1 HW1 hA HU
  have q8: ∃y,wc.cell? ⟨g,8,none⟩=some y:=by
   rw[cell_of_heap hgc]
   exact⟨_,Array.getElem?_eq_getElem (by omega)⟩
  obtain⟨y8,q8⟩:=q8
  have f8:wc.frozen? ⟨g,8,none⟩=false:=frozen_of_heap hgc
  have HG:=hid hgc
  clear hgc hgs
  go_upto_if 16 with fail
  go_cut [0] from 6 to 50 (fun _ wx=>OwnB wx w.heap.size (.slice (some ⟨g,0,none⟩) 10 gc) (layF B.epoch 64++[flagF B.large,ns])∧Upd (fun _=>False) w wx∧wx.heap[w.heap.size]?=some (.cells #[.int .u64 B.epoch,.bool B.large,.slice a B.sets.length c] 56 (0,0)))
  case first=>
   cases hlg:B.large with
   |false=>
    go_wp2
    go_meet
    case rel=>exact⟨by rw[hlg];exact HO.out,HU2.out,HX.out⟩
   |true=>
    go_wp2
    go_meet
    case rel=>
     have hgw:=(HO.out.lt g rfl).1
     refine⟨?_,HU2.out.step (upd_own wc g 8 _) (fun k hk e=>by omega),?_⟩
     ·have:=(World.ownsRow.stored HO.out 8 (.int .u8 1)).1
      have e1:(bcells (layF B.epoch 64++[0,ns])).set 8 (.int .u8 1)=bcells (layF B.epoch 64++[flagF true,ns]):=by
       rw[layF_eight]
       rfl
      rw[hlg]
      unfold OwnB
      rw[←e1]
      have e2:(layF B.epoch 64++[flagF true,ns]).length=(layF B.epoch 64++[0,ns]).length:=by simp
      rw[e2]
      exact this
     ·refine(set_ne ?_).trans HX.out
      intro e
      have e1:=HX.out
      rw[show w.heap.size=g from e,HG.out] at e1
      injection e1 with e1
      injection e1 with _ e2 _
      exact absurd e2 (by decide)
  case rest=>
   obtain⟨ho,hu,hx⟩:=hcut
   obtain⟨z0,z1,z2⟩:=cells3_of hx
   have HO:=hid ho;have HU:=hid hu
   clear ho hu hx HU2 HX HG q8 f8
   have hall: ∀x∈B.sets,x.right=true:=by
    have:=HR.out
    simp only[BatchV.right,Bool.and_eq_true,decide_eq_true_eq,List.all_eq_true] at this
    exact this.1.2
   have HALL:=hid hall
   obtain⟨hd,hhd⟩: ∃hd,hd=layF B.epoch 64++[flagF B.large,ns]:=⟨_,rfl⟩
   have hhl:hd.length=10:=by rw[hhd];simp[layF_length]
   rw[←hhd] at HO
   have HHD:=hid hhd;have HHL:=hid hhl
   clear hall hhd hhl
   go_upto_region 5 with fail
   go_loopg [3,22] B.sets.length (fun gk v i wr=> ∃k:Nat,k≤B.sets.length∧gk=B.sets.length - k∧i=.int .i64 k∧OwnB wr w.heap.size v (hd++setsF (B.sets.take k))∧Upd (fun _=>False) w wr)
   case atStart=>exact⟨0,Nat.zero_le _,rfl,rfl,by simpa [setsF] using HO.out,HU.out⟩
   case round=>
    obtain⟨k,hk,rfl,rfl,e2,e5⟩:=hrel
    by_cases hkn:k<B.sets.length
    ·have hkni:(k:Int)<B.sets.length:=by omega
     obtain⟨x,hx⟩: ∃x,B.sets[k]?=some x:=⟨_,List.getElem?_eq_getElem hkn⟩
     obtain⟨g1,g2,g3,b,o,ea,oa,oc,na,nc,h0,h1,h2,h3,h4,h5,h6,h7,h8⟩:=HS.out k x hx
     have hxr:=HALL.out x (List.mem_of_getElem? hx)
     simp only[SetV.right,decide_eq_true_eq] at hxr
     obtain⟨r1,r2,r3,r4,_,_⟩:=hxr
     have hts:setsF (B.sets.take (k+1))=setsF (B.sets.take k)++setF x:=by
      have hxx:B.sets[k]=x:=by rw[List.getElem?_eq_getElem hkn] at hx;injection hx
      rw[List.take_succ_eq_append_getElem hkn,hxx]
      simp[setsF]
     have hlen:(hd++setsF (B.sets.take k)).length≤300000:=by
      have:=setsF_length (l:=B.sets.take k) fun y hy=>HALL.out y (List.mem_of_mem_take hy)
      have h10:=HHL.out
      rw[List.length_append]
      simp only[List.length_take] at this
      have:6031 * min k B.sets.length≤6031 * 48:=Nat.mul_le_mul_left _ (by omega)
      omega
     subst ea
     have kc: ∀{o:Nat} {v:Value},w.cell? ⟨b,o,none⟩=some v→wr.cell? ⟨b,o,none⟩=some v:=fun h=>cell_keptF e5 (fun e=>e) h
     have q0:=kc h0;have q1:=kc h1;have q2:=kc h2;have q3:=kc h3;have q4:=kc h4
     obtain⟨out,hout⟩: ∃out,out=hd++setsF (B.sets.take k):=⟨_,rfl⟩
     rw[←hout] at e2 hlen
     have H5:=hid h5;have H6:=hid h6;have HTS:=hid hts;have HOUT:=hid hout;have HLEN:=hid hlen
     obtain⟨nl,hnl⟩: ∃nl:Int,nl=(x.name.size:Int):=⟨_,rfl⟩
     have HNL:=hid hnl
     have hcn:IntKind.u8.wrap (x.name.size:Int)=nl:=by rw[hnl,IntKind.wrap_u8];omega
     have HU0:=hid e5;have HO0:=hid e2
     clear hx h0 h1 h2 h3 h4 h5 h6 kc hts hlen hout e2 e5 hnl
     obtain⟨ta0,tm0,tc0,hv0⟩:=HO0.out.bytesAt.1.slice'
     subst hv0
     obtain⟨v0,hv0⟩: ∃v0,v0=Value.slice ta0 tm0 tc0:=⟨_,rfl⟩
     go_upto_region 7 with fail
     rw[←hv0] at HO0 ⊢
     obtain⟨b6,hb6⟩: ∃b6,b6=wr.heap.size:=⟨_,rfl⟩
     obtain⟨w3,hw3⟩: ∃w3,w3=wr.alloc (.cells #[.string x.name,.bool x.was,.bool x.is,.slice oa x.old.length oc,.slice na x.new.length nc] 73):=⟨_,rfl⟩
     rw[←hw3,←hb6]
     have hu3:Upd (fun _=>False) wr w3:=by rw[hw3];exact(Upd.refl _ wr).alloc _
     have hA:w3.drew.heap[b6]?=some (.cells #[.string x.name,.bool x.was,.bool x.is,.slice oa x.old.length oc,.slice na x.new.length nc] 73 (0,0)):=by
      show w3.heap[b6]?=_
      rw[hw3];exact alloc_at hb6
     have HU:=hid ((HU0.out.trans hu3).drew)
     have HO:=hid (show OwnB w3.drew w.heap.size v0 out from OwnB.keptF HO0.out hu3.drew (fun _ _ e=>e))
     clear hw3 hb6 hu3 q0 q1 q2 q3 q4 z0 z1 z2
     refine wp_region_G 10 (fun W=>W.heap[b6]?=some (.cells #[.string x.name,.bool x.was,.bool x.is,.slice oa x.old.length oc,.slice na x.new.length nc] 73 (0,0))) [false,false,false,false,false,false,false,false,false,false,false] rfl (by kernel_rfl) ?_
     generalize w3.drew=wd at hA HU HO ⊢
     refine tqZ 0 (v0) [9,6] hA (fun w5 q1=>?_) ?_
     ·go_simp
     simp only[pZ,nZ,bZ,List.set]
     refine tqZ 1 (.pointer (some ⟨b6,0,none⟩)) [9,6,5,4,3,2] hA (fun w5 q1=>?_) ?_
     ·go_simp
     simp only[pZ,nZ,bZ,List.set]
     refine tqZ 2 (.string x.name) [9,6,5,4,3] hA (fun w5 q1=>?_) ?_
     ·obtain⟨x0,x1,x2,x3,x4⟩:=cells5_of q1
      go_simp
     simp only[pZ,nZ,bZ,List.set]
     refine tqZ 3 (.int .i64 x.name.size) [9,6,5,4] hA (fun w5 q1=>?_) ?_
     ·go_simp
     simp only[pZ,nZ,bZ,List.set]
     refine tqZ 4 (.int .u8 nl) [9,6,5] hA (fun w5 q1=>?_) ?_
     ·go_simp
     simp only[pZ,nZ,bZ,List.set]
     refine tqZ 7 (.pointer (some ⟨b6,0,none⟩)) [9,8] hA (fun w5 q1=>?_) ?_
     ·go_simp
     simp only[pZ,nZ,bZ,List.set]
     refine tqZ 8 (.string x.name) [9] hA (fun w5 q1=>?_) ?_
     ·obtain⟨x0,x1,x2,x3,x4⟩:=cells5_of q1
      go_simp
     simp only[pZ,nZ,bZ,List.set]
     refine wpG_do (i:=5) rfl (by kernel_rfl) rfl (fun K hK=>?_)
     have HKK:=hid hK
     clear hK
     go_step
     have ua:Upd (fun _=>False) wd (wd.alloc (.cells #[.int .u8 nl] 5)):=(Upd.refl _ _).alloc _
     have HB1:=hid (one_in wd nl)
     have hA:=(ua.block _ (lt_of_heap hA) (fun e=>e)).trans hA
     have HU:=hid (HU.out.trans ua);have HO:=hid (OwnB.keptF HO.out ua (fun _ _ e=>e))
     refine HKK.out _ _ hA ?_
     generalize wd.alloc (.cells #[.int .u8 nl] 5)=we at HB1 hA HU HO ⊢
     clear ua
     clear HKK
     simp only[pZ,nZ,bZ,List.set]
     refine wpG_do (i:=6) rfl (by kernel_rfl) rfl (fun K hK=>?_)
     have HKK:=hid hK
     clear hK
     refine wp_appB (.tmp 26) (.tmp 31) rfl rfl HO.out rfl HB1.out (by have:=HLEN.out;simp;omega) HU.out.size ?_
     intro v1 w4 g1 g2
     have hA:=(g2.block _ (lt_of_heap hA) (fun e=>own_apart HO.out hA (by decide) _ e rfl)).trans hA
     have HU:=hid (HU.out.step g2 (fun j hj e=>by have:=(HO.out.lt j e).1;omega));have HO:=hid g1
     refine HKK.out _ _ hA ?_
     clear g1 g2
     clear HKK
     simp only[pZ,nZ,bZ,List.set]
     refine wpG_do (i:=9) rfl (by kernel_rfl) rfl (fun K hK=>?_)
     have HKK:=hid hK
     clear hK
     refine wp_appS (.tmp 32) (.tmp 34) rfl rfl HO.out rfl (by have:=HLEN.out;simp;omega) HU.out.size ?_
     intro v2 w5 g1 g2
     have hA:=(g2.block _ (lt_of_heap hA) (fun e=>own_apart HO.out hA (by decide) _ e rfl)).trans hA
     have HU:=hid (HU.out.step g2 (fun j hj e=>by have:=(HO.out.lt j e).1;omega));have HO:=hid g1
     obtain⟨ta,tm,tc,ht3⟩:=g1.bytesAt.1.slice'
     refine HKK.out _ _ hA ?_
     clear g1 g2
     subst ht3
     clear HKK
     simp only[pZ,nZ,bZ,List.set]
     refine wpG_tail_lit (k:=10) rfl rfl (by kernel_rfl) ?_
     simp only[List.drop]
     go_upto_region 8 with fail
     have hA:w5.drew.heap[b6]?=some (.cells #[.string x.name,.bool x.was,.bool x.is,.slice oa x.old.length oc,.slice na x.new.length nc] 73 (0,0)):=hA
     have HU:=hid HU.out.drew
     have HO:=hid (show OwnB w5.drew w.heap.size (.slice ta tm tc) _ from HO.out)
     refine wp_region_G 13 (fun W=>W.heap[b6]?=some (.cells #[.string x.name,.bool x.was,.bool x.is,.slice oa x.old.length oc,.slice na x.new.length nc] 73 (0,0))) [false,false,false,false,false,false,false,false,false,false,false,false,false,false] rfl (by kernel_rfl) ?_
     generalize w5.drew=wf at hA HU HO ⊢
     refine tqZ 0 (.slice ta tm tc) [12,6] hA (fun w5 q1=>?_) ?_
     ·go_simp
     simp only[pZ,nZ,bZ,List.set]
     refine tqZ 1 (.pointer (some ⟨b6,1,none⟩)) [12,6,5,2] hA (fun w5 q1=>?_) ?_
     ·go_simp
     simp only[pZ,nZ,bZ,List.set]
     refine tqZ 2 (.bool x.was) [12,6,5] hA (fun w5 q1=>?_) ?_
     ·obtain⟨x0,x1,x2,x3,x4⟩:=cells5_of q1
      go_simp
     simp only[pZ,nZ,bZ,List.set]
     refine tqZ 3 (.pointer (some ⟨b6,3,none⟩)) [12,6,5,4] hA (fun w5 q1=>?_) ?_
     ·go_simp
     simp only[pZ,nZ,bZ,List.set]
     refine tqZ 4 (.slice oa x.old.length oc) [12,6,5] hA (fun w5 q1=>?_) ?_
     ·obtain⟨x0,x1,x2,x3,x4⟩:=cells5_of q1
      go_simp
     simp only[pZ,nZ,bZ,List.set]
     refine tqZ 7 (.pointer (some ⟨b6,2,none⟩)) [12,11,8] hA (fun w5 q1=>?_) ?_
     ·go_simp
     simp only[pZ,nZ,bZ,List.set]
     refine tqZ 8 (.bool x.is) [12,11] hA (fun w5 q1=>?_) ?_
     ·obtain⟨x0,x1,x2,x3,x4⟩:=cells5_of q1
      go_simp
     simp only[pZ,nZ,bZ,List.set]
     refine tqZ 9 (.pointer (some ⟨b6,4,none⟩)) [12,11,10] hA (fun w5 q1=>?_) ?_
     ·go_simp
     simp only[pZ,nZ,bZ,List.set]
     refine tqZ 10 (.slice na x.new.length nc) [12,11] hA (fun w5 q1=>?_) ?_
     ·obtain⟨x0,x1,x2,x3,x4⟩:=cells5_of q1
      go_simp
     simp only[pZ,nZ,bZ,List.set]
     refine wpG_do (i:=5) rfl (by kernel_rfl) rfl (fun K hK=>?_)
     have HKK:=hid hK
     clear hK
     go_step
     refine(there_any wf (H5.out.kept HU.out) (by omega)).mono ?_
     rintro e wft ⟨u,rfl,g1,g2⟩
     have hA:=(g2.block _ (lt_of_heap hA) (fun e=>e)).trans hA
     have HO:=hid (OwnB.keptF HO.out g2 (fun _ _ e=>e));have HU:=hid (HU.out.trans g2);have HB1:=hid g1.bytesIn
     clear g1 g2
     simp only[]
     refine HKK.out _ _ hA ?_
     clear HKK
     simp only[pZ,nZ,bZ,List.set]
     refine wpG_do (i:=6) rfl (by kernel_rfl) rfl (fun K hK=>?_)
     have HKK:=hid hK
     clear hK
     refine wp_appB (.tmp 36) (.tmp 41) rfl rfl HO.out rfl HB1.out (by have:=HLEN.out;simp[maybeF,layF_length,numsOf_length];omega) HU.out.size ?_
     intro v3 w6 g1 g2
     have hA:=(g2.block _ (lt_of_heap hA) (fun e=>own_apart HO.out hA (by decide) _ e rfl)).trans hA
     have HU:=hid (HU.out.step g2 (fun j hj e=>by have:=(HO.out.lt j e).1;omega));have HO:=hid g1
     refine HKK.out _ _ hA ?_
     clear g1 g2
     clear HKK
     simp only[pZ,nZ,bZ,List.set]
     refine wpG_do (i:=11) rfl (by kernel_rfl) rfl (fun K hK=>?_)
     have HKK:=hid hK
     clear hK
     go_step
     refine(there_any w6 (H6.out.kept HU.out) (by omega)).mono ?_
     rintro e w6t ⟨u,rfl,g1,g2⟩
     have hA:=(g2.block _ (lt_of_heap hA) (fun e=>e)).trans hA
     have HO:=hid (OwnB.keptF HO.out g2 (fun _ _ e=>e));have HU:=hid (HU.out.trans g2);have HB1:=hid g1.bytesIn
     clear g1 g2
     simp only[]
     refine HKK.out _ _ hA ?_
     clear HKK
     simp only[pZ,nZ,bZ,List.set]
     refine wpG_do (i:=12) rfl (by kernel_rfl) rfl (fun K hK=>?_)
     have HKK:=hid hK
     clear hK
     refine wp_appB (.tmp 42) (.tmp 47) rfl rfl HO.out rfl HB1.out (by have:=HLEN.out;simp[maybeF,layF_length,numsOf_length];omega) HU.out.size ?_
     intro v4 w7 g1 g2
     have hA:=(g2.block _ (lt_of_heap hA) (fun e=>own_apart HO.out hA (by decide) _ e rfl)).trans hA
     have HU:=hid (HU.out.step g2 (fun j hj e=>by have:=(HO.out.lt j e).1;omega));have HO:=hid g1
     obtain⟨sa,sm,sc,hs3⟩:=g1.bytesAt.1.slice'
     refine HKK.out _ _ hA ?_
     clear g1 g2
     subst hs3
     clear HKK
     simp only[pZ,nZ,bZ,List.set]
     refine wpG_tail_lit (k:=13) rfl rfl (by kernel_rfl) ?_
     simp only[List.drop]
     go_wp2
     go_roundg (B.sets.length - (k+1))
     case measure=>omega
     case rel=>
      refine⟨k+1,by omega,rfl,congrArg _ (by omega),?_,HU.out⟩
      have e8:=HO.out
      have:hd++setsF (B.sets.take (k+1))=out++[nl]++numsOf x.name++maybeF x.was x.old++maybeF x.is x.new:=by
       rw[HTS.out,←List.append_assoc,←HOUT.out]
       have:setF x=nl :: (numsOf x.name++(maybeF x.was x.old++maybeF x.is x.new)):=by
        rw[HNL.out]
        simp only[setF]
        congr 1
        omega
       rw[this]
       simp
      rw[this]
      exact e8
    ·obtain rfl:k=B.sets.length:=by omega
     rw[List.take_of_length_le (Nat.le_refl _)] at e2
     obtain⟨va,vm,vc,rfl⟩:=e2.bytesAt.1.slice'
     have E2:=hid e2;have E5:=hid e5
     clear e2 e5
     go_wp2
     go_ret
     have hh:=HHD.out
     refine⟨_,rfl,?_,E5.out⟩
     have:encF B=hd++setsF B.sets:=by rw[hh,HNS.out];simp[encF]
     rw[this]
     exact E2.out
theorem toList_eq (s t:ByteArray):(s.toList == t.toList)=decide (s=t):=by
 have h: ∀u:ByteArray,u.toList=Lib.bytesOf (numsOf u):=fun u=>by rw[←Lib.strOfNums_toList,strOf_numsOf]
 rw[Bool.eq_iff_iff,beq_iff_eq,decide_eq_true_eq]
 refine⟨fun e=>?_,fun e=>by rw[e]⟩
 rw[h s,h t] at e
 exact numsOf_inj (bytesOf_inj (numsOf_bytes s) (numsOf_bytes t) e)
theorem refRight_any {c:Nat}{a:Option Addr}{B:BatchV}(w:World)(hs:SetsIn w a B.sets)(hl:B.sets.length≤900)(hc:B.sets.length≤c):
  Calls Tryz.prog 22 #[batchV B a c] w fun e w'=>e=.returned (.bool B.right)∧Upd (fun _=>False) w w':=by
 rw[right_eq]
 have HS:=hid hs
 obtain⟨w1,hw1⟩: ∃w1,w1=w.alloc (.cells #[.int .u64 B.epoch,.bool B.large,.slice a B.sets.length c] 56):=⟨_,rfl⟩
 have hu1:Upd (fun _=>False) w w1:=by rw[hw1];exact(Upd.refl _ w).alloc _
 have hx1:w1.heap[w.heap.size]?=some (.cells #[.int .u64 B.epoch,.bool B.large,.slice a B.sets.length c] 56 (0,0)):=by rw[hw1];exact alloc_at rfl
 obtain⟨z0,z1,z2⟩:=cells3_of hx1
 have HW1:=hid hw1;have HU1:=hid hu1;have HX1:=hid hx1
 obtain⟨aw,haw⟩: ∃aw,aw=anyWrong [] B.sets:=⟨_,rfl⟩
 rw[←haw]
 have HAW:=hid haw
 clear hs hw1 hu1 hx1 haw
 unfold batchV
 go_enter Tryz.func22,Tryz.ntmps22
 go_upto_region 1 with fail
 rw[←HW1.out]
 by_cases h1:B.epoch≤4611686018427387904
 rotate_left
 ·have h1':B.epoch > 4611686018427387904:=by omega
  have HH:=hid h1
  go_wp2
  go_ret
  exact⟨ret_bool (by rw[show decide (B.epoch≤4611686018427387904)=false from decide_eq_false (by omega)];rfl),HU1.out⟩
 have h1': ¬B.epoch > 4611686018427387904:=by omega
 by_cases h2:B.sets.length≤48
 rotate_left
 ·have h2':(B.sets.length:Int) > 48:=by omega
  have HH:=hid h2
  go_wp2
  go_ret
  exact⟨ret_bool (by first | rfl | (rw[show decide (B.sets.length≤48)=false from decide_eq_false HH.out];simp)),HU1.out⟩
 have h2': ¬(B.sets.length:Int) > 48:=by omega
 have HH:=hid (And.intro h1 h2)
 have HBE:RowKit.Hid ((decide (B.epoch≤4611686018427387904) && decide (B.sets.length≤48) && !aw)=!aw):=hid (by rw[decide_eq_true h1,decide_eq_true h2];rfl)
 go_upto_region 4 with fail
 clear h1 h1' h2'
 go_loopg [19] B.sets.length (fun gk i wr=> ∃k:Nat,k≤B.sets.length∧gk=B.sets.length - k∧i=.int .i64 k∧Upd (fun _=>False) w wr∧wr.heap[w.heap.size]?=some (.cells #[.int .u64 B.epoch,.bool B.large,.slice a B.sets.length c] 56 (0,0))∧aw=anyWrong ((B.sets.take k).map SetV.name) (B.sets.drop k))
 case atStart=>exact⟨0,Nat.zero_le _,rfl,rfl,HU1.out,HX1.out,HAW.out⟩
 case round=>
  obtain⟨k,hk,rfl,rfl,hu,hxb,ha⟩:=hrel
  obtain⟨z0,z1,z2⟩:=cells3_of hxb
  have HU:=hid hu;have HXB:=hid hxb;have HA:=hid ha
  clear hu hxb ha
  by_cases hkn:k<B.sets.length
  ·have hkni:(k:Int)<B.sets.length:=by omega
   obtain⟨x,hx⟩: ∃x,B.sets[k]?=some x:=⟨_,List.getElem?_eq_getElem hkn⟩
   obtain⟨g1,g2,g3,b,o,ea,oa,oc,na,nc,h0,h1,h2,h3,h4,h5,h6,_⟩:=HS.out k x hx
   subst ea
   have kc: ∀{o:Nat} {v:Value},w.cell? ⟨b,o,none⟩=some v→wr.cell? ⟨b,o,none⟩=some v:=fun h=>cell_keptF HU.out (fun e=>e) h
   have q0:=kc h0;have q1:=kc h1;have q2:=kc h2;have q3:=kc h3;have q4:=kc h4
   have hxx:B.sets[k]=x:=by rw[List.getElem?_eq_getElem hkn] at hx;injection hx
   have hd:anyWrong ((B.sets.take k).map SetV.name) (B.sets.drop k)=((metB ((B.sets.take k).map SetV.name) x.name || wrongB x.name x.was x.is x.old.length x.new.length) || anyWrong ((B.sets.take (k+1)).map SetV.name) (B.sets.drop (k+1))):=by
    rw[List.drop_eq_getElem_cons hkn,List.take_succ_eq_append_getElem hkn,hxx]
    simp[anyWrong]
   have HD:=hid (HA.out.trans hd)
   have hkc:(k:Int)≤c:=by omega
   clear h0 h1 h2 h3 h4 h5 h6 kc hx hxx hd
   go_upto_region 6 with fail
   obtain⟨bx,hbx⟩: ∃bx,bx=wr.heap.size:=⟨_,rfl⟩
   obtain⟨w3,hw3⟩: ∃w3,w3=wr.alloc (.cells #[.string x.name,.bool x.was,.bool x.is,.slice oa x.old.length oc,.slice na x.new.length nc] 73):=⟨_,rfl⟩
   rw[←hw3,←hbx]
   have hu3:Upd (fun _=>False) wr w3:=by rw[hw3];exact(Upd.refl _ wr).alloc _
   have hx3:w3.heap[bx]?=some (.cells #[.string x.name,.bool x.was,.bool x.is,.slice oa x.old.length oc,.slice na x.new.length nc] 73 (0,0)):=by rw[hw3];exact alloc_at hbx
   have hxb3:=(hu3.block _ (lt_of_heap HXB.out) (fun e=>e)).trans HXB.out
   obtain⟨z0,z1,z2⟩:=cells3_of hxb3
   have HX3:=hid hx3;have HXB3:=hid hxb3;have HU3:=hid (HU.out.trans hu3)
   clear hw3 hbx hu3 hx3 hxb3 q0 q1 q2 q3 q4
   go_upto_region 7 with fail
   go_loopg [29] k (fun gk i wr=> ∃j:Nat,j≤k∧gk=k - j∧i=.int .i64 j∧Upd (fun _=>False) w3 wr∧metB ((B.sets.take k).map SetV.name) x.name=metB (((B.sets.take k).drop j).map SetV.name) x.name)
   case atStart=>exact⟨0,Nat.zero_le _,rfl,rfl,Upd.refl _ _,rfl⟩
   case round=>
    obtain⟨j,hj,rfl,rfl,hu4,hm⟩:=hrel
    have HU4:=hid hu4;have HM:=hid hm
    have hx4:=(hu4.block _ (lt_of_heap HX3.out) (fun e=>e)).trans HX3.out
    obtain⟨x0,x1,x2,x3,x4⟩:=cells5_of hx4
    have hxb4:=(hu4.block _ (lt_of_heap HXB3.out) (fun e=>e)).trans HXB3.out
    have HX4:=hid hx4;have HXB4:=hid hxb4
    clear hu4 hm hx4 hxb4
    by_cases hjk:j<k
    ·have hjki:(j:Int)<k:=by omega
     have hjn:j<B.sets.length:=by omega
     obtain⟨y,hy⟩: ∃y,B.sets[j]?=some y:=⟨_,List.getElem?_eq_getElem hjn⟩
     obtain⟨_,_,_,b',o',ea,oa',oc',na',nc',h0,h1,h2,h3,h4,h5,h6,_⟩:=HS.out j y hy
     injection ea with ea
     injection ea with ea1 ea2
     subst ea1 ea2
     have kc: ∀{o:Nat} {v:Value},w.cell? ⟨b,o,none⟩=some v→wr.cell? ⟨b,o,none⟩=some v:=fun h=>cell_keptF (HU3.out.trans HU4.out) (fun e=>e) h
     have q0:=kc h0;have q1:=kc h1;have q2:=kc h2;have q3:=kc h3;have q4:=kc h4
     have hyy:B.sets[j]=y:=by rw[List.getElem?_eq_getElem hjn] at hy;injection hy
     have hmd:metB (((B.sets.take k).drop j).map SetV.name) x.name=(decide (y.name=x.name) || metB (((B.sets.take k).drop (j+1)).map SetV.name) x.name):=by
      rw[List.drop_eq_getElem_cons (by simp;omega),List.getElem_take,hyy]
      simp[metB]
     have HMD:=hid (HM.out.trans hmd)
     clear h0 h1 h2 h3 h4 h5 h6 kc hy hyy hmd
     have hte:=toList_eq x.name y.name
     have hbxl:=lt_of_heap HX4.out
     by_cases he:y.name=x.name
     ·have hte':(x.name.toList == y.name.toList)=true:=by rw[hte];exact decide_eq_true he.symm
      have HE:=hid he
      clear hte he
      go_wp2
      go_ret
      refine⟨ret_bool ?_,HU3.out.trans (HU4.out.trans ((Upd.refl (fun _=>False) wr).alloc _))⟩
      have e:aw=true:=by rw[HD.out,HMD.out,decide_eq_true HE.out];rfl
      have hh:=HBE.out
      rw[e] at hh ⊢
      simp
     ·have hte':(x.name.toList == y.name.toList)=false:=by rw[hte];exact decide_eq_false (fun e=>he e.symm)
      have HE:=hid he
      clear hte he
      go_wp2
      go_roundg (k - (j+1))
      case measure=>omega
      case rel=>
       refine⟨j+1,by omega,rfl,congrArg _ (by omega),HU4.out.trans ((Upd.refl (fun _=>False) wr).alloc _),?_⟩
       rw[HMD.out,decide_eq_false HE.out]
       rfl
    ·obtain rfl:j=k:=by omega
     have hm:=HM.out
     rw[List.drop_of_length_le (List.length_take_le _ _)] at hm
     have hd:=HD.out
     have hm0:metB (List.map SetV.name []) x.name=false:=rfl
     rw[hm,hm0,Bool.false_or] at hd
     obtain⟨nx,hnx⟩: ∃nx,nx=anyWrong ((B.sets.take (j+1)).map SetV.name) (B.sets.drop (j+1)):=⟨_,rfl⟩
     rw[←hnx] at hd
     have HD:=hid hd;have HNX:=hid hnx
     have hwt: ¬(1≤x.name.size∧x.name.size≤24∧x.old.length≤3000∧x.new.length≤3000∧(x.was=false→x.old.length=0)∧(x.is=false→x.new.length=0))→aw=true:=fun h=>by
      rw[hd]
      unfold wrongB
      rw[decide_eq_false h]
      rfl
     have hwf:(1≤x.name.size∧x.name.size≤24∧x.old.length≤3000∧x.new.length≤3000∧(x.was=false→x.old.length=0)∧(x.is=false→x.new.length=0))→aw=nx:=fun h=>by
      rw[hd]
      unfold wrongB
      rw[decide_eq_true h]
      rfl
     have HWT:=hid hwt;have HWF:=hid hwf
     clear hm hd hm0 hnx HD hwt hwf
     generalize x.old.length=lo at *
     generalize x.new.length=ln at *
     cases hxw:x.was<;> cases hxi:x.is
     all_goals
      rw[hxw,hxi] at HWT HWF
      go_wp2
     all_goals first
     | (go_ret
        have e:aw=true:=HWT.out (by
         simp only[true_implies,false_implies,Bool.true_eq_false,reduceCtorEq,and_true,true_and]
         omega)
        exact⟨ret_bool (by simp[e]),HU3.out.trans HU4.out⟩)
     | (go_roundg (B.sets.length - (j+1))
        case measure=>omega
        case rel=>
         refine⟨j+1,by omega,rfl,congrArg _ (by omega),HU3.out.trans HU4.out,HXB4.out,?_⟩
         refine(HWF.out ?_).trans HNX.out
         simp only[true_implies,false_implies,Bool.true_eq_false,reduceCtorEq,and_true,true_and]
         omega)
  ·obtain rfl:k=B.sets.length:=by omega
   have ha:=HA.out
   rw[List.drop_of_length_le (Nat.le_refl _)] at ha
   have HA2:=hid ha
   clear ha
   go_wp2
   go_ret
   exact⟨ret_bool (by rw[HBE.out,HA2.out];rfl),HU.out⟩
theorem BytesIn.shape' {w:World}{v:Value}{bs:List Int}(h:BytesIn w v bs): ∃a c,v=.slice a bs.length c∧bs.length≤c∧c≤maxLen:=by
 rcases h with ⟨rfl,rfl⟩ | ⟨a,c,h1,h2,h3,h4⟩
 ·exact⟨none,0,rfl,by simp,by unfold maxLen;omega⟩
 ·exact⟨_,c,h1,h2,h3⟩
theorem BytesIn.front {w:World}{v:Value}{bs:List Int}(h:BytesIn w v bs){n:Nat}(hn:n≤bs.length):
  ∃u,(∀W,(Instr.slice 39 v none (some (.int .i64 n)) none).run Tryz.prog W=.ok u W)∧BytesIn w u (bs.take n):=by
 have hl:(bs.take n).length=n:=by simp;omega
 rcases h with ⟨rfl,rfl⟩ | ⟨a,c,rfl,h2,h3,h4⟩
 ·obtain rfl:n=0:=by simpa using hn
  refine⟨.slice none 0 0,fun W=>?_,.inl ⟨rfl,rfl⟩⟩
  have:=run_slice_h W 39 none 0 0 elem39 .i64 0 (by omega) (by omega)
  rw[show((0:Nat):Int)=0 from rfl,this,size39e]
  rfl
 ·refine⟨sliced (some a) 0 n c 1,fun W=>?_,.inr ⟨if c=0 then a else a.add 0,c,by rw[hl];unfold sliced;simp;split<;> rfl,by rw[hl];omega,by omega,fun i u hi=>?_⟩⟩
  ·rw[run_slice_h W 39 _ bs.length c elem39 .i64 n (by omega) (by omega),size39e]
   simp[Result.andThen]
  ·have hi2:=(List.getElem?_eq_some_iff.1 hi).1
   simp only[bcells,List.length_map,hl] at hi2
   have e:(if c=0 then a else a.add 0).add i=a.add i:=by
    split
    ·rfl
    ·rw[Addr.add_add,Nat.zero_add]
   rw[e]
   refine h4 i u ?_
   simp only[bcells,List.getElem?_map,List.getElem?_take_of_lt hi2] at hi ⊢
   exact hi
theorem BytesIn.rest {w:World}{v:Value}{bs:List Int}(h:BytesIn w v bs){n:Nat}(hn:n≤bs.length):
  ∃u,(∀W,(Instr.slice 39 v (some (.int .i64 n)) none none).run Tryz.prog W=.ok u W)∧BytesIn w u (bs.drop n):=by
 have hl:(bs.drop n).length=bs.length - n:=by simp
 rcases h with ⟨rfl,rfl⟩ | ⟨a,c,rfl,h2,h3,h4⟩
 ·obtain rfl:n=0:=by simpa using hn
  refine⟨.slice none 0 0,fun W=>?_,.inl ⟨rfl,rfl⟩⟩
  have:=run_slice_l W 39 none 0 0 elem39 .i64 0 (by omega) (by omega)
  rw[show((0:Nat):Int)=0 from rfl,this,size39e]
  rfl
 ·refine⟨sliced (some a) n bs.length c 1,fun W=>?_,.inr ⟨if c=n then a else a.add n,c - n,by rw[hl];unfold sliced;simp;split<;> rfl,by rw[hl];omega,by omega,fun i u hi=>?_⟩⟩
  ·rw[run_slice_l W 39 _ bs.length c elem39 .i64 n (by omega) (by omega),size39e]
   simp[Result.andThen]
  ·have hi2:=(List.getElem?_eq_some_iff.1 hi).1
   simp only[bcells,List.length_map,hl] at hi2
   rw[if_neg (by omega),Addr.add_add]
   refine h4 (n+i) u ?_
   simp only[bcells,List.getElem?_map,List.getElem?_drop] at hi ⊢
   exact hi
theorem made_in (W:World)(n:Nat)(hn:n≤1000000):BytesIn (W.alloc (.cells (madeCells #[.int .u8 0] n) 5)) (.slice (some ⟨W.heap.size,0,none⟩) n n) (zs n):=by
 have hl:(zs n).length=n:=zs_length n
 refine .inr ⟨⟨W.heap.size,0,none⟩,n,by rw[hl],by omega,by unfold maxLen;omega,fun i u hi=>?_⟩
 rw[Addr.add_mid,Nat.zero_add,cell_of_heap (alloc_at rfl)]
 have hm:(madeCells #[Value.int .u8 0] n).toList=bcells (zs n):=by
  simp only[madeCells,zs,bcells]
  apply List.ext_getElem
  ·simp
  ·intro j h1 h2
   simp[Nat.mod_one]
 rw[←hi,←hm]
 simp
def takeT (n:Nat)(st:Option (List Int)):List Int×Option (List Int):=match (takeS n st).2 with
 |none=>(zs n,none)
 |some r=>((takeS n st).1,some r)
theorem takeT_st (n:Nat)(st:Option (List Int)):(takeT n st).2=(takeS n st).2:=by
 unfold takeT
 split<;> simp[*]
def TkS (w0 W:World)(tb:Nat)(st:Option (List Int))(bad:Bool):Prop:=(w0.heap.size≤tb∧Upd (fun _=>False) w0 W)∧
 match st with
 |some bs=> ∃v,W.heap[tb]?=some (.cells #[v,.bool false,.bool bad] 152 (0,0))∧BytesIn w0 v bs∧Bytes bs
 |none=> ∃a n c,W.heap[tb]?=some (.cells #[.slice a n c,.bool true,.bool bad] 152 (0,0))
theorem TkS.lt {w0 W:World}{tb:Nat}{st:Option (List Int)}{bad:Bool}(h:TkS w0 W tb st bad):tb<W.heap.size:=by
 obtain⟨_,h⟩:=h
 cases st with
 |some bs=>obtain⟨v,h1,_⟩:=h;exact lt_of_heap h1
 |none=>obtain⟨a,n,c,h1⟩:=h;exact lt_of_heap h1
theorem TkS.kept {F:Nat→Prop}{w0 W W':World}{tb:Nat}{st:Option (List Int)}{bad:Bool}(h:TkS w0 W tb st bad)(hu:Upd F W W')(ht: ¬F tb)(hf: ∀k,k<w0.heap.size→ ¬F k):TkS w0 W' tb st bad:=by
 obtain⟨h0,h⟩:=h
 refine⟨⟨h0.1,h0.2.step hu (fun k hk e=>hf k hk e)⟩,?_⟩
 cases st with
 |some bs=>obtain⟨v,h1,h2⟩:=h;exact⟨v,(hu.block _ (lt_of_heap h1) ht).trans h1,h2⟩
 |none=>obtain⟨a,n,c,h1⟩:=h;exact⟨a,n,c,(hu.block _ (lt_of_heap h1) ht).trans h1⟩
theorem TkS.bytes {w0 W:World}{tb:Nat}{st:Option (List Int)}{bad:Bool}(h:TkS w0 W tb st bad): ∀bs,st=some bs→Bytes bs:=by
 rintro bs rfl
 obtain⟨_,v,_,_,h4⟩:=h
 exact h4
def TakeAns (w0 W:World)(tb n:Nat)(st:Option (List Int))(bad:Bool)(e:Ending)(w':World):Prop:=
 ∃u,e=.returned u∧BytesIn w' u (takeT n st).1∧TkS w0 w' tb (takeT n st).2 bad∧Upd (fun k=>k=tb) W w'
theorem raw_short {tb n:Nat}{a:Option Addr}{m c:Nat}{sh bad:Bool}(w0 w:World)(h:w.heap[tb]?=some (.cells #[.slice a m c,.bool sh,.bool bad] 152 (0,0)))(h0:w0.heap.size≤tb∧Upd (fun _=>False) w0 w)(hn:n≤1000000)(hs:sh=true∨m<n):
  Calls Tryz.prog 86 #[.pointer (some ⟨tb,0,none⟩),.int .i64 n] w fun e w'=> ∃u,e=.returned u∧BytesIn w' u (zs n)∧TkS w0 w' tb none bad∧Upd (fun k=>k=tb) w w':=by
 obtain⟨c0,c1,c2⟩:=cells3_of h
 have f1:w.frozen? ⟨tb,1,none⟩=false:=frozen_of_heap h
 have hmk: ∀W:World,(Instr.makeSlice 39 (.int .i64 n) (.int .i64 n)).run Tryz.prog W=.ok (.slice (some ⟨W.heap.size,0,none⟩) n n) (W.alloc (.cells (madeCells #[.int .u8 0] n) 5)):=
  run_make_row' (P:=Tryz.prog) 39 5 (.int .u8 0) 1 Tryz.underlying39 Tryz.info5p rfl .i64 .i64 n (by omega) (by omega)
 have HX:=hid h;have H0:=hid h0
 have fin: ∀W,W=(w.setCell ⟨tb,1,none⟩ (.bool true))→TkS w0 (W.alloc (.cells (madeCells #[.int .u8 0] n) 5)) tb none bad∧Upd (fun k=>k=tb) w (W.alloc (.cells (madeCells #[.int .u8 0] n) 5)):=by
  rintro W rfl
  have hu1:Upd (fun k=>k=tb) w (w.setCell ⟨tb,1,none⟩ (.bool true)):=upd_own w tb 1 _
  refine⟨⟨⟨H0.out.1,(H0.out.2.step hu1 (fun k hk e=>by have:=H0.out.1;omega)).alloc _⟩,a,m,c,?_⟩,hu1.alloc _⟩
  rw[alloc_lt (by have:=lt_of_heap HX.out;have:=hu1.size;omega)]
  have:=blk_set (i:=1) (v:=.bool true) HX.out
  simpa using this
 have FIN:=hid fin
 clear h h0 fin
 cases sh with
 |true=>
  clear hs
  go_enter Tryz.func86,Tryz.ntmps86
  go_wp2
  go_ret
  have hin:=made_in (w.setCell ⟨tb,1,none⟩ (.bool true)) n hn
  rw[show(w.setCell ⟨tb,1,none⟩ (.bool true)).heap.size=w.heap.size by simp[World.setCell]] at hin
  exact⟨.slice (some ⟨w.heap.size,0,none⟩) n n,rfl,hin,FIN.out _ rfl⟩
 |false=>
  have hs':(m:Int)<n:=by
   rcases hs with h | h
   ·cases h
   ·omega
  clear hs
  go_enter Tryz.func86,Tryz.ntmps86
  go_wp2
  go_ret
  have hin:=made_in (w.setCell ⟨tb,1,none⟩ (.bool true)) n hn
  rw[show(w.setCell ⟨tb,1,none⟩ (.bool true)).heap.size=w.heap.size by simp[World.setCell]] at hin
  exact⟨.slice (some ⟨w.heap.size,0,none⟩) n n,rfl,hin,FIN.out _ rfl⟩
theorem raw_T {tb n:Nat}{st:Option (List Int)}{bad:Bool}(w0 w:World)(h:TkS w0 w tb st bad)(hn:n≤1000000):
  Calls Tryz.prog 86 #[.pointer (some ⟨tb,0,none⟩),.int .i64 n] w (TakeAns w0 w tb n st bad):=by
 cases st with
 |none=>
  obtain⟨h0,a,m,c,h1⟩:=h
  refine(raw_short w0 w h1 h0 hn (.inl rfl)).mono ?_
  rintro e w' ⟨u,h1,h2,h3,h4⟩
  exact⟨u,h1,h2,h3,h4⟩
 |some bs=>
  obtain⟨h0,v,h1,h2,h3⟩:=h
  by_cases hlt:bs.length<n
  ·obtain⟨a,c,rfl,_,_⟩:=h2.shape'
   refine(raw_short w0 w h1 h0 hn (.inr hlt)).mono ?_
   rintro e w' ⟨u,h1,h2,h3,h4⟩
   have e1:takeT n (some bs)=(zs n,none):=by simp[takeT,takeS,hlt]
   exact⟨u,h1,by rw[e1];exact h2,by rw[e1];exact h3,h4⟩
  ·have e1:takeT n (some bs)=(bs.take n,some (bs.drop n)):=by simp[takeT,takeS,hlt]
   obtain⟨u1,hs1,hu1⟩:=h2.front (n:=n) (by omega)
   obtain⟨u2,hs2,hu2⟩:=h2.rest (n:=n) (by omega)
   obtain⟨a,c,rfl,hc1,hc2⟩:=h2.shape'
   obtain⟨a1,c1,rfl,_,_⟩:=hu1.shape'
   obtain⟨a2,c2,rfl,_,_⟩:=hu2.shape'
   obtain⟨m1,hm1⟩: ∃m,m=(bs.take n).length:=⟨_,rfl⟩
   obtain⟨m2,hm2⟩: ∃m,m=(bs.drop n).length:=⟨_,rfl⟩
   rw[←hm1] at hs1 hu1
   rw[←hm2] at hs2 hu2
   obtain⟨q0,q1,q2⟩:=cells3_of h1
   have f0:w.frozen? ⟨tb,0,none⟩=false:=frozen_of_heap h1
   have hlt': ¬((bs.length:Int)<n):=by omega
   have HX:=hid h1;have H0:=hid h0;have HU1:=hid hu1;have HU2:=hid hu2;have H3:=hid h3;have HE:=hid e1
   clear h1 h0 h2 h3 hu1 hu2 hm1 hm2 e1 hlt
   go_enter Tryz.func86,Tryz.ntmps86
   go_wp2
   go_ret
   have hu9:Upd (fun k=>k=tb) w (w.setCell ⟨tb,0,none⟩ (.slice a2 m2 c2)):=upd_own w tb 0 _
   have hu0:=H0.out.2.step hu9 (fun k hk e=>by have:=H0.out.1;omega)
   refine⟨_,rfl,by rw[HE.out];exact HU1.out.kept hu0,?_,hu9⟩
   rw[HE.out]
   refine⟨⟨H0.out.1,hu0⟩,_,?_,HU2.out,fun x hx=>H3.out x (List.mem_of_mem_drop hx)⟩
   have:=blk_set (i:=0) (v:=.slice a2 m2 c2) HX.out
   simpa using this
theorem beF_zs: ∀n,beF (zs n)=0
 | 0=>rfl
 |n+1=>by
  show beF (0 :: zs n)=0
  rw[beF_cons,beF_zs n]
  omega
theorem takeT_short {n:Nat}{bs:List Int}(h:bs.length<n):takeT n (some bs)=(zs n,none)∧takeS n (some bs)=([],none):=by
 simp[takeT,takeS,h]
theorem takeT_long {n:Nat}{bs:List Int}(h: ¬bs.length<n):takeT n (some bs)=(bs.take n,some (bs.drop n))∧takeS n (some bs)=(bs.take n,some (bs.drop n)):=by
 simp[takeT,takeS,h]
theorem takeT_num (n:Nat)(st:Option (List Int)):beF (takeT n st).1=(numS n st).1:=by
 unfold numS
 cases st with
 |none=>exact beF_zs n
 |some bs=>
  by_cases h:bs.length<n
  ·rw[(takeT_short h).1,(takeT_short h).2];exact beF_zs n
  ·rw[(takeT_long h).1,(takeT_long h).2]
theorem takeT_len (n:Nat)(st:Option (List Int)):(takeT n st).1.length=n:=by
 cases st with
 |none=>exact zs_length n
 |some bs=>
  by_cases h:bs.length<n
  ·rw[(takeT_short h).1];exact zs_length n
  ·rw[(takeT_long h).1];simp only[List.length_take];omega
theorem takeT_one (st:Option (List Int)):(takeT 1 st).1=[(numS 1 st).1]:=by
 rw[←takeT_num]
 have h:=takeT_len 1 st
 match h2:(takeT 1 st).1 with
 | []=>rw[h2] at h;simp at h
 | [x]=>simp[beF]
 |x :: y :: t=>rw[h2] at h;simp at h
theorem takeT_by {n:Nat}{st:Option (List Int)}(h: ∀bs,st=some bs→Bytes bs):Bytes (takeT n st).1:=by
 cases st with
 |none=>exact zs_bytes n
 |some bs=>
  by_cases h1:bs.length<n
  ·rw[(takeT_short h1).1];exact zs_bytes n
  ·rw[(takeT_long h1).1];exact fun x hx=>h bs rfl x (List.mem_of_mem_take hx)
theorem takeT_some {n:Nat}{st:Option (List Int)}{r:List Int}(h:(takeS n st).2=some r):(takeT n st).1=(takeS n st).1:=by
 unfold takeT
 rw[h]
theorem Addr.add_zero' (a:Addr):a.add 0=a:=by cases a;rfl
theorem BytesIn.one {W:World}{u:Value}{x:Int}(h:BytesIn W u [x]): ∃a c,u=.slice (some a) 1 c∧W.cell? a=some (.int .u8 x):=by
 rcases h with ⟨_,h⟩ | ⟨a,c,h1,_,_,h4⟩
 ·cases h
 ·exact⟨a,c,h1,by have:=h4 0 _ rfl;rwa [Addr.add_zero'] at this⟩
theorem TkS.cells {w0 W:World}{tb:Nat}{st:Option (List Int)}{bad:Bool}(h:TkS w0 W tb st bad): ∃v,W.heap[tb]?=some (.cells #[v,.bool st.isNone,.bool bad] 152 (0,0)):=by
 obtain⟨_,h⟩:=h
 cases st with
 |some bs=>obtain⟨v,h1,_⟩:=h;exact⟨v,h1⟩
 |none=>obtain⟨a,n,c,h1⟩:=h;exact⟨_,h1⟩
theorem TkS.setBad {w0 W:World}{tb:Nat}{st:Option (List Int)}{bad:Bool}(h:TkS w0 W tb st bad)(b':Bool):TkS w0 (W.setCell ⟨tb,2,none⟩ (.bool b')) tb st b':=by
 obtain⟨h0,h⟩:=h
 have hu:Upd (fun k=>k=tb) W (W.setCell ⟨tb,2,none⟩ (.bool b')):=upd_own W tb 2 _
 refine⟨⟨h0.1,h0.2.step hu (fun k hk e=>by have:=h0.1;omega)⟩,?_⟩
 cases st with
 |some bs=>
  obtain⟨v,h1,h2⟩:=h
  refine⟨v,?_,h2⟩
  have:=blk_set (i:=2) (v:=.bool b') h1
  simpa using this
 |none=>
  obtain⟨a,n,c,h1⟩:=h
  refine⟨a,n,c,?_⟩
  have:=blk_set (i:=2) (v:=.bool b') h1
  simpa using this
def maybeTb (st:Option (List Int)):List Int:=(takeT (numS 2 (numS 1 st).2).1.toNat (numS 2 (numS 1 st).2).2).1
theorem maybeTb_some {st:Option (List Int)}{bad:Bool}{r:List Int}(h:(maybeS st bad).2.2.1=some r):maybeTb st=(maybeS st bad).2.1:=takeT_some h
theorem maybe_T {tb:Nat}{st:Option (List Int)}{bad:Bool}(w0 w:World)(h:TkS w0 w tb st bad):
  Calls Tryz.prog 87 #[.pointer (some ⟨tb,0,none⟩)] w fun e w'=> ∃u,e=.returned (.tuple #[.bool (maybeS st bad).1,u])∧OwnB w' w.heap.size u (maybeTb st)∧TkS w0 w' tb (maybeS st bad).2.2.1 (maybeS st bad).2.2.2∧Upd (fun k=>k=tb) w w':=by
 simp only[maybeS,maybeTb]
 obtain⟨x1,hx1⟩: ∃x1,x1=(numS 1 st).1:=⟨_,rfl⟩
 obtain⟨s1,hs1⟩: ∃s1,s1=(numS 1 st).2:=⟨_,rfl⟩
 have hb1:=numS_bound (n:=1) h.bytes
 have HC1:RowKit.Hid (∀W,TkS w0 W tb st bad→Calls Tryz.prog 86 #[.pointer (some ⟨tb,0,none⟩),.int .i64 1] W fun e w'=> ∃u,e=.returned u∧BytesIn w' u [x1]∧TkS w0 w' tb s1 bad∧Upd (fun k=>k=tb) W w'):=hid (by
  intro W hW
  refine(raw_T (n:=1) w0 W hW (by omega)).mono ?_
  rintro e w' ⟨u,h1,h2,h3,h4⟩
  rw[takeT_one,←hx1] at h2
  rw[takeT_st] at h3
  rw[hs1]
  exact⟨u,h1,h2,h3,h4⟩)
 rw[←hx1] at hb1
 rw[←hx1,←hs1]
 have hy1:=takeS_bytes (n:=1) h.bytes
 have hy1: ∀bs,s1=some bs→Bytes bs:=by rw[hs1];exact hy1
 obtain⟨n2,hn2⟩: ∃n2,n2=(numS 2 s1).1:=⟨_,rfl⟩
 obtain⟨s2,hs2⟩: ∃s2,s2=(numS 2 s1).2:=⟨_,rfl⟩
 obtain⟨t2,ht2⟩: ∃t2,t2=(takeT 2 s1).1:=⟨_,rfl⟩
 have hb2:=numS_bound (n:=2) hy1
 have HC2:RowKit.Hid (∀W b,TkS w0 W tb s1 b→Calls Tryz.prog 86 #[.pointer (some ⟨tb,0,none⟩),.int .i64 2] W fun e w'=> ∃u,e=.returned u∧BytesIn w' u t2∧TkS w0 w' tb s2 b∧Upd (fun k=>k=tb) W w'):=hid (by
  intro W b hW
  refine(raw_T (n:=2) w0 W hW (by omega)).mono ?_
  rintro e w' ⟨u,h1,h2,h3,h4⟩
  rw[takeT_st] at h3
  rw[hs2,ht2]
  exact⟨u,h1,h2,h3,h4⟩)
 have ht2l:t2.length=2:=by rw[ht2];exact takeT_len 2 s1
 have HNUM:RowKit.Hid (∀W v,BytesIn W v t2→Calls Tryz.prog 85 #[v] W fun e w'=>e=.returned (.int .u64 n2)∧W=w'):=hid (by
  intro W v hv
  have q:=number_any W hv (by rw[ht2];exact takeT_by hy1) (by omega)
  rw[ht2,takeT_num,←hn2] at q
  exact q)
 rw[←hn2] at hb2
 rw[←hn2,←hs2]
 have hnn:((n2.toNat:Nat):Int)=n2:=by omega
 have hcv:IntKind.i64.wrap n2=n2:=by rw[IntKind.wrap_i64];omega
 have HC3:RowKit.Hid (∀W b,TkS w0 W tb s2 b→Calls Tryz.prog 86 #[.pointer (some ⟨tb,0,none⟩),.int .i64 n2] W fun e w'=> ∃u,e=.returned u∧BytesIn w' u (takeT n2.toNat s2).1∧TkS w0 w' tb (takeS n2.toNat s2).2 b∧Upd (fun k=>k=tb) W w'):=hid (by
  intro W b hW
  have q:=raw_T (n:=n2.toNat) w0 W hW (by omega)
  rw[hnn] at q
  refine q.mono ?_
  rintro e w' ⟨u,h1,h2,h3,h4⟩
  rw[takeT_st] at h3
  exact⟨u,h1,h2,h3,h4⟩)
 have hl3:(takeT n2.toNat s2).1.length≤65535:=by rw[takeT_len];omega
 obtain⟨b2,hb2⟩: ∃b2,b2=(bad || decide (1<x1)):=⟨_,rfl⟩
 rw[←hb2]
 have HB2:=hid hb2
 clear hb2
 have H:=hid h
 obtain⟨t3,ht3⟩: ∃t3,t3=(takeT n2.toNat s2).1:=⟨_,rfl⟩
 obtain⟨s3,hs3⟩: ∃s3,s3=(takeS n2.toNat s2).2:=⟨_,rfl⟩
 rw[←ht3] at hl3 HC3 ⊢
 rw[←hs3] at HC3 ⊢
 clear h hx1 hs1 hn2 hs2 hb2 hnn hy1 ht2 ht3 hs3
 go_enter Tryz.func87,Tryz.ntmps87
 go_wp2_with (go_at_call 86;fail)
 refine(HC1.out _ H.out).mono ?_
 rintro e w1 ⟨u,rfl,g1,g2,g3⟩
 obtain⟨a1,c1,rfl,q1⟩:=g1.one
 obtain⟨v1,k1⟩:=g2.cells
 obtain⟨z0,z1,z2⟩:=cells3_of k1
 have f2:w1.frozen? ⟨tb,2,none⟩=false:=frozen_of_heap k1
 have H2:=hid g2;have HU:=hid g3
 clear g1 g2 g3 k1 H HC1
 simp only[]
 have HS:=hid (H2.out.setBad b2)
 have HUS:=hid (HU.out.trans (upd_own w1 tb 2 (.bool b2)))
 go_upto_region 2 with fail
 go_cut [] from 10 to 21 (fun wx=>wx=w1.setCell ⟨tb,2,none⟩ (.bool b2))
 case first=>
  cases bad
  ·go_wp2
   go_meet
   case rel=>rw[HB2.out,Bool.false_or]
  ·go_wp2
   go_meet
   case rel=>rw[HB2.out,Bool.true_or]
 case rest=>
  rw[←hcut] at HS HUS
  clear hcut z0 z1 z2 f2 q1
  go_wp2_with (go_at_call 86;fail)
  refine(HC2.out _ _ HS.out).mono ?_
  rintro e w3 ⟨u,rfl,g1,g2,g3⟩
  obtain⟨a2,c2,rfl,_,_⟩:=g1.shape'
  rw[ht2l] at g1 ⊢
  have HG:=hid g1;have HS:=hid g2;have HU:=hid (HUS.out.trans g3)
  clear g1 g2 g3 HC2 HUS
  simp only[]
  go_upto_region 4 with fail
  obtain⟨ob,hob⟩: ∃ob,ob=w3.heap.size:=⟨_,rfl⟩
  obtain⟨w4,hw4⟩: ∃w4,w4=w3.alloc (.cells #[] 5):=⟨_,rfl⟩
  have H3LT:=hid HS.out.lt
  have hu4:Upd (fun _=>False) w3 w4:=by rw[hw4];exact(Upd.refl _ w3).alloc _
  have HO:=hid (show OwnB w4 w.heap.size (.slice (some ⟨ob,0,none⟩) 0 0) [] from
   ⟨rfl,.inr ⟨ob,0,_,rfl,by rw[hob];exact HU.out.size,by rw[hw4];exact alloc_at hob,Nat.le_refl _,by unfold maxLen;omega,rfl,rfl⟩⟩)
  have HS:=hid (HS.out.kept hu4 (fun e=>e) (fun _ _ e=>e))
  have HG:=hid (HG.out.kept hu4)
  have HOB:=hid (show w.heap.size≤ob∧tb<ob from⟨by rw[hob];exact HU.out.size,by rw[hob];exact H3LT.out⟩)
  have HU:=hid (HU.out.trans (hu4.mono (fun _ _ e=>e.elim)))
  have HW4:=hid hw4;have HOBE:=hid hob
  clear hu4 hw4 hob
  go_wp2_with (go_at_call 85;fail)
  rw[←HW4.out,←HOBE.out]
  refine(HNUM.out w4 _ HG.out).mono ?_
  rintro e w5 ⟨rfl,rfl⟩
  simp only[]
  go_wp2_with (go_at_call 86;fail)
  refine(HC3.out w4 _ HS.out).mono ?_
  rintro e w5 ⟨u,rfl,g1,g2,g3⟩
  obtain⟨a3,c3,rfl,_,_⟩:=g1.shape'
  have HO2:=hid (OwnB.keptF HO.out g3 (fun k hk e=>by have:=HOB.out;simp[Value.ownBlock] at hk;omega))
  have HG:=hid g1;have HS:=hid g2;have HU:=hid (HU.out.trans g3)
  clear g1 g2 g3
  simp only[]
  go_step
  refine wpList_appB (v:=.slice (some ⟨ob,0,none⟩) 0 0) (bs:=[]) (cs:=t3) rfl (.tmp 25) (.tmp 30) rfl rfl HO2.out rfl HG.out (by simp only[List.length_nil];omega) HU.out.size ?_
  intro v4 w6 g1 g2
  obtain⟨va,vm,vc,rfl⟩:=g1.bytesAt.1.slice'
  have HO5:=hid g1
  have HS:=hid (HS.out.kept g2 (fun e=>by have:=HOB.out;simp[Value.ownBlock] at e;omega) (fun k hk e=>by have:=HOB.out;have:=HS.out.1.1;simp[Value.ownBlock] at e;omega))
  have HU5:=hid (HU.out.step g2 (fun j hj e=>by have:=HOB.out;simp[Value.ownBlock] at e;omega))
  clear g1 g2
  go_wp2
  go_returns
  exact⟨_,rfl,HO5.out,HS.out,HU5.out⟩
end
end Go.Proofs.YtbimkhdiplnbfaaGreat
