/- Walks. -/
import Derived.Test.YtbimkhdiplnbfaaGreatU27
set_option linter.unusedVariables false
set_option linter.unusedSimpArgs false
namespace Go.Proofs.YtbimkhdiplnbfaaGreat
set_option maxRecDepth 1000000
set_option maxHeartbeats 16000000
variable {A B:BatchV} {w:World}
section
open Go.RowKit
end
section
open Go.RowKit Go.Shelf
def SameAns (w:World)(A B:BatchV)(e:Ending)(w':World):Prop:= ∃r,e=.returned (.bool r)∧(r=true↔A=B)∧U0 w w'
theorem Zbq {w':World}(h:A≠B)(hu:U0 w w'):SameAns w A B (.returned (.bool false)) w':=⟨false,rfl,by simp[h],hu⟩
theorem Zuk {k:Nat}{x y:SetV}(hx:A.sets[k]?=some x)(hy:B.sets[k]?=some y)(h:x≠y):A≠B:=by
 rintro rfl
 rw[hx] at hy
 injection hy with hy
 exact h hy
theorem Zrf {c d:Nat}{a b:Option Addr}(w:World)(ha:SetsIn w a A.sets)(hb:SetsIn w b B.sets)(ka: ∀x∈A.sets,Bytes x.old∧Bytes x.new)(kb: ∀x∈B.sets,Bytes x.old∧Bytes x.new)(hl:A.sets.length≤1000000):
  Calls Tryz.prog 23 #[batchV A a c,batchV B b d] w (SameAns w A B):=by
 obtain⟨w1,b1⟩: ∃w1,w1=(w.alloc (.cells #[.int .u64 A.epoch,.bool A.large,.slice a A.sets.length c] 56)).alloc (.cells #[.int .u64 B.epoch,.bool B.large,.slice b B.sets.length d] 56):=⟨_,rfl⟩
 have c5:w1.heap[w.heap.size]?=some (.cells #[.int .u64 A.epoch,.bool A.large,.slice a A.sets.length c] 56 (0,0)):=by rw[b1,Zm (by simp)];exact Zc rfl
 have c7:w1.heap[w.heap.size+1]?=some (.cells #[.int .u64 B.epoch,.bool B.large,.slice b B.sets.length d] 56 (0,0)):=by rw[b1];exact Zc (by simp)
 have d9:U0 w w1:=by rw[b1];exact((Upd.refl _ w).alloc _).alloc _
 obtain⟨z0,z1,z2⟩:=Zk c5
 obtain⟨y0,y1,y2⟩:=Zk c7
 have d8:=V b1;have HA:=V ha;have HB:=V hb;have KA:=V ka;have KB:=V kb;have f5:=V c5;have d6:=V c7;have a7:=V d9
 clear b1 ha hb ka kb c5 c7 d9
 unfold batchV
 go_enter Tryz.func23,Tryz.ntmps23
 go_upto_region 1 with fail
 rw[←d8.o]
 clear d8
 by_cases e1:A.epoch=B.epoch
 rotate_left
 ·have HH:=V (show A≠B from fun e=>e1 (by rw[e]))
  have e7:(A.epoch == B.epoch)=false:=by simpa using e1
  have b3:(A.epoch !=B.epoch)=true:=by simpa using e1
  clear e1
  go_wp2
  go_ret
  exact Zbq HH.o a7.o
 have e7:(A.epoch == B.epoch)=true:=by simpa using e1
 have b3:(A.epoch !=B.epoch)=false:=by simpa using e1
 have E1:=V e1
 by_cases e2:A.large=B.large
 rotate_left
 ·have HH:=V (show A≠B from fun e=>e2 (by rw[e]))
  have d0:(A.large == B.large)=false:=by simpa using e2
  clear e1 e2
  go_wp2
  go_ret
  exact Zbq HH.o a7.o
 have d0:(A.large == B.large)=true:=by simpa using e2
 have E2:=V e2
 by_cases e3:A.sets.length=B.sets.length
 rotate_left
 ·have HH:=V (show A≠B from fun e=>e3 (by rw[e]))
  have c3:((A.sets.length:Int) == B.sets.length)=false:=by rw[beq_eq_false_iff_ne];omega
  have b8:((A.sets.length:Int) !=B.sets.length)=true:=by rw[bne,c3];rfl
  clear e1 e2 e3
  go_wp2
  go_ret
  exact Zbq HH.o a7.o
 have c3:((A.sets.length:Int) == B.sets.length)=true:=by rw[beq_iff_eq];omega
 have b8:((A.sets.length:Int) !=B.sets.length)=false:=by rw[bne,c3];rfl
 have E3:=V e3
 clear e1 e2 e3
 go_upto_region 4 with fail
 clear e7 b3 d0 c3 b8 z0 z1 z2 y0 y1 y2
 go_loopg [32] A.sets.length (fun gk i wr=> ∃k:Nat,k≤A.sets.length∧gk=A.sets.length - k∧i=.int .i64 k∧A.sets.take k=B.sets.take k∧U0 w1 wr)
 case atStart=>exact⟨0,Nat.zero_le _,rfl,rfl,rfl,Upd.refl _ _⟩
 case round=>
  obtain⟨k,hk,rfl,rfl,e0,hu⟩:=hrel
  have d1:=V e0;have HU:=V hu
  clear e0 hu
  by_cases e8:k<A.sets.length
  ·have f0:(k:Int)<A.sets.length:=by omega
   have f3:k<B.sets.length:=by have:=E3.out;omega
   have e9:(k:Int)<B.sets.length:=by omega
   obtain⟨x,hx⟩: ∃x,A.sets[k]?=some x:=⟨_,List.getElem?_eq_getElem e8⟩
   obtain⟨y,hy⟩: ∃y,B.sets[k]?=some y:=⟨_,List.getElem?_eq_getElem f3⟩
   obtain⟨_,_,_,ab,ao,ea,oa,oc,na,nc,h0,h1,h2,h3,h4,h5,h6,_⟩:=HA.o k x hx
   obtain⟨_,_,_,bb,bo,eb,a5,a3,a4,a2,j0,j1,j2,j3,j4,j5,j6,_⟩:=HB.o k y hy
   subst ea eb
   have kc: ∀W,U0 wr W→ ∀{b o:Nat} {v:Value},w.cell? ⟨b,o,none⟩=some v→W.cell? ⟨b,o,none⟩=some v:=fun W hW _ _ _ h=>Zo ((a7.o.trans HU.o).trans hW) id h
   have d4:RowKit.Hid (∀W,U0 wr W→W.cell? ⟨ab,ao+k * 5,none⟩=some (.string x.name)∧W.cell? ⟨ab,ao+k * 5+1,none⟩=some (.bool x.was)∧W.cell? ⟨ab,ao+k * 5+2,none⟩=some (.bool x.is)∧W.cell? ⟨ab,ao+k * 5+3,none⟩=some (.slice oa x.old.length oc)∧W.cell? ⟨ab,ao+k * 5+4,none⟩=some (.slice na x.new.length nc)):=V (fun W hW=>⟨kc W hW h0,kc W hW h1,kc W hW h2,kc W hW h3,kc W hW h4⟩)
   have e6:RowKit.Hid (∀W,U0 wr W→W.cell? ⟨bb,bo+k * 5,none⟩=some (.string y.name)∧W.cell? ⟨bb,bo+k * 5+1,none⟩=some (.bool y.was)∧W.cell? ⟨bb,bo+k * 5+2,none⟩=some (.bool y.is)∧W.cell? ⟨bb,bo+k * 5+3,none⟩=some (.slice a5 y.old.length a3)∧W.cell? ⟨bb,bo+k * 5+4,none⟩=some (.slice a4 y.new.length a2)):=V (fun W hW=>⟨kc W hW j0,kc W hW j1,kc W hW j2,kc W hW j3,kc W hW j4⟩)
   have b4:=a7.o.trans HU.o
   have H5:=V (h5.kept b4);have H6:=V (h6.kept b4);have J5:=V (j5.kept b4);have J6:=V (j6.kept b4)
   have b5:=V (Zuk hx hy)
   have d3:=KA.out x (List.mem_of_getElem? hx);have d2:=KB.out y (List.mem_of_getElem? hy)
   have b9:=V (And.intro d3 d2)
   have f6:RowKit.Hid (x=y→A.sets.take (k+1)=B.sets.take (k+1)):=V (fun e=>by
    rw[List.take_add_one,List.take_add_one,hx,hy,d1.o,e])
   clear h0 h1 h2 h3 h4 h5 h6 j0 j1 j2 j3 j4 j5 j6 kc hx hy b4 d3 d2
   have hA:wr.drew.heap[w.heap.size]?=some (.cells #[.int .u64 A.epoch,.bool A.large,.slice (some ⟨ab,ao,none⟩) A.sets.length c] 56 (0,0))∧wr.drew.heap[w.heap.size+1]?=some (.cells #[.int .u64 B.epoch,.bool B.large,.slice (some ⟨bb,bo,none⟩) B.sets.length d] 56 (0,0))∧U0 wr wr.drew:=⟨kb HU.o f5.o,kb HU.o d6.o,(Upd.refl _ wr).drew⟩
   have a9:RowKit.Hid (w.heap.size+1<wr.heap.size):=V (by have:=Za d6.o;have:=HU.o.size;omega)
   go_upto_region 6 with fail
   go_cut [6,7,32] from 35 to 45 (fun p6 p7 i wx=>i=.int .i64 k∧ ∃b6 b7,p6=.pointer (some ⟨b6,0,none⟩)∧p7=.pointer (some ⟨b7,0,none⟩)∧wx.heap[b6]?=some (.cells #[.string x.name,.bool x.was,.bool x.is,.slice oa x.old.length oc,.slice na x.new.length nc] 73 (0,0))∧wx.heap[b7]?=some (.cells #[.string y.name,.bool y.was,.bool y.is,.slice a5 y.old.length a3,.slice a4 y.new.length a2] 73 (0,0))∧U0 wr wx)
   case first=>
    refine Zj 13 (fun W=>W.heap[w.heap.size]?=some (.cells #[.int .u64 A.epoch,.bool A.large,.slice (some ⟨ab,ao,none⟩) A.sets.length c] 56 (0,0))∧W.heap[w.heap.size+1]?=some (.cells #[.int .u64 B.epoch,.bool B.large,.slice (some ⟨bb,bo,none⟩) B.sets.length d] 56 (0,0))∧U0 wr W) [false,false,false,false,false,false,false,false,false,false,false,false,false,false] rfl (by kernel_rfl) ?_
    generalize wr.drew=wd at hA ⊢
    refine tpZ 0 (.pointer (some ⟨w.heap.size,2,none⟩)) hA ?_
    simp only[zz]
    refine tqZ 1 (.slice (some ⟨ab,ao,none⟩) A.sets.length c) [] hA (fun w5 q1=>?_) ?_
    ·obtain⟨c0,c1,c2⟩:=Zk q1.1
     go_simp
    simp only[zz]
    refine tpZ 2 (.int .i64 k) hA ?_
    simp only[zz]
    refine tpZ 3 (.pointer (some ⟨ab,ao+k * 5,none⟩)) hA ?_
    simp only[zz]
    refine tqZ 4 (.agg #[.string x.name,.bool x.was,.bool x.is,.slice oa x.old.length oc,.slice na x.new.length nc]) [] hA (fun w5 q1=>?_) ?_
    ·obtain⟨q0,q2,q3,q4,q5⟩:=d4.o w5 q1.2.2
     go_simp
    simp only[zz]
    refine tpZ 5 (.pointer (some ⟨w.heap.size+1,2,none⟩)) hA ?_
    simp only[zz]
    refine tqZ 6 (.slice (some ⟨bb,bo,none⟩) B.sets.length d) [] hA (fun w5 q1=>?_) ?_
    ·obtain⟨c0,c1,c2⟩:=Zk q1.2.1
     go_simp
    simp only[zz]
    refine tpZ 7 (.int .i64 k) hA ?_
    simp only[zz]
    refine tpZ 8 (.pointer (some ⟨bb,bo+k * 5,none⟩)) hA ?_
    simp only[zz]
    refine tqZ 9 (.agg #[.string y.name,.bool y.was,.bool y.is,.slice a5 y.old.length a3,.slice a4 y.new.length a2]) [] hA (fun w5 q1=>?_) ?_
    ·obtain⟨q0,q2,q3,q4,q5⟩:=e6.o w5 q1.2.2
     go_simp
    simp only[zz]
    refine Ya (i:=10) (j:=11) rfl rfl (by kernel_rfl) rfl rfl (fun K hK=>?_) (fun K hK=>?_)
    ·have a0:=V hK
     clear hK
     have a6:=V hA.2.2.size
     go_step
     have ua:U0 wd (wd.alloc (.cells #[.string ⟨#[]⟩,.bool false,.bool false,.slice none 0 0,.slice none 0 0] 73)):=(Upd.refl _ _).alloc _
     have H6:=V (Zc (w:=wd) (o:=.cells #[.string ⟨#[]⟩,.bool false,.bool false,.slice none 0 0,.slice none 0 0] 73) rfl)
     have hA:=(And.intro (kb ua hA.1) (And.intro (kb ua hA.2.1) (hA.2.2.trans ua)))
     refine a0.o _ _ hA ?_
     clear a0 ua
     simp only[zz]
     generalize wd.alloc (.cells #[.string ⟨#[]⟩,.bool false,.bool false,.slice none 0 0,.slice none 0 0] 73)=we at H6 hA ⊢
     refine doZ 11 (fun K a0=>?_)
     go_step
     have ua:U0 we (we.alloc (.cells #[.string ⟨#[]⟩,.bool false,.bool false,.slice none 0 0,.slice none 0 0] 73)):=(Upd.refl _ _).alloc _
     have H7:=V (Zc (w:=we) (o:=.cells #[.string ⟨#[]⟩,.bool false,.bool false,.slice none 0 0,.slice none 0 0] 73) rfl)
     have hA:=(And.intro (kb ua hA.1) (And.intro (kb ua hA.2.1) (hA.2.2.trans ua)))
     have a1:=V (Za H6.o)
     have H6:=V (kb ua H6.o)
     refine a0.o _ _ hA ?_
     clear a0 ua
     simp only[zz]
     generalize we.alloc (.cells #[.string ⟨#[]⟩,.bool false,.bool false,.slice none 0 0,.slice none 0 0] 73)=wf at H7 hA H6 ⊢
     refine doZ 12 (fun K a0=>?_)
     refine wp_store_mid 73 (.tmp 6) (.tmp 39) rfl (wd.heap.size) 0 #[.string x.name,.bool x.was,.bool x.is,.slice oa x.old.length oc,.slice na x.new.length nc] rfl rfl (by have q:=Zq H6.o;exact q) (by kernel_rfl) (by simp[Value.oneCell']) ?_
     have k6:=Zi (vs:=[.string x.name,.bool x.was,.bool x.is,.slice oa x.old.length oc,.slice na x.new.length nc]) H6.o rfl
     have v6:=Upd.setCells (F:=fun k=>k=wd.heap.size) (b:=wd.heap.size) rfl [.string x.name,.bool x.was,.bool x.is,.slice oa x.old.length oc,.slice na x.new.length nc] 0 (Upd.refl _ wf)
     have k7:=(v6.block _ (Za H7.o) (by have:=a1.o;omega)).trans H7.o
     have hA:=And.intro ((v6.block _ (Za hA.1) (by have:=a1.o;have:=a6.o;have:=a9.o;omega)).trans hA.1) (And.intro ((v6.block _ (Za hA.2.1) (by have:=a1.o;have:=a6.o;have:=a9.o;omega)).trans hA.2.1) (hA.2.2.step v6 (fun j hj e=>by have:=a6.o;have:=a1.o;omega)))
     have K6:=V k6;have K7:=V k7
     clear k6 v6 k7
     refine a0.o _ _ hA ?_
     clear a0
     simp only[zz]
     generalize wf.setCells (wd.heap.size) 0 _=wg at K6 K7 hA ⊢
     refine tlZ 13 ?_
     simp only[List.drop]
     refine wpList_store_mid rfl 73 (.tmp 7) (.tmp 44) rfl (we.heap.size) 0 #[.string y.name,.bool y.was,.bool y.is,.slice a5 y.old.length a3,.slice a4 y.new.length a2] rfl rfl (by have q:=Zq K7.out;exact q) (by kernel_rfl) (by simp[Value.oneCell']) ?_
     have k7:=Zi (vs:=[.string y.name,.bool y.was,.bool y.is,.slice a5 y.old.length a3,.slice a4 y.new.length a2]) K7.out rfl
     have v7:=Upd.setCells (F:=fun k=>k=we.heap.size) (b:=we.heap.size) rfl [.string y.name,.bool y.was,.bool y.is,.slice a5 y.old.length a3,.slice a4 y.new.length a2] 0 (Upd.refl _ wg)
     have k6:=(v7.block _ (Za K6.out) (by have:=a1.o;omega)).trans K6.out
     have b2:=hA.2.2.step v7 (fun j hj e=>by have:=a6.o;have:=a1.o;omega)
     have c4:=V b2;have K6:=V k6;have K7:=V k7
     clear k6 v7 k7 hA b2
     go_wp2
     go_meet
     case rel=>exact⟨rfl,_,_,rfl,rfl,K6.out,K7.out,c4.o⟩
    ·have a0:=V hK
     clear hK
     have a6:=V hA.2.2.size
     go_step
     have ua:U0 wd (wd.alloc (.cells #[.string ⟨#[]⟩,.bool false,.bool false,.slice none 0 0,.slice none 0 0] 73)):=(Upd.refl _ _).alloc _
     have H7:=V (Zc (w:=wd) (o:=.cells #[.string ⟨#[]⟩,.bool false,.bool false,.slice none 0 0,.slice none 0 0] 73) rfl)
     have hA:=(And.intro (kb ua hA.1) (And.intro (kb ua hA.2.1) (hA.2.2.trans ua)))
     refine a0.o _ _ hA ?_
     clear a0 ua
     simp only[zz]
     generalize wd.alloc (.cells #[.string ⟨#[]⟩,.bool false,.bool false,.slice none 0 0,.slice none 0 0] 73)=we at H7 hA ⊢
     refine doZ 10 (fun K a0=>?_)
     go_step
     have ua:U0 we (we.alloc (.cells #[.string ⟨#[]⟩,.bool false,.bool false,.slice none 0 0,.slice none 0 0] 73)):=(Upd.refl _ _).alloc _
     have H6:=V (Zc (w:=we) (o:=.cells #[.string ⟨#[]⟩,.bool false,.bool false,.slice none 0 0,.slice none 0 0] 73) rfl)
     have hA:=(And.intro (kb ua hA.1) (And.intro (kb ua hA.2.1) (hA.2.2.trans ua)))
     have a1:=V (Za H7.o)
     have H7:=V (kb ua H7.o)
     refine a0.o _ _ hA ?_
     clear a0 ua
     simp only[zz]
     generalize we.alloc (.cells #[.string ⟨#[]⟩,.bool false,.bool false,.slice none 0 0,.slice none 0 0] 73)=wf at H6 hA H7 ⊢
     refine doZ 12 (fun K a0=>?_)
     refine wp_store_mid 73 (.tmp 6) (.tmp 39) rfl (we.heap.size) 0 #[.string x.name,.bool x.was,.bool x.is,.slice oa x.old.length oc,.slice na x.new.length nc] rfl rfl (by have q:=Zq H6.o;exact q) (by kernel_rfl) (by simp[Value.oneCell']) ?_
     have k6:=Zi (vs:=[.string x.name,.bool x.was,.bool x.is,.slice oa x.old.length oc,.slice na x.new.length nc]) H6.o rfl
     have v6:=Upd.setCells (F:=fun k=>k=we.heap.size) (b:=we.heap.size) rfl [.string x.name,.bool x.was,.bool x.is,.slice oa x.old.length oc,.slice na x.new.length nc] 0 (Upd.refl _ wf)
     have k7:=(v6.block _ (Za H7.o) (by have:=a1.o;omega)).trans H7.o
     have hA:=And.intro ((v6.block _ (Za hA.1) (by have:=a1.o;have:=a6.o;have:=a9.o;omega)).trans hA.1) (And.intro ((v6.block _ (Za hA.2.1) (by have:=a1.o;have:=a6.o;have:=a9.o;omega)).trans hA.2.1) (hA.2.2.step v6 (fun j hj e=>by have:=a6.o;have:=a1.o;omega)))
     have K6:=V k6;have K7:=V k7
     clear k6 v6 k7
     refine a0.o _ _ hA ?_
     clear a0
     simp only[zz]
     generalize wf.setCells (we.heap.size) 0 _=wg at K6 K7 hA ⊢
     refine tlZ 13 ?_
     simp only[List.drop]
     refine wpList_store_mid rfl 73 (.tmp 7) (.tmp 44) rfl (wd.heap.size) 0 #[.string y.name,.bool y.was,.bool y.is,.slice a5 y.old.length a3,.slice a4 y.new.length a2] rfl rfl (by have q:=Zq K7.out;exact q) (by kernel_rfl) (by simp[Value.oneCell']) ?_
     have k7:=Zi (vs:=[.string y.name,.bool y.was,.bool y.is,.slice a5 y.old.length a3,.slice a4 y.new.length a2]) K7.out rfl
     have v7:=Upd.setCells (F:=fun k=>k=wd.heap.size) (b:=wd.heap.size) rfl [.string y.name,.bool y.was,.bool y.is,.slice a5 y.old.length a3,.slice a4 y.new.length a2] 0 (Upd.refl _ wg)
     have k6:=(v7.block _ (Za K6.out) (by have:=a1.o;omega)).trans K6.out
     have b2:=hA.2.2.step v7 (fun j hj e=>by have:=a6.o;have:=a1.o;omega)
     have c4:=V b2;have K6:=V k6;have K7:=V k7
     clear k6 v7 k7 hA b2
     go_wp2
     go_meet
     case rel=>exact⟨rfl,_,_,rfl,rfl,K6.out,K7.out,c4.o⟩
   case rest=>
    obtain⟨rfl,b6,b7,rfl,rfl,c6,c8,c9⟩:=hcut
    obtain⟨x0,x1,x2,x3,x4⟩:=Zu c6
    obtain⟨y0,y1,y2,y3,y4⟩:=Zu c8
    have f8:=V c6;have f9:=V c8;have a8:=V c9
    have b0:=V ((a7.o.trans HU.o).trans c9)
    clear c6 c8 c9 d4 e6 hA a9
    by_cases n1:x.name=y.name
    rotate_left
    ·have HH:=V (b5.o (fun e=>n1 (by rw[e])))
     have e1:(x.name.toList == y.name.toList)=false:=by rw[toList_eq];exact decide_eq_false n1
     clear n1
     go_wp2
     go_ret
     exact Zbq HH.o b0.o
    have e1:(x.name.toList == y.name.toList)=true:=by rw[toList_eq];exact decide_eq_true n1
    have N1:=V n1
    clear n1
    by_cases n2:x.was=y.was
    rotate_left
    ·have HH:=V (b5.o (fun e=>n2 (by rw[e])))
     have e2:(x.was == y.was)=false:=by simpa using n2
     clear n2
     go_wp2
     go_ret
     exact Zbq HH.o b0.o
    have e2:(x.was == y.was)=true:=by simpa using n2
    have N2:=V n2
    clear n2
    by_cases n3:x.is=y.is
    rotate_left
    ·have HH:=V (b5.o (fun e=>n3 (by rw[e])))
     have e3:(x.is == y.is)=false:=by simpa using n3
     clear n3
     go_wp2
     go_ret
     exact Zbq HH.o b0.o
    have e3:(x.is == y.is)=true:=by simpa using n3
    have N3:=V n3
    clear n3
    go_wp2_with (go_at_call 24;fail)
    refine(Zds _ (H5.o.kept a8.o) (J5.out.kept a8.o) b9.o.1.1 b9.o.2.1).mono ?_
    rintro e wq ⟨rfl,rfl⟩
    simp only[]
    by_cases n4:x.old=y.old
    rotate_left
    ·have HH:=V (b5.o (fun e=>n4 (by rw[e])))
     have e4:(x.old == y.old)=false:=by simpa using n4
     clear n4
     go_wp2
     go_ret
     exact Zbq HH.o b0.o
    have e4:(x.old == y.old)=true:=by simpa using n4
    have N4:=V n4
    clear n4
    go_wp2_with (go_at_call 24;fail)
    refine(Zds _ (H6.o.kept a8.o) (J6.out.kept a8.o) b9.o.1.2 b9.o.2.2).mono ?_
    rintro e wq ⟨rfl,rfl⟩
    simp only[]
    by_cases n5:x.new=y.new
    rotate_left
    ·have HH:=V (b5.o (fun e=>n5 (by rw[e])))
     have e5:(x.new == y.new)=false:=by simpa using n5
     clear n5
     go_wp2
     go_ret
     exact Zbq HH.o b0.o
    have e5:(x.new == y.new)=true:=by simpa using n5
    have N5:=V n5
    clear n5
    have d5:x=y:=by
     obtain⟨p1,p2,p3,p4,p5⟩:=x
     obtain⟨q1,q2,q3,q4,q5⟩:=y
     have:=N1.out;have:=N2.out;have:=N3.out;have:=N4.out;have:=N5.out
     simp only at *
     subst_vars
     rfl
    have f1:=V (f6.o d5)
    have f2:=V (HU.o.trans a8.o)
    clear d5
    have f7:IntKind.i64.wrap ((k:Int)+1)=(k:Int)+1:=by rw[IntKind.wrap_i64];omega
    go_wp2
    go_roundg (A.sets.length - (k+1))
    case measure=>omega
    case rel=>exact⟨k+1,by omega,rfl,congrArg _ (by omega),f1.o,f2.o⟩
  ·obtain rfl:k=A.sets.length:=by omega
   have d7:A=B:=by
    have h:=d1.o
    rw[List.take_length,E3.out,List.take_length] at h
    obtain⟨p1,p2,p3⟩:=A
    obtain⟨q1,q2,q3⟩:=B
    have h1:=E1.out;have h2:=E2.out
    simp only at h h1 h2
    subst h h1 h2
    rfl
   have f4:=V d7
   clear d7
   go_wp2
   go_ret
   exact⟨true,rfl,⟨fun _=>f4.o,fun _=>rfl⟩,a7.o.trans HU.o⟩
theorem Zr3 (L:List (SetV×Value×Value))(i:Nat)(x:SetV)(y:SetV×Value×Value)(v u:Value)(hi:L[i]?=some y)(hw:x.was=y.1.was)(his:x.is=y.1.is):
  (((L.flatMap elC).set (i * 5) (.string x.name)).set (i * 5+3) v).set (i * 5+4) u=(L.set i (x,v,u)).flatMap elC:=by
 have a1:=(List.getElem?_eq_some_iff.1 hi).1
 apply List.ext_getElem?
 intro p
 by_cases hp:p<5 * L.length
 ·obtain⟨j,t,ht,hj,rfl⟩: ∃j t,t<5∧j<L.length∧p=j * 5+t:=⟨p / 5,p % 5,by omega,by omega,by omega⟩
  by_cases a0:j=i
  ·subst a0
   rw[Zav (L.set j (x,v,u)) j t (x,v,u) (by simp[a1]) ht]
   have h2:=Zav L j t y hi ht
   have a2:j * 5+4<(L.flatMap elC).length:=by rw[Za5];omega
   match t,ht with
   | 0,_=>rw[List.getElem?_set_ne (by omega),List.getElem?_set_ne (by omega),Nat.add_zero,List.getElem?_set_self (by omega)];rfl
   | 1,_=>rw[List.getElem?_set_ne (by omega),List.getElem?_set_ne (by omega),List.getElem?_set_ne (by omega),h2];simp[elC,hw]
   | 2,_=>rw[List.getElem?_set_ne (by omega),List.getElem?_set_ne (by omega),List.getElem?_set_ne (by omega),h2];simp[elC,his]
   | 3,_=>rw[List.getElem?_set_ne (by omega),List.getElem?_set_self (by simp only[List.length_set];omega)];rfl
   | 4,_=>rw[List.getElem?_set_self (by simp only[List.length_set];omega)];rfl
  ·rw[List.getElem?_set_ne (by omega),List.getElem?_set_ne (by omega),List.getElem?_set_ne (by omega)]
   rw[Zav L j t L[j] (List.getElem?_eq_getElem hj) ht,Zav (L.set i (x,v,u)) j t L[j] (by rw[List.getElem?_set_ne (Ne.symm a0)];exact List.getElem?_eq_getElem hj) ht]
 ·rw[List.getElem?_eq_none (by simp only[List.length_set,Za5];omega),List.getElem?_eq_none (by rw[Za5,List.length_set];omega)]
theorem SetRow.put {g cap B:Nat}{C:Nat→Prop}{l:List SetV}{i:Nat}{x x':SetV}{v u:Value}(h:SetRow w B C (.slice (some ⟨g,0,none⟩) l.length cap) l)(hr:RowC w C)(hi:l[i]?=some x)(hw:x'.was=x.was)(his:x'.is=x.is)(hv:BytesAt w C v x'.old)(hu:BytesAt w C u x'.new)(hf:x'.fine):
  SetRow (((w.setCell ⟨g,i * 5,none⟩ (.string x'.name)).setCell ⟨g,i * 5+3,none⟩ v).setCell ⟨g,i * 5+4,none⟩ u) B C (.slice (some ⟨g,0,none⟩) l.length cap) (l.set i x')∧Upd (fun k=>k=g) w (((w.setCell ⟨g,i * 5,none⟩ (.string x'.name)).setCell ⟨g,i * 5+3,none⟩ v).setCell ⟨g,i * 5+4,none⟩ u):=by
 have a1: ∀k,C k→ ¬k=g:=fun k hk e=>h.apart hr k hk (by rw[e];rfl)
 have a0:Upd (fun k=>k=g) w (((w.setCell ⟨g,i * 5,none⟩ (.string x'.name)).setCell ⟨g,i * 5+3,none⟩ v).setCell ⟨g,i * 5+4,none⟩ u):=((Zd w g _ _).trans (Zd _ g _ _)).trans (Zd _ g _ _)
 obtain⟨L,rfl,h1,h2,h3⟩:=h
 simp only[List.getElem?_map,Option.map_eq_some_iff] at hi
 obtain⟨y,hy,rfl⟩:=hi
 refine⟨⟨L.set i (x',v,u),by rw[List.map_set],?_,fun z hz=>?_,fun z hz=>?_⟩,a0⟩
 ·have:=(((h1.stored (i * 5) (.string x'.name)).1.stored (i * 5+3) v).1.stored (i * 5+4) u).1
  rw[Zr3 L i x' y v u hy hw his] at this
  rw[List.length_set]
  exact this
 ·rcases List.mem_or_eq_of_mem_set hz with hz | rfl
  ·exact⟨(h2 z hz).1.kept a0 a1,(h2 z hz).2.kept a0 a1⟩
  ·exact⟨hv.kept a0 a1,hu.kept a0 a1⟩
 ·rcases List.mem_or_eq_of_mem_set hz with hz | rfl
  ·exact h3 z hz
  ·exact hf
theorem BytesAt.head {C:Nat→Prop}{v:Value}{bs:List Int}(h:BytesAt w C v bs){n:Nat}(hn:n≤bs.length):
  ∃u,(∀W,(Instr.slice 39 v none (some (.int .i64 n)) none).run Tryz.prog W=.ok u W)∧BytesAt w C u (bs.take n):=by
 have hl:(bs.take n).length=n:=by simp;omega
 rcases h with ⟨rfl,rfl⟩ | ⟨g,o,c,hg,rfl,h2,h3,h4⟩
 ·obtain rfl:n=0:=by simpa using hn
  refine⟨.slice none 0 0,fun W=>?_,.inl ⟨rfl,rfl⟩⟩
  have:=run_slice_h W 39 none 0 0 Zbj .i64 0 (by omega) (by omega)
  rw[show((0:Nat):Int)=0 from rfl,this,Za2]
  rfl
 ·refine⟨.slice (some ⟨g,o,none⟩) n c,fun W=>?_,.inr ⟨g,o,c,hg,by rw[hl],by rw[hl];omega,h3,fun i u hi=>?_⟩⟩
  ·rw[run_slice_h W 39 _ bs.length c Zbj .i64 n (by omega) (by omega),Za2]
   simp[Result.andThen,sliced,Addr.add_zero']
  ·have a0:=(List.getElem?_eq_some_iff.1 hi).1
   simp only[bcells,List.length_map,hl] at a0
   refine h4 i u ?_
   simp only[bcells,List.getElem?_map,List.getElem?_take_of_lt a0] at hi ⊢
   exact hi
def Z4 (x:SetV):SetV:=⟨x.name.extract 0 (min x.name.size 40),x.was,x.is,x.old.take 3001,x.new.take 3001⟩
end
end Go.Proofs.YtbimkhdiplnbfaaGreat
