/- Walks. -/
import Derived.Test.YtbimkhdiplnbfaaGreatU25
import Derived.Test.YtbimkhdiplnbfaaGreatU29
set_option linter.unusedVariables false
set_option linter.unusedSimpArgs false
namespace Go.Proofs.YtbimkhdiplnbfaaGreat
set_option maxRecDepth 1000000
set_option maxHeartbeats 16000000
variable {D:Dk} {hd:Hd} {ev:Int} {l:KV} {X:Lg} {txs:List (List Int)} {c:Nat} {C R:Nat→Prop} {a:Option Addr} {w:World}
section
open Go.RowKit Go.Shelf
def KV.sumBy (f:ByteArray×List Int→Nat)(l:KV):Nat:=(l.map f).sum
theorem KV.sumBy_cons (f:ByteArray×List Int→Nat)(p:ByteArray×List Int)(l:KV):KV.sumBy f (p :: l)=f p+KV.sumBy f l:=by simp[KV.sumBy]
theorem KV.sumBy_ins (f:ByteArray×List Int→Nat)(s:ByteArray)(v:List Int): ∀l:KV,KV.sumBy f (l.ins s v)=KV.sumBy f l+f (s,v)
 | []=>by simp[KV.ins,KV.sumBy]
 |p :: r=>by
  simp only[KV.ins]
  split
  ·simp only[KV.sumBy_cons];omega
  ·simp only[KV.sumBy_cons,KV.sumBy_ins f s v r];omega
theorem KV.sumBy_del (f:ByteArray×List Int→Nat)(s:ByteArray): ∀l:KV,l.Rising→KV.sumBy f (l.del s)+(match l.get s with | some u=>f (s,u) | none=>0)=KV.sumBy f l
 | [],_=>by simp[KV.del,KV.get,KV.sumBy]
 |p :: r,h=>by
  unfold KV.Rising at h
  rw[List.pairwise_cons] at h
  by_cases e:p.1=s
  ·have hn: ∀q∈r,q.1≠s:=fun q hq e2=>by
    have:=h.1 q hq
    rw[e2,←e] at this
    exact absurd this (List.lt_irrefl _)
   have h1:KV.del (p :: r) s=r:=by
    rw[show KV.del (p :: r) s=KV.del r s from by simp[KV.del,e]]
    exact KV.del_none hn
   have h2:KV.get (p :: r) s=some p.2:=by simp[KV.get,e]
   rw[h1,h2,KV.sumBy_cons]
   subst e
   have e2:f (p.1,p.2)=f p:=rfl
   simp only[e2]
   omega
  ·have h1:KV.del (p :: r) s=p :: KV.del r s:=by simp[KV.del,e]
   have h2:KV.get (p :: r) s=KV.get r s:=by simp[KV.get,e]
   have ih:=KV.sumBy_del f s r h.2
   rw[h1,h2,KV.sumBy_cons,KV.sumBy_cons]
   omega
theorem KV.sumBy_put (f:ByteArray×List Int→Nat)(h:l.Rising)(s:ByteArray)(v:List Int):KV.sumBy f (l.put s v)+(match l.get s with | some u=>f (s,u) | none=>0)=KV.sumBy f l+f (s,v):=by
 have h1:=KV.sumBy_del f s l h
 unfold KV.put
 rw[KV.sumBy_ins]
 omega
theorem KV.sumBy_one (l:KV):KV.sumBy (fun _=>1) l=l.length:=by
 induction l with
 |nil=>rfl
 |cons p l ih=>rw[KV.sumBy_cons,ih,List.length_cons];omega
theorem KV.length_put (h:l.Rising)(s:ByteArray)(v:List Int):(l.put s v).length+(match l.get s with | some _=>1 | none=>0)=l.length+1:=by
 have:=KV.sumBy_put (fun _=>1) h s v
 rw[KV.sumBy_one,KV.sumBy_one] at this
 exact this
def RefDoAns (w:World)(C:Nat→Prop)(ev:Int)(l:KV)(a:Option Addr)(c:Nat)(B:BatchV)(e:Ending)(w':World):Prop:=
 U0 w w'∧((doE ev l B≠0∧e=.returned (.tuple #[.agg #[.int .u64 ev,.slice a l.length c],.int .i64 (doE ev l B)]))∨
  (doE ev l B=0∧ ∃a' c',e=.returned (.tuple #[.agg #[.int .u64 B.epoch,.slice a' (l.withs B.sets).length c'],.int .i64 0])∧ValRow w' w.heap.size C (.slice a' (l.withs B.sets).length c') (l.withs B.sets)))
theorem KV.length_with (h:l.Rising)(x:SetV):(l.with x).length≤l.length+1:=by
 unfold KV.with
 split
 ·have:=KV.length_put h x.name x.new
  omega
 ·have:=List.length_filter_le (fun p=>!decide (p.1=x.name)) l
  unfold KV.del
  omega
theorem KV.length_withs: ∀(r:List SetV) {l:KV},l.Rising→(l.withs r).length≤l.length+r.length
 | [],l,_=>by simp[KV.withs]
 |x :: r,l,h=>by
  have e:l.withs (x :: r)=(l.with x).withs r:=rfl
  have h1:=KV.length_with h x
  have h2:(l.with x).Rising:=by
   have:=KV.rising_withs h [x]
   exact this
  have:=KV.length_withs r h2
  rw[e,List.length_cons]
  omega
structure RdoAt (w:World) (C:Nat→Prop) (B:BatchV) (l:KV) (t6:Nat) (k:Nat) (W:World):Prop where
 out: ∃a9 c9,W.heap[t6]?=some (.cells #[.int .u64 B.epoch,.slice a9 (l.withs (B.sets.take k)).length c9] 62 (0,0))∧ValRow W w.heap.size C (.slice a9 (l.withs (B.sets.take k)).length c9) (l.withs (B.sets.take k))
 row:RowC W C
 upd:U0 w W
 th:(B.sets.take k).all (SetV.thought l)=true
theorem Zfg {sa:Option Addr}{sc:Nat}{B:BatchV}(w0:World)(hV:ValsAt w0 C a l)(hl:l.length≤900)(hs:SetsAt w0 R C sa B.sets)(hsl:B.sets.length≤60)(hC:RowC w0 C)(hby: ∀p∈l,Bytes p.2)(hri:l.Rising)(hR: ∀k,R k→k<w0.heap.size):
  Calls Tryz.prog 166 #[.agg #[.int .u64 ev,.slice a l.length c],.agg #[.int .u64 B.epoch,.bool B.large,.slice sa B.sets.length sc]] w0 (RefDoAns w0 C ev l a c B):=by
 obtain⟨w,hw⟩: ∃w,w=((w0.alloc (.cells #[.int .u64 ev,.slice a l.length c] 62)).alloc (.cells #[.int .u64 B.epoch,.bool B.large,.slice sa B.sets.length sc] 56)).alloc (.cells #[.int .u64 0,.slice none 0 0] 62):=⟨_,rfl⟩
 have hu:U0 w0 w:=by rw[hw];exact(((Upd.refl _ w0).alloc _).alloc _).alloc _
 have i7:w.heap[w0.heap.size]?=some (.cells #[.int .u64 ev,.slice a l.length c] 62 (0,0)):=by rw[hw];exact(Zm (by simp<;> omega)).trans ((Zm (by simp)).trans (Zc rfl))
 have f5:w.heap[w0.heap.size+1]?=some (.cells #[.int .u64 B.epoch,.bool B.large,.slice sa B.sets.length sc] 56 (0,0)):=by rw[hw];exact(Zm (by simp)).trans (Zc (by simp))
 have f8:w.heap[w0.heap.size+1+1]?=some (.cells #[.int .u64 0,.slice none 0 0] 62 (0,0)):=by rw[hw];exact Zc (by simp)
 obtain⟨rb,l2⟩: ∃x,x=w0.heap.size:=⟨_,rfl⟩
 obtain⟨bb,i9⟩: ∃x,x=w0.heap.size+1:=⟨_,rfl⟩
 obtain⟨a0,f4⟩: ∃x,x=w0.heap.size+1+1:=⟨_,rfl⟩
 rw[←l2] at i7
 rw[←i9] at f5
 rw[←f4] at f8
 have HV:=V (hV.kept0 hu);have HC:=V (hC.kept hu n3Z);have HL:=V (show l.length≤2000 by omega);have m0:=V hl;have HS:=V (hs.kept hu n3Z n3Z);have l1:=V hsl;have n5:=V hby;have m6:=V hri
 have HU:=V hu;have i0:=V i7;have n0:=V f5;have b6:=V f8;have m1:=V (show w0.heap.size≤a0 by omega)
 obtain⟨r0,r1⟩:=Zg i7
 obtain⟨b0,b1,b2⟩:=Zk f5
 obtain⟨s0,s1⟩:=Zg f8
 have d3:w.frozen? ⟨a0,0,none⟩=false:=Zb f8
 have d0:w.frozen? ⟨a0,1,none⟩=false:=Zb f8
 clear hV hC hl hs hsl hu i7 f5 f8 hby hri hR
 go_enter Tryz.func166,Tryz.ntmps166
 go_upto_region 1 with fail
 rw[←hw,←f4,←i9,←l2]
 clear hw f4 i9 l2
 by_cases e7:B.epoch<ev
 ·have HP:=V e7
  go_wp2
  obtain⟨w9,a3⟩: ∃w9,w9=(w.setCell ⟨a0,0,none⟩ (.int .u64 ev)).setCell ⟨a0,1,none⟩ (.slice a l.length c):=⟨_,rfl⟩
  rw[←a3]
  have a4:Upd (fun j=>j=a0) w w9:=by rw[a3];exact(Zd w a0 0 _).trans (Zd _ a0 1 _)
  have d2:w9.heap[a0]?=some (.cells #[.int .u64 ev,.slice a l.length c] 62 (0,0)):=by
   rw[a3]
   have:=Ze (i:=1) (v:=.slice a l.length c) (Ze (i:=0) (v:=.int .u64 ev) b6.o)
   simpa using this
  have c7:=run_loadVar_mid (P:=Tryz.prog) w9 a0 0 62 [.int .u64 ev,.slice a l.length c] _ (Zh d2) Tryz.underlying62 rfl (by rw[Zaj];rfl)
  refine bodyPost_ret (Zl Tryz.results166 rfl c7) rfl ?_
  have hd:doE ev l B=300:=by unfold doE;rw[if_pos HP.o]
  exact⟨HU.o.step a4 (fun j hj e=>by have:=m1.o;omega),.inl ⟨by rw[hd];decide,by rw[hd];rfl⟩⟩
 ·have HP:=V e7
  go_upto_region 3 with fail
  have hA:U0 w w.drew:=(Upd.refl _ w).drew
  clear r0 r1 b0 b1 b2 s0 s1 d3 d0
  go_cut [6] from 17 to 24 (fun v6 wx=> ∃t6 a9 c9,v6=.pointer (some ⟨t6,0,none⟩)∧wx.heap[t6]?=some (.cells #[.int .u64 B.epoch,.slice a9 l.length c9] 62 (0,0))∧ValRow wx w.heap.size C (.slice a9 l.length c9) l∧RowC wx C∧U0 w wx∧w.heap.size≤t6)
  case first=>
   refine Zj 8 (fun W=>U0 w W) [false,false,false,false,false,false,false,false,false] rfl (by kernel_rfl) ?_
   generalize w.drew=wd at hA ⊢
   refine tpZ 0 (.pointer (some ⟨bb,0,none⟩)) hA ?_
   simp only[zz]
   refine tqZ 1 (.int .u64 B.epoch) [] hA (fun w5 q1=>?_) ?_
   ·obtain⟨c0,c1,c2⟩:=Zk (kb q1 n0.o)
    go_simp
   simp only[zz]
   refine tpZ 3 (.pointer (some ⟨rb,1,none⟩)) hA ?_
   simp only[zz]
   refine tqZ 4 (.slice a l.length c) [] hA (fun w5 q1=>?_) ?_
   ·obtain⟨c0,c1⟩:=Zg (kb q1 i0.o)
    go_simp
   simp only[zz]
   refine Ya (i:=2) (j:=7) rfl rfl (by kernel_rfl) rfl rfl (fun K hK=>?_) (fun K hK=>?_)
   ·have a5:=V hK
    clear hK
    go_step
    have he:(wd.alloc (.cells #[] 164)).heap[wd.heap.size]?=some (.cells #[] 164 (0,0)):=Zc rfl
    refine a5.o _ _ (hA.alloc (.cells #[] 164)) ?_
    clear a5
    simp only[zz]
    have d1:w.heap.size≤wd.heap.size:=hA.size
    replace hA:=hA.alloc (.cells #[] 164)
    generalize wd.heap.size=eb at he d1 ⊢
    generalize wd.alloc (.cells #[] 164)=c2 at he hA ⊢
    refine Ya (i:=5) (j:=7) rfl rfl (by kernel_rfl) rfl rfl (fun K hK=>?_) (fun K hK=>?_)
    ·obtain⟨a9,c9,w9,hr,b4,a4,c5⟩:=Zfb (ty:=60) (kc:=c) (B:=w.heap.size) he (HV.o.kept0 hA) (HC.o.kept hA n3Z) HL.o d1
     have a5:=V hK
     clear hK
     refine Lib.wp_append_run _ (.tmp 19) (.tmp 21) 60 60 rfl _ _ rfl rfl _ w9 hr ?_
     replace hA:=hA.step a4 (fun k hk e=>by omega)
     refine a5.o _ _ hA ?_
     clear a5 hr a4 he
     simp only[zz]
     refine tpZ 6 (.agg #[.int .u64 B.epoch,.slice a9 l.length c9]) hA ?_
     simp only[zz]
     refine doZ 7 (fun K a5=>?_)
     go_step
     have ht:(w9.alloc (.cells #[.int .u64 0,.slice none 0 0] 62)).heap[w9.heap.size]?=some (.cells #[.int .u64 0,.slice none 0 0] 62 (0,0)):=Zc rfl
     have a1: ∀j,(Value.slice a9 l.length c9).ownBlock=some j→j<w9.heap.size:=fun j e=>by obtain⟨L,_,h4,_⟩:=b4;exact(World.ownsRow.lt h4 j e).2
     replace b4:=b4.kept ((Upd.refl (fun _=>False) w9).alloc (.cells #[.int .u64 0,.slice none 0 0] 62)) n3Z n3Z
     replace c5:=c5.kept ((Upd.refl (fun _=>False) w9).alloc (.cells #[.int .u64 0,.slice none 0 0] 62)) n3Z
     refine a5.o _ _ (hA.alloc (.cells #[.int .u64 0,.slice none 0 0] 62)) ?_
     clear a5
     simp only[zz]
     have a7:w.heap.size≤w9.heap.size:=hA.size
     replace hA:=hA.alloc (.cells #[.int .u64 0,.slice none 0 0] 62)
     generalize w9.heap.size=tb at ht a7 a1 ⊢
     generalize w9.alloc (.cells #[.int .u64 0,.slice none 0 0] 62)=c4 at ht hA b4 c5 ⊢
     refine tlZ 8 ?_
     simp only[List.drop]
     have l9:c4.frozen? ⟨tb,0,none⟩=false:=Zb ht
     have i3:c4.frozen? ⟨tb,1,none⟩=false:=Zb ht
     obtain⟨t0,t1⟩:=Zg ht
     have HT:=V ht;have e9:=V b4;have d6:=V c5;have g4:=V hA;have e5:=V a7;have h3:=V (show∀j,(Value.slice a9 l.length c9).ownBlock=some j→j≠tb from fun j e=>by have:=a1 j e;omega)
     clear ht b4 c5 hA a7 a1
     go_wp2
     go_meet
     case rel=>
      have b3:Upd (fun j=>j=tb) c4 ((c4.setCell ⟨tb,0,none⟩ (.int .u64 B.epoch)).setCell ⟨tb,1,none⟩ (.slice a9 l.length c9)):=(Zd c4 tb 0 _).trans (Zd _ tb 1 _)
      refine⟨tb,a9,c9,rfl,by simpa using Ze (i:=1) (v:=.slice a9 l.length c9) (Ze (i:=0) (v:=.int .u64 B.epoch) HT.o),e9.o.kept b3 (fun j hj e=>h3.o j hj e) (fun j hj e=>?_),d6.o.kept b3 (fun j hj e=>?_),g4.o.step b3 (fun j hj e=>by have:=e5.o;omega),e5.o⟩
      all_goals
       obtain⟨e4,q9⟩:=d6.o j hj
       rw[e,HT.o] at q9
       injection q9 with q9
       injection q9 with _ q9
       exact absurd q9 (by decide)
    ·have a5:=V hK
     clear hK
     go_step
     have ht:(c2.alloc (.cells #[.int .u64 0,.slice none 0 0] 62)).heap[c2.heap.size]?=some (.cells #[.int .u64 0,.slice none 0 0] 62 (0,0)):=Zc rfl
     have f2:c2.heap.size≠eb:=fun e=>by have:=Za he;omega
     replace he:=(kb ((Upd.refl (fun _=>False) c2).alloc (.cells #[.int .u64 0,.slice none 0 0] 62)) he)
     refine a5.o _ _ (hA.alloc (.cells #[.int .u64 0,.slice none 0 0] 62)) ?_
     clear a5
     simp only[zz]
     have a7:w.heap.size≤c2.heap.size:=hA.size
     replace hA:=hA.alloc (.cells #[.int .u64 0,.slice none 0 0] 62)
     generalize c2.heap.size=tb at ht a7 f2 ⊢
     generalize c2.alloc (.cells #[.int .u64 0,.slice none 0 0] 62)=c3 at ht hA he ⊢
     refine Za0 (i:=5) rfl (by kernel_rfl) rfl (fun K hK=>?_)
     obtain⟨a9,c9,w9,hr,b4,a4,c5⟩:=Zfb (ty:=60) (kc:=c) (B:=w.heap.size) he (HV.o.kept0 hA) (HC.o.kept hA n3Z) HL.o d1
     have a5:=V hK
     clear hK
     refine Lib.wp_append_run _ (.tmp 19) (.tmp 21) 60 60 rfl _ _ rfl rfl _ w9 hr ?_
     replace hA:=hA.step a4 (fun k hk e=>by omega)
     have a1: ∀j,(Value.slice a9 l.length c9).ownBlock=some j→j≠tb:=fun j e e2=>by
      subst e2
      obtain⟨e4,q9⟩:=b4.block164 e
      rw[(a4.block _ (Za ht) (fun e=>f2 e)).trans ht] at q9
      injection q9 with q9
      injection q9 with _ q9
      exact absurd q9 (by decide)
     replace ht:=(a4.block _ (Za ht) (fun e=>f2 e)).trans ht
     refine a5.o _ _ hA ?_
     clear a5 hr a4 he
     simp only[zz]
     refine tpZ 6 (.agg #[.int .u64 B.epoch,.slice a9 l.length c9]) hA ?_
     simp only[zz]
     refine tlZ 8 ?_
     simp only[List.drop]
     have l9:w9.frozen? ⟨tb,0,none⟩=false:=Zb ht
     have i3:w9.frozen? ⟨tb,1,none⟩=false:=Zb ht
     obtain⟨t0,t1⟩:=Zg ht
     have HT:=V ht;have e9:=V b4;have d6:=V c5;have g4:=V hA;have e5:=V a7;have h3:=V (show∀j,(Value.slice a9 l.length c9).ownBlock=some j→j≠tb from a1)
     clear ht b4 c5 hA a7 a1
     go_wp2
     go_meet
     case rel=>
      have b3:Upd (fun j=>j=tb) w9 ((w9.setCell ⟨tb,0,none⟩ (.int .u64 B.epoch)).setCell ⟨tb,1,none⟩ (.slice a9 l.length c9)):=(Zd w9 tb 0 _).trans (Zd _ tb 1 _)
      refine⟨tb,a9,c9,rfl,by simpa using Ze (i:=1) (v:=.slice a9 l.length c9) (Ze (i:=0) (v:=.int .u64 B.epoch) HT.o),e9.o.kept b3 (fun j hj e=>h3.o j hj e) (fun j hj e=>?_),d6.o.kept b3 (fun j hj e=>?_),g4.o.step b3 (fun j hj e=>by have:=e5.o;omega),e5.o⟩
      all_goals
       obtain⟨e4,q9⟩:=d6.o j hj
       rw[e,HT.o] at q9
       injection q9 with q9
       injection q9 with _ q9
       exact absurd q9 (by decide)
   ·have a5:=V hK
    clear hK
    go_step
    have ht:(wd.alloc (.cells #[.int .u64 0,.slice none 0 0] 62)).heap[wd.heap.size]?=some (.cells #[.int .u64 0,.slice none 0 0] 62 (0,0)):=Zc rfl
    refine a5.o _ _ (hA.alloc (.cells #[.int .u64 0,.slice none 0 0] 62)) ?_
    clear a5
    simp only[zz]
    have a7:w.heap.size≤wd.heap.size:=hA.size
    replace hA:=hA.alloc (.cells #[.int .u64 0,.slice none 0 0] 62)
    generalize wd.heap.size=tb at ht a7 ⊢
    generalize wd.alloc (.cells #[.int .u64 0,.slice none 0 0] 62)=c1 at ht hA ⊢
    have o2:=ht
    refine doZ 2 (fun K a5=>?_)
    go_step
    have he:(c1.alloc (.cells #[] 164)).heap[c1.heap.size]?=some (.cells #[] 164 (0,0)):=Zc rfl
    replace ht:=(kb ((Upd.refl (fun _=>False) c1).alloc (.cells #[] 164)) ht)
    have f2:tb≠c1.heap.size:=fun e=>by have:=Za o2;omega
    refine a5.o _ _ (hA.alloc (.cells #[] 164)) ?_
    clear a5
    simp only[zz]
    have d1:w.heap.size≤c1.heap.size:=hA.size
    replace hA:=hA.alloc (.cells #[] 164)
    generalize c1.heap.size=eb at he d1 f2 ⊢
    generalize c1.alloc (.cells #[] 164)=c2 at he hA ht ⊢
    refine Za0 (i:=5) rfl (by kernel_rfl) rfl (fun K hK=>?_)
    obtain⟨a9,c9,w9,hr,b4,a4,c5⟩:=Zfb (ty:=60) (kc:=c) (B:=w.heap.size) he (HV.o.kept0 hA) (HC.o.kept hA n3Z) HL.o d1
    have a5:=V hK
    clear hK
    refine Lib.wp_append_run _ (.tmp 19) (.tmp 21) 60 60 rfl _ _ rfl rfl _ w9 hr ?_
    replace hA:=hA.step a4 (fun k hk e=>by omega)
    have a1: ∀j,(Value.slice a9 l.length c9).ownBlock=some j→j≠tb:=fun j e e2=>by
     subst e2
     obtain⟨e4,q9⟩:=b4.block164 e
     rw[(a4.block _ (Za ht) (fun e=>f2 e)).trans ht] at q9
     injection q9 with q9
     injection q9 with _ q9
     exact absurd q9 (by decide)
    replace ht:=(a4.block _ (Za ht) (fun e=>f2 e)).trans ht
    refine a5.o _ _ hA ?_
    clear a5 hr a4 he
    simp only[zz]
    refine tpZ 6 (.agg #[.int .u64 B.epoch,.slice a9 l.length c9]) hA ?_
    simp only[zz]
    refine tlZ 8 ?_
    simp only[List.drop]
    have l9:w9.frozen? ⟨tb,0,none⟩=false:=Zb ht
    have i3:w9.frozen? ⟨tb,1,none⟩=false:=Zb ht
    obtain⟨t0,t1⟩:=Zg ht
    have HT:=V ht;have e9:=V b4;have d6:=V c5;have g4:=V hA;have e5:=V a7;have h3:=V (show∀j,(Value.slice a9 l.length c9).ownBlock=some j→j≠tb from a1)
    clear ht b4 c5 hA a7 a1
    go_wp2
    go_meet
    case rel=>
     have b3:Upd (fun j=>j=tb) w9 ((w9.setCell ⟨tb,0,none⟩ (.int .u64 B.epoch)).setCell ⟨tb,1,none⟩ (.slice a9 l.length c9)):=(Zd w9 tb 0 _).trans (Zd _ tb 1 _)
     refine⟨tb,a9,c9,rfl,by simpa using Ze (i:=1) (v:=.slice a9 l.length c9) (Ze (i:=0) (v:=.int .u64 B.epoch) HT.o),e9.o.kept b3 (fun j hj e=>h3.o j hj e) (fun j hj e=>?_),d6.o.kept b3 (fun j hj e=>?_),g4.o.step b3 (fun j hj e=>by have:=e5.o;omega),e5.o⟩
     all_goals
      obtain⟨e4,q9⟩:=d6.o j hj
      rw[e,HT.o] at q9
      injection q9 with q9
      injection q9 with _ q9
      exact absurd q9 (by decide)
  case rest=>
   obtain⟨t6,a9,c9,rfl,j4,b4,c5,i5,l6⟩:=hcut
   have n8:=V j4;have e9:=V b4;have d6:=V c5;have o5:=V i5;have l3:=V l6
   have g7:=kb i5 n0.o
   obtain⟨b0,b1,b2⟩:=Zk g7
   have e6:RdoAt w C B l t6 0 wc:=⟨⟨a9,c9,j4,b4⟩,c5,i5,rfl⟩
   have h8:=V e6
   have d5:=V (show w0.heap.size≤a0 from m1.o)
   clear j4 b4 c5 i5 l6 g7 e6 n8 e9 d6
   go_upto_block 0 with fail
   go_upto_region 5 with fail
   go_loopg [27] B.sets.length (fun gk i wr=> ∃k:Nat,k≤B.sets.length∧gk=B.sets.length - k∧i=.int .i64 k∧RdoAt w C B l t6 k wr)
   case atStart=>exact⟨0,Nat.zero_le _,rfl,rfl,h8.o⟩
   case round=>
    obtain⟨k,hk,rfl,rfl,n3⟩:=hrel
    have b8:=V n3
    clear n3
    by_cases n4:k<B.sets.length
    ·have n6:(k:Int)<B.sets.length:=by omega
     obtain⟨x,j0⟩: ∃x,B.sets[k]?=some x:=⟨_,List.getElem?_eq_getElem n4⟩
     obtain⟨nm,xw,xi,xo,xn⟩:=x
     obtain⟨_,_,_,sb,so,rfl,o0,oa,oc,na,nc,k0,k1,k2,k3,k4,k5,k6,k7,k8⟩:=(HS.o.kept b8.o.upd n3Z n3Z) k _ j0
     simp only at k0 k1 k2 k3 k4 k5 k6 k7 k8
     have f9:=V j0;have o1:=V k5;have o4:=V k6;have o3:=V k7
     clear j0 k5 k6 k7 k8 o0
     go_upto_region 7 with fail
     obtain⟨wa,n2,g0,i2⟩:=nb wr (.cells #[.string nm,.bool xw,.bool xi,.slice oa xo.length oc,.slice na xn.length nc] 73)
     rw[←n2]
     obtain⟨xb,f5⟩: ∃xb,xb=wr.heap.size:=⟨_,rfl⟩
     rw[←f5] at i2 ⊢
     have h0:=kb (b8.o.upd.trans g0) i0.o
     obtain⟨r0,r1⟩:=Zg h0
     obtain⟨x0,x1,x2,x3,x4⟩:=Zu i2
     have l5:=V (Zna (c:=c) (s:=nm) wa (HV.o.kept0 (b8.o.upd.trans g0)) (by have:=m0.o;omega))
     have m3:=V (b8.o.upd.trans g0);have l8:=V i2;have g6:=V g0
     clear n2 g0 i2 f5 h0 k0 k1 k2 k3 k4
     go_wp2_with (go_at_call 32;fail)
     refine l5.o.mono ?_
     rintro e wd ⟨v,rfl,g1,g2⟩
     obtain⟨bo,j1⟩: ∃bo,bo=(l.get nm).isSome:=⟨_,rfl⟩
     obtain⟨vo,b5⟩: ∃vo,vo=(l.get nm).getD []:=⟨_,rfl⟩
     rw[←b5] at g1
     rw[←j1]
     obtain⟨va,vc,rfl,_⟩:=g1.slice
     have m8:Bytes vo:=by
      rw[b5]
      cases e:l.get nm with
      |none=>exact fun y hy=>by simp at hy
      |some u=>exact n5.o _ ((KV.get_some m6.o).1 e)
     have m9:=Zkn m8 o3.o
     have d4:=g6.o.trans g2
     have n7:=Yw g1.bytesIn
     have n9:=Yw ((o1.o.kept d4 n3Z).bytesIn)
     have l4:=kb g2 l8.o
     obtain⟨x0,x1,x2,x3,x4⟩:=Zu l4
     obtain⟨a9,c9,e8,f6⟩:=b8.o.out
     have j5:=kb d4 e8
     obtain⟨t0,t1⟩:=Zg j5
     have m7:=f6.kept d4 n3Z n3Z
     have j6:=b8.o.row.kept d4 n3Z
     have l7:=KV.length_withs (B.sets.take k) m6.o
     have i4:=V (Zq4 (x:=⟨nm,xw,xi,xo,xn⟩) (oa:=oa) (oc:=oc) (c:=c9) wd m7.valsAt (by have h1:=l1.o;have h2:=m0.o;rw[List.length_take] at l7;omega) (o4.o.kept d4 n3Z) j6)
     have b9:=V (m3.o.trans g2);have m4:=V j5;have m5:=V j6;have i8:=V m9;have f7:=V j1;have i1:=V b5
     have d7:=kb (m3.o.trans g2) i0.o
     obtain⟨r0,r1⟩:=Zg d7
     clear g1 g2 m8 m9 d4 l4 e8 f6 j5 m7 j6 l7 j1 b5 l5 d7 l8 g6
     simp only[]
     go_upto_region 8 with fail
     cases xw with
     |true=>
      cases hbo2:bo with
      |true=>
       subst hbo2
       by_cases b5:vo=xo
       ·have e2:((strOfNums vo).toList == (strOfNums xo).toList)=true:=by rw[i8.o];exact decide_eq_true b5
        have c6:=V b5
        clear b5
        have b7:(SetV.thought l ⟨nm,true,xi,xo,xn⟩)=true:=by unfold SetV.thought;rw[←f7.o,←i1.o,decide_eq_true c6.o];rfl
        have j3:=V b7
        clear b7
        go_wp2_with (go_at_call 192;fail)
        refine i4.o.mono ?_
        rintro e we ⟨a8,c8,rfl,g5,b3⟩
        have d8:ValRow we w.heap.size C (.slice a8 ((l.withs (B.sets.take k)).with ⟨nm,true,xi,xo,xn⟩).length c8) ((l.withs (B.sets.take k)).with ⟨nm,true,xi,xo,xn⟩):=g5.low b9.o.size
        have e1:=kb b3 m4.o
        have g8:=m5.o.kept b3 n3Z
        have i3:we.frozen? ⟨t6,1,none⟩=false:=Zb e1
        obtain⟨y0,y1⟩:=Zg e1
        have h9:=V d8;have f0:=V e1;have h7:=V g8;have j9:=V (b9.o.trans b3)
        clear g5 b3 d8 e1 g8 i4
        simp only[]
        go_upto_region 11 with fail
        obtain⟨wf,e0⟩: ∃wf,wf=we.setCell ⟨t6,1,none⟩ (.slice a8 ((l.withs (B.sets.take k)).with ⟨nm,true,xi,xo,xn⟩).length c8):=⟨_,rfl⟩
        refine(?_:Code.wp _ _ _ _ (we.setCell ⟨t6,1,none⟩ (.slice a8 ((l.withs (B.sets.take k)).with ⟨nm,true,xi,xo,xn⟩).length c8)))
        rw[←e0]
        have d9:Upd (fun j=>j=t6) we wf:=by rw[e0];exact Zd we t6 1 _
        have g9:wf.heap[t6]?=some (.cells #[.int .u64 B.epoch,.slice a8 ((l.withs (B.sets.take k)).with ⟨nm,true,xi,xo,xn⟩).length c8] 62 (0,0)):=by
         rw[e0]
         have:=Ze (i:=1) (v:=.slice a8 ((l.withs (B.sets.take k)).with ⟨nm,true,xi,xo,xn⟩).length c8) f0.o
         simpa using this
        have f1: ∀j,C j→ ¬j=t6:=fun j hj e=>by
         obtain⟨e4,q9⟩:=h7.o j hj
         rw[e,f0.o] at q9
         injection q9 with q9
         injection q9 with _ q9
         exact absurd q9 (by decide)
        have f3:=h9.o.kept d9 (fun j hj e=>by
         obtain⟨e4,q9⟩:=h9.o.block164 hj
         rw[e,f0.o] at q9
         injection q9 with q9
         injection q9 with _ q9
         exact absurd q9 (by decide)) f1
        have g3:=h7.o.kept d9 f1
        have e3:B.sets.take (k+1)=B.sets.take k++[⟨nm,true,xi,xo,xn⟩]:=by
         obtain⟨h1,h2⟩:=List.getElem?_eq_some_iff.1 f9.o
         rw[List.take_succ_eq_append_getElem h1,h2]
        have e6:RdoAt w C B l t6 (k+1) wf:=⟨⟨a8,c8,by rw[e3,KV.withs_snoc];exact g9,by rw[e3,KV.withs_snoc];exact f3⟩,g3,j9.o.step d9 (fun j hj e=>by have:=l3.o;omega),by rw[e3,List.all_append,b8.o.th,Bool.true_and];simpa using j3.o⟩
        have h8:=V e6
        have j8:IntKind.i64.wrap ((k:Int)+1)=(k:Int)+1:=by rw[IntKind.wrap_i64];have:=l1.o;omega
        clear e0 d9 g9 f1 f3 g3 e3 e6
        go_wp2
        go_roundg (B.sets.length - (k+1))
        case measure=>omega
        case rel=>exact⟨k+1,by omega,rfl,by go_num,h8.o⟩
       ·have e2:((strOfNums vo).toList == (strOfNums xo).toList)=false:=by rw[i8.o];exact decide_eq_false b5
        have c6:=V b5
        clear b5
        have b7:(SetV.thought l ⟨nm,true,xi,xo,xn⟩)=false:=by unfold SetV.thought;rw[←f7.o,←i1.o,decide_eq_false c6.o,Bool.and_false]
        have hd:doE ev l B=301:=by
         unfold doE
         rw[if_neg (show¬B.epoch<ev by have:=HP.o;omega),if_neg (fun h=>by
          have h1:=List.all_eq_true.1 h _ (List.mem_of_getElem? f9.o)
          rw[b7] at h1
          cases h1)]
        have HD:=V hd
        have a2:=kb b9.o b6.o
        obtain⟨s0,s1⟩:=Zg a2
        have d3:wd.frozen? ⟨a0,0,none⟩=false:=Zb a2
        have d0:wd.frozen? ⟨a0,1,none⟩=false:=Zb a2
        have a6:=V a2
        clear b7 hd a2
        go_wp2
        obtain⟨w9,a3⟩: ∃w9,w9=(wd.setCell ⟨a0,0,none⟩ (.int .u64 ev)).setCell ⟨a0,1,none⟩ (.slice a l.length c):=⟨_,rfl⟩
        rw[←a3]
        have a4:Upd (fun j=>j=a0) wd w9:=by rw[a3];exact(Zd wd a0 0 _).trans (Zd _ a0 1 _)
        have d2:w9.heap[a0]?=some (.cells #[.int .u64 ev,.slice a l.length c] 62 (0,0)):=by
         rw[a3]
         have:=Ze (i:=1) (v:=.slice a l.length c) (Ze (i:=0) (v:=.int .u64 ev) a6.o)
         simpa using this
        have c7:=run_loadVar_mid (P:=Tryz.prog) w9 a0 0 62 [.int .u64 ev,.slice a l.length c] _ (Zh d2) Tryz.underlying62 rfl (by rw[Zaj];rfl)
        refine bodyPost_ret (Zl Tryz.results166 rfl c7) rfl ?_
        exact⟨(HU.o.trans b9.o).step a4 (fun j hj e=>by have:=d5.o;omega),.inl ⟨by rw[HD.o];decide,by rw[HD.o];rfl⟩⟩
      |false=>
       subst hbo2
       have b7:(SetV.thought l ⟨nm,true,xi,xo,xn⟩)=false:=by unfold SetV.thought;rw[←f7.o];rfl
       have hd:doE ev l B=301:=by
        unfold doE
        rw[if_neg (show¬B.epoch<ev by have:=HP.o;omega),if_neg (fun h=>by
         have h1:=List.all_eq_true.1 h _ (List.mem_of_getElem? f9.o)
         rw[b7] at h1
         cases h1)]
       have HD:=V hd
       have a2:=kb b9.o b6.o
       obtain⟨s0,s1⟩:=Zg a2
       have d3:wd.frozen? ⟨a0,0,none⟩=false:=Zb a2
       have d0:wd.frozen? ⟨a0,1,none⟩=false:=Zb a2
       have a6:=V a2
       clear b7 hd a2
       go_wp2
       obtain⟨w9,a3⟩: ∃w9,w9=(wd.setCell ⟨a0,0,none⟩ (.int .u64 ev)).setCell ⟨a0,1,none⟩ (.slice a l.length c):=⟨_,rfl⟩
       rw[←a3]
       have a4:Upd (fun j=>j=a0) wd w9:=by rw[a3];exact(Zd wd a0 0 _).trans (Zd _ a0 1 _)
       have d2:w9.heap[a0]?=some (.cells #[.int .u64 ev,.slice a l.length c] 62 (0,0)):=by
        rw[a3]
        have:=Ze (i:=1) (v:=.slice a l.length c) (Ze (i:=0) (v:=.int .u64 ev) a6.o)
        simpa using this
       have c7:=run_loadVar_mid (P:=Tryz.prog) w9 a0 0 62 [.int .u64 ev,.slice a l.length c] _ (Zh d2) Tryz.underlying62 rfl (by rw[Zaj];rfl)
       refine bodyPost_ret (Zl Tryz.results166 rfl c7) rfl ?_
       exact⟨(HU.o.trans b9.o).step a4 (fun j hj e=>by have:=d5.o;omega),.inl ⟨by rw[HD.o];decide,by rw[HD.o];rfl⟩⟩
     |false=>
      cases hbo2:bo with
      |true=>
       subst hbo2
       have b7:(SetV.thought l ⟨nm,false,xi,xo,xn⟩)=false:=by unfold SetV.thought;rw[←f7.o];rfl
       have hd:doE ev l B=301:=by
        unfold doE
        rw[if_neg (show¬B.epoch<ev by have:=HP.o;omega),if_neg (fun h=>by
         have h1:=List.all_eq_true.1 h _ (List.mem_of_getElem? f9.o)
         rw[b7] at h1
         cases h1)]
       have HD:=V hd
       have a2:=kb b9.o b6.o
       obtain⟨s0,s1⟩:=Zg a2
       have d3:wd.frozen? ⟨a0,0,none⟩=false:=Zb a2
       have d0:wd.frozen? ⟨a0,1,none⟩=false:=Zb a2
       have a6:=V a2
       clear b7 hd a2
       go_wp2
       obtain⟨w9,a3⟩: ∃w9,w9=(wd.setCell ⟨a0,0,none⟩ (.int .u64 ev)).setCell ⟨a0,1,none⟩ (.slice a l.length c):=⟨_,rfl⟩
       rw[←a3]
       have a4:Upd (fun j=>j=a0) wd w9:=by rw[a3];exact(Zd wd a0 0 _).trans (Zd _ a0 1 _)
       have d2:w9.heap[a0]?=some (.cells #[.int .u64 ev,.slice a l.length c] 62 (0,0)):=by
        rw[a3]
        have:=Ze (i:=1) (v:=.slice a l.length c) (Ze (i:=0) (v:=.int .u64 ev) a6.o)
        simpa using this
       have c7:=run_loadVar_mid (P:=Tryz.prog) w9 a0 0 62 [.int .u64 ev,.slice a l.length c] _ (Zh d2) Tryz.underlying62 rfl (by rw[Zaj];rfl)
       refine bodyPost_ret (Zl Tryz.results166 rfl c7) rfl ?_
       exact⟨(HU.o.trans b9.o).step a4 (fun j hj e=>by have:=d5.o;omega),.inl ⟨by rw[HD.o];decide,by rw[HD.o];rfl⟩⟩
      |false=>
       subst hbo2
       by_cases b5:vo=xo
       ·have e2:((strOfNums vo).toList == (strOfNums xo).toList)=true:=by rw[i8.o];exact decide_eq_true b5
        have c6:=V b5
        clear b5
        have b7:(SetV.thought l ⟨nm,false,xi,xo,xn⟩)=true:=by unfold SetV.thought;rw[←f7.o,←i1.o,decide_eq_true c6.o];rfl
        have j3:=V b7
        clear b7
        go_wp2_with (go_at_call 192;fail)
        refine i4.o.mono ?_
        rintro e we ⟨a8,c8,rfl,g5,b3⟩
        have d8:ValRow we w.heap.size C (.slice a8 ((l.withs (B.sets.take k)).with ⟨nm,false,xi,xo,xn⟩).length c8) ((l.withs (B.sets.take k)).with ⟨nm,false,xi,xo,xn⟩):=g5.low b9.o.size
        have e1:=kb b3 m4.o
        have g8:=m5.o.kept b3 n3Z
        have i3:we.frozen? ⟨t6,1,none⟩=false:=Zb e1
        obtain⟨y0,y1⟩:=Zg e1
        have h9:=V d8;have f0:=V e1;have h7:=V g8;have j9:=V (b9.o.trans b3)
        clear g5 b3 d8 e1 g8 i4
        simp only[]
        go_upto_region 11 with fail
        obtain⟨wf,e0⟩: ∃wf,wf=we.setCell ⟨t6,1,none⟩ (.slice a8 ((l.withs (B.sets.take k)).with ⟨nm,false,xi,xo,xn⟩).length c8):=⟨_,rfl⟩
        refine(?_:Code.wp _ _ _ _ (we.setCell ⟨t6,1,none⟩ (.slice a8 ((l.withs (B.sets.take k)).with ⟨nm,false,xi,xo,xn⟩).length c8)))
        rw[←e0]
        have d9:Upd (fun j=>j=t6) we wf:=by rw[e0];exact Zd we t6 1 _
        have g9:wf.heap[t6]?=some (.cells #[.int .u64 B.epoch,.slice a8 ((l.withs (B.sets.take k)).with ⟨nm,false,xi,xo,xn⟩).length c8] 62 (0,0)):=by
         rw[e0]
         have:=Ze (i:=1) (v:=.slice a8 ((l.withs (B.sets.take k)).with ⟨nm,false,xi,xo,xn⟩).length c8) f0.o
         simpa using this
        have f1: ∀j,C j→ ¬j=t6:=fun j hj e=>by
         obtain⟨e4,q9⟩:=h7.o j hj
         rw[e,f0.o] at q9
         injection q9 with q9
         injection q9 with _ q9
         exact absurd q9 (by decide)
        have f3:=h9.o.kept d9 (fun j hj e=>by
         obtain⟨e4,q9⟩:=h9.o.block164 hj
         rw[e,f0.o] at q9
         injection q9 with q9
         injection q9 with _ q9
         exact absurd q9 (by decide)) f1
        have g3:=h7.o.kept d9 f1
        have e3:B.sets.take (k+1)=B.sets.take k++[⟨nm,false,xi,xo,xn⟩]:=by
         obtain⟨h1,h2⟩:=List.getElem?_eq_some_iff.1 f9.o
         rw[List.take_succ_eq_append_getElem h1,h2]
        have e6:RdoAt w C B l t6 (k+1) wf:=⟨⟨a8,c8,by rw[e3,KV.withs_snoc];exact g9,by rw[e3,KV.withs_snoc];exact f3⟩,g3,j9.o.step d9 (fun j hj e=>by have:=l3.o;omega),by rw[e3,List.all_append,b8.o.th,Bool.true_and];simpa using j3.o⟩
        have h8:=V e6
        have j8:IntKind.i64.wrap ((k:Int)+1)=(k:Int)+1:=by rw[IntKind.wrap_i64];have:=l1.o;omega
        clear e0 d9 g9 f1 f3 g3 e3 e6
        go_wp2
        go_roundg (B.sets.length - (k+1))
        case measure=>omega
        case rel=>exact⟨k+1,by omega,rfl,by go_num,h8.o⟩
       ·have e2:((strOfNums vo).toList == (strOfNums xo).toList)=false:=by rw[i8.o];exact decide_eq_false b5
        have c6:=V b5
        clear b5
        have b7:(SetV.thought l ⟨nm,false,xi,xo,xn⟩)=false:=by unfold SetV.thought;rw[←f7.o,←i1.o,decide_eq_false c6.o,Bool.and_false]
        have hd:doE ev l B=301:=by
         unfold doE
         rw[if_neg (show¬B.epoch<ev by have:=HP.o;omega),if_neg (fun h=>by
          have h1:=List.all_eq_true.1 h _ (List.mem_of_getElem? f9.o)
          rw[b7] at h1
          cases h1)]
        have HD:=V hd
        have a2:=kb b9.o b6.o
        obtain⟨s0,s1⟩:=Zg a2
        have d3:wd.frozen? ⟨a0,0,none⟩=false:=Zb a2
        have d0:wd.frozen? ⟨a0,1,none⟩=false:=Zb a2
        have a6:=V a2
        clear b7 hd a2
        go_wp2
        obtain⟨w9,a3⟩: ∃w9,w9=(wd.setCell ⟨a0,0,none⟩ (.int .u64 ev)).setCell ⟨a0,1,none⟩ (.slice a l.length c):=⟨_,rfl⟩
        rw[←a3]
        have a4:Upd (fun j=>j=a0) wd w9:=by rw[a3];exact(Zd wd a0 0 _).trans (Zd _ a0 1 _)
        have d2:w9.heap[a0]?=some (.cells #[.int .u64 ev,.slice a l.length c] 62 (0,0)):=by
         rw[a3]
         have:=Ze (i:=1) (v:=.slice a l.length c) (Ze (i:=0) (v:=.int .u64 ev) a6.o)
         simpa using this
        have c7:=run_loadVar_mid (P:=Tryz.prog) w9 a0 0 62 [.int .u64 ev,.slice a l.length c] _ (Zh d2) Tryz.underlying62 rfl (by rw[Zaj];rfl)
        refine bodyPost_ret (Zl Tryz.results166 rfl c7) rfl ?_
        exact⟨(HU.o.trans b9.o).step a4 (fun j hj e=>by have:=d5.o;omega),.inl ⟨by rw[HD.o];decide,by rw[HD.o];rfl⟩⟩
    ·obtain rfl:B.sets.length=k:=by omega
     obtain⟨a9,c9,e8,f6⟩:=b8.o.out
     have k9:=b8.o.th
     rw[List.take_length] at e8 f6 k9
     obtain⟨LL,j7⟩: ∃LL,LL=l.withs B.sets:=⟨_,rfl⟩
     have l0:=V j7
     rw[←j7] at e8 f6
     obtain⟨t0,t1⟩:=Zg e8
     have a2:=kb b8.o.upd b6.o
     have d7:=kb b8.o.upd i0.o
     obtain⟨r0,r1⟩:=Zg d7
     obtain⟨s0,s1⟩:=Zg a2
     have d3:wr.frozen? ⟨a0,0,none⟩=false:=Zb a2
     have d0:wr.frozen? ⟨a0,1,none⟩=false:=Zb a2
     have a6:=V a2;have m2:=V f6;have n1:=V k9;have b9:=V b8.o.upd
     have o6:=V (show t6≠a0 by have:=l3.o;have:=Za b6.o;omega)
     have d6:=V b8.o.row
     clear e8 f6 k9 a2 d7 j7 b8
     by_cases i6:48<LL.length
     ·have j2:(LL.length:Int) > 48:=by omega
      have hd:doE ev l B=6:=by
       unfold doE
       rw[if_neg (show¬B.epoch<ev by have:=HP.o;omega),if_pos n1.o,←l0.o,if_pos i6]
      have HD:=V hd
      clear hd i6
      go_wp2
      obtain⟨w9,a3⟩: ∃w9,w9=(wr.setCell ⟨a0,0,none⟩ (.int .u64 ev)).setCell ⟨a0,1,none⟩ (.slice a l.length c):=⟨_,rfl⟩
      rw[←a3]
      have a4:Upd (fun j=>j=a0) wr w9:=by rw[a3];exact(Zd wr a0 0 _).trans (Zd _ a0 1 _)
      have d2:w9.heap[a0]?=some (.cells #[.int .u64 ev,.slice a l.length c] 62 (0,0)):=by
       rw[a3]
       have:=Ze (i:=1) (v:=.slice a l.length c) (Ze (i:=0) (v:=.int .u64 ev) a6.o)
       simpa using this
      have c7:=run_loadVar_mid (P:=Tryz.prog) w9 a0 0 62 [.int .u64 ev,.slice a l.length c] _ (Zh d2) Tryz.underlying62 rfl (by rw[Zaj];rfl)
      refine bodyPost_ret (Zl Tryz.results166 rfl c7) rfl ?_
      exact⟨(HU.o.trans b9.o).step a4 (fun j hj e=>by have:=d5.o;omega),.inl ⟨by rw[HD.o];decide,by rw[HD.o];rfl⟩⟩
     ·have j2: ¬(LL.length:Int) > 48:=by omega
      have hd:doE ev l B=0:=by
       unfold doE
       rw[if_neg (show¬B.epoch<ev by have:=HP.o;omega),if_pos n1.o,←l0.o,if_neg i6]
      have HD:=V hd
      clear hd i6
      go_wp2
      obtain⟨w9,a3⟩: ∃w9,w9=(wr.setCell ⟨a0,0,none⟩ (.int .u64 B.epoch)).setCell ⟨a0,1,none⟩ (.slice a9 LL.length c9):=⟨_,rfl⟩
      rw[←a3]
      have a4:Upd (fun j=>j=a0) wr w9:=by rw[a3];exact(Zd wr a0 0 _).trans (Zd _ a0 1 _)
      have d2:w9.heap[a0]?=some (.cells #[.int .u64 B.epoch,.slice a9 LL.length c9] 62 (0,0)):=by
       rw[a3]
       have:=Ze (i:=1) (v:=.slice a9 LL.length c9) (Ze (i:=0) (v:=.int .u64 B.epoch) a6.o)
       simpa using this
      have c7:=run_loadVar_mid (P:=Tryz.prog) w9 a0 0 62 [.int .u64 B.epoch,.slice a9 LL.length c9] _ (Zh d2) Tryz.underlying62 rfl (by rw[Zaj];rfl)
      refine bodyPost_ret (Zl Tryz.results166 rfl c7) rfl ?_
      have f3:=m2.o.kept a4 (fun j hj e=>by
       obtain⟨L,_,h4,_⟩:=m2.o
       have h5:=(World.ownsRow.lt h4 j hj).1
       have h6:=Za b6.o
       omega) (fun j hj e=>by
       obtain⟨e4,q9⟩:=d6.o j hj
       rw[e,a6.o] at q9
       injection q9 with q9
       injection q9 with _ q9
       exact absurd q9 (by decide))
      unfold RefDoAns
      rw[←l0.o]
      exact⟨(HU.o.trans b9.o).step a4 (fun j hj e=>by have:=d5.o;omega),.inr ⟨HD.o,a9,c9,rfl,f3.low HU.o.size⟩⟩
theorem Zts {g o:Nat}{v:Value}(h:w.cell? ⟨g,o,none⟩=some v):g<w.heap.size:=by
 rcases Nat.lt_or_ge g w.heap.size with h1 | h1
 ·exact h1
 ·simp[World.cell?,Array.getElem?_eq_none h1] at h
structure RwAt (w:World) (sb:Nat) (ev:Int) (C:Nat→Prop) (l:KV) (k:Nat) (W:World):Prop where
 out: ∃(a:Option Addr) (c:Nat),W.heap[sb]?=some (.cells #[.int .u64 ev,.bool false,.slice a k c] 56 (0,0))∧SetRow W w.heap.size C (.slice a k c) (Z7 ev (l.take k)).sets
 row:RowC W C
 upd:Upd (fun j=>j=sb) w W
theorem Zc9 (w0:World)(hV:ValsAt w0 C a l)(hl:l.Fine)(hC:RowC w0 C):
  Calls Tryz.prog 167 #[.agg #[.int .u64 ev,.slice a l.length c]] w0 fun e w'=> ∃a' c',e=.returned (.agg #[.int .u64 ev,.bool false,.slice a' l.length c'])∧SetRow w' w0.heap.size C (.slice a' l.length c') (Z7 ev l).sets∧RowC w' C∧U0 w0 w':=by
 obtain⟨w,hw⟩: ∃w,w=((w0.alloc (.cells #[.int .u64 ev,.slice a l.length c] 62)).alloc (.cells #[.int .u64 0,.bool false,.slice none 0 0] 56)).alloc (.cells #[.int .u64 ev,.bool false,.slice none 0 0] 56):=⟨_,rfl⟩
 have hu:U0 w0 w:=by rw[hw];exact(((Upd.refl _ w0).alloc _).alloc _).alloc _
 have b2:w.heap[w0.heap.size]?=some (.cells #[.int .u64 ev,.slice a l.length c] 62 (0,0)):=by rw[hw];exact(Zm (by simp<;> omega)).trans ((Zm (by simp)).trans (Zc rfl))
 have e1:w.heap[w0.heap.size+1]?=some (.cells #[.int .u64 0,.bool false,.slice none 0 0] 56 (0,0)):=by rw[hw];exact(Zm (by simp)).trans (Zc (by simp))
 have c6:w.heap[w0.heap.size+1+1]?=some (.cells #[.int .u64 ev,.bool false,.slice none 0 0] 56 (0,0)):=by rw[hw];exact Zc (by simp)
 obtain⟨rb,e2⟩: ∃x,x=w0.heap.size:=⟨_,rfl⟩
 obtain⟨a1,a9⟩: ∃x,x=w0.heap.size+1:=⟨_,rfl⟩
 obtain⟨sb,e0⟩: ∃x,x=w0.heap.size+1+1:=⟨_,rfl⟩
 rw[←e2] at b2
 rw[←a9] at e1
 rw[←e0] at c6
 have HC:=V (hC.kept hu n3Z);have HL:=V hl
 have h7:=V (show∀i p,l[i]?=some p→ ∃g v,a=some ⟨g,0,none⟩∧g<w0.heap.size∧w.cell? ⟨g,i * 2,none⟩=some (.string p.1)∧w.cell? ⟨g,i * 2+1,none⟩=some v∧BytesAt w C v p.2 from fun i p hp=>by
  obtain⟨g,v,e,h1,h2,h3⟩:=hV i p hp
  exact⟨g,v,e,Zts h1,Zo hu id h1,Zo hu id h2,h3.kept hu n3Z⟩)
 have HU:=V hu;have e8:=V b2;have a3:=V (show w0.heap.size≤sb∧w0.heap.size≤a1∧rb≠sb∧a1≠sb by omega);have b7:=V e1
 have f3:RwAt w sb ev C l 0 w:=⟨⟨none,0,c6,SetRow.nil _ _ _⟩,HC.o,Upd.refl _ _⟩
 have i4:=V f3
 have f6:=V (Za c6)
 obtain⟨r0,r1⟩:=Zg b2
 clear hV hC hl hu b2 c6 e1 f3
 go_enter Tryz.func167,Tryz.ntmps167
 go_upto_region 2 with fail
 rw[←hw,←e0,←a9,←e2]
 clear hw a9 e0 e2
 go_upto_block 0 with fail
 go_upto_region 3 with fail
 go_loopg [12] l.length (fun gk i wr=> ∃k:Nat,k≤l.length∧gk=l.length - k∧i=.int .i64 k∧RwAt w sb ev C l k wr)
 case atStart=>exact⟨0,Nat.zero_le _,rfl,rfl,i4.o⟩
 case round=>
  obtain⟨k,hk,rfl,rfl,hd⟩:=hrel
  have HD:=V hd
  obtain⟨la,lc,b0,b9⟩:=hd.out
  have f5:=V b0;have e6:=V b9
  by_cases g5:k<l.length
  ·have h4:(k:Int)<l.length:=by omega
   obtain⟨p,hp⟩: ∃p,l[k]?=some p:=⟨_,List.getElem?_eq_getElem g5⟩
   have HP:=V hp
   have h0:=V (HL.o.each p (List.mem_of_getElem? hp))
   obtain⟨g,v,rfl,i5,y0,y1,hb⟩:=h7.o k p hp
   have d6:g≠sb:=by have:=a3.o;omega
   have y0:=Zo hd.upd d6 y0
   have y1:=Zo hd.upd d6 y1
   have hb:=hb.kept hd.upd (fun j hj e=>by
    obtain⟨e3,q9⟩:=hd.row j hj
    rw[e,b0] at q9
    injection q9 with q9
    injection q9 with _ q9
    exact absurd q9 (by decide))
   obtain⟨va,vc,rfl,_⟩:=hb.slice
   have HB:=V hb
   have b2:=(hd.upd.block _ (Za e8.o) (fun e=>by have:=a3.o;omega)).trans e8.o
   have g9:=V b2
   obtain⟨q0,q1,q2⟩:=Zk b0
   clear hb hp hd b0 b9 d6 r0 r1 b2
   go_upto_region 5 with fail
   obtain⟨wa,g4,b3,d5⟩:=nb wr (.cells #[.string p.1,.slice va p.2.length vc] 164)
   rw[←g4]
   obtain⟨vb,g0⟩: ∃vb,vb=wr.heap.size:=⟨_,rfl⟩
   rw[←g0] at d5 ⊢
   obtain⟨z0,z1⟩:=Zg d5
   have a7:=V (kb b3 f5.o);have c5:=V (e6.o.kept b3 n3Z n3Z);have g7:=V (HB.o.kept b3 n3Z);have f4:=V (HD.o.row.kept b3 n3Z)
   have d4:=V (HD.o.upd.trans (b3.mono (F:=fun _=>False) (fun _ _ e=>e.elim)))
   obtain⟨y0,y1,y2⟩:=Zk a7.o
   clear g4 b3 d5 g0 q0 q1 q2 HB g9 f5 e6 HD
   iterate 25 go_step
   obtain⟨L,e9,c9,d7,f0⟩:=c5.o
   have f9:(Z7 ev (l.take k)).sets.length=k:=by simp[Z7];omega
   rw[f9] at c9
   have c7:=c9.lt
   have i3:sb<wa.heap.size:=Za a7.o
   obtain⟨x,hx⟩: ∃x:SetV,x=⟨p.1,false,true,[],p.2⟩:=⟨_,rfl⟩
   have d8:elC (x,.slice none 0 0,.slice va p.2.length vc)=[.string p.1,.bool false,.bool true,.slice none 0 0,.slice va p.2.length vc]:=by rw[hx];rfl
   obtain⟨i0,f8,f1,g3,f7⟩:=info_parts Tryz.info73p
   refine wpList_append_lies _ rfl (.tmp 17) (.tmp 23) 54 rfl w.heap.size 73 i0 _ 5 72 Tryz.underlying54 f8 f1 g3 f7 rfl (by omega) (.slice la k lc) _ _ rfl (c9.alloc _) ⟨wa.heap.size,0,none⟩ 1 1 (elC (x,.slice none 0 0,.slice va p.2.length vc)) rfl
    rfl (World.news_of_block (cs:=(elC (x,.slice none 0 0,.slice va p.2.length vc)).toArray) (t:=73) (fr:=(0,0)) (by rw[d8];exact heap_alloc_new _ _)) (by rw[d8];simp[Value.oneCell']) (by omega) (by unfold maxLen;have:=HL.o.len;omega) (by have:=HL.o.len;omega) (by have:=d4.o.size;simp;omega) (wa.heap.size+1) (by simp) ?_
   intro g' c8 b4 c3 a6 g1 i6
   have a0:Upd (fun k'=>(Value.slice la k lc).ownBlock=some k') wa b4:=((Upd.refl _ wa).alloc _).trans (Upd.of_grown a6 (fun k hk=>hk))
   have a2:=(a0.block _ i3 (fun e=>by have:=(c7 sb e).1;have:=f6.o;omega)).trans a7.o
   have b6:w.heap.size≤g':=by
    have:=d4.o.size
    rcases g1 with e | e
    ·exact(c7 g' e).1
    ·omega
   have y2:=(Zk a2).2.2
   have g2:b4.frozen? ⟨sb,2,none⟩=false:=Zb a2
   have c2:=c5.o.apart f4.o
   have a4:SetRow b4 w.heap.size C (.slice (some ⟨g',0,none⟩) (k+1) c8) ((Z7 ev (l.take k)).sets++[x]):=by
    refine⟨L++[(x,.slice none 0 0,.slice va p.2.length vc)],by rw[List.map_append,e9];rfl,?_,fun y hy=>?_,fun y hy=>?_⟩
    ·rw[List.flatMap_append,List.length_append,f9]
     simpa using c3
    ·rw[List.mem_append] at hy
     rcases hy with hy | hy
     ·exact⟨(d7 y hy).1.kept a0 c2,(d7 y hy).2.kept a0 c2⟩
     ·simp only[List.mem_singleton] at hy
      subst hy
      rw[hx]
      exact⟨.inl ⟨rfl,rfl⟩,g7.o.kept a0 c2⟩
    ·rw[List.mem_append] at hy
     rcases hy with hy | hy
     ·exact f0 y hy
     ·simp only[List.mem_singleton] at hy
      subst hy
      rw[hx]
      have:=h0.o
      exact⟨by simp only;omega,by simp,by simp only;omega,fun z hz=>by simp at hz,this.2.2.2⟩
   have e7:=f4.o.kept a0 c2
   have d9:=V a4;have a5:=V a2;have d1:=V a0;have d3:=V c7;have e4:=V b6;have i1:=V hx;have f2:=V e7
   clear a4 a2 a0 c2 c3 a6 g1 f8 f1 g3 f7 e9 c9 d7 f0 c7 d8 y0 y1 b6 hx e7 z0 z1
   have h9:IntKind.i64.wrap ((k:Int)+1)=(k:Int)+1:=by rw[IntKind.wrap_i64];have:=HL.o.len;omega
   go_wp2
   obtain⟨c4,a8⟩: ∃c4,c4=b4.setCell ⟨sb,2,none⟩ (.slice (some ⟨g',0,none⟩) (k+1) c8):=⟨_,rfl⟩
   rw[←a8]
   have b1:Upd (fun k=>k=sb) b4 c4:=by rw[a8];exact Zd b4 sb 2 _
   have c0:c4.heap[sb]?=some (.cells #[.int .u64 ev,.bool false,.slice (some ⟨g',0,none⟩) (k+1) c8] 56 (0,0)):=by
    rw[a8]
    have:=Ze (i:=2) (v:=.slice (some ⟨g',0,none⟩) (k+1) c8) a5.o
    simpa using this
   have b8: ∀j,C j→ ¬j=sb:=fun j hj e=>by
    obtain⟨e3,q9⟩:=f2.o j hj
    rw[e,a5.o] at q9
    injection q9 with q9
    injection q9 with _ q9
    exact absurd q9 (by decide)
   have g8:RwAt w sb ev C l (k+1) c4:=by
    refine⟨⟨_,_,c0,?_⟩,f2.o.kept b1 b8,(d4.o.step d1.o (fun j hj e=>by have:=(d3.o j e).1;omega)).trans b1⟩
    rw[Zgd ev l k HP.o,←i1.o]
    exact d9.o.kept b1 (fun j hj e=>by simp[Value.ownBlock] at hj;have:=e4.o;have:=f6.o;omega) b8
   go_roundg (l.length - (k+1))
   case measure=>omega
   case rel=>exact⟨k+1,by omega,rfl,congrArg _ (by omega),g8⟩
  ·obtain rfl:k=l.length:=by omega
   rw[List.take_length] at b9
   obtain⟨y0,y1,y2⟩:=Zk b0
   have c1:=V b9
   have b5:=(hd.upd.block _ (Za b7.o) (fun e=>by have:=a3.o;omega)).trans b7.o
   have d2:=V b5
   obtain⟨s0,s1,s2⟩:=Zk b5
   have h8:wr.frozen? ⟨a1,0,none⟩=false:=Zb b5
   have h5:wr.frozen? ⟨a1,1,none⟩=false:=Zb b5
   have g6:wr.frozen? ⟨a1,2,none⟩=false:=Zb b5
   have i7:=run_loadVar_mid (P:=Tryz.prog) wr sb 0 56 [.int .u64 ev,.bool false,.slice la l.length lc] _ (Zh b0) Tryz.underlying56 rfl (by rw[Z9];rfl)
   clear hd b0 b9 b5 r0 r1
   go_wp2
   obtain⟨w9,d0⟩: ∃w9,w9=((wr.setCell ⟨a1,0,none⟩ (.int .u64 ev)).setCell ⟨a1,1,none⟩ (.bool false)).setCell ⟨a1,2,none⟩ (.slice la l.length lc):=⟨_,rfl⟩
   rw[←d0]
   have e5:Upd (fun j=>j=a1) wr w9:=by rw[d0];exact((Zd wr a1 0 _).trans (Zd _ a1 1 _)).trans (Zd _ a1 2 _)
   have h6:w9.heap[a1]?=some (.cells #[.int .u64 ev,.bool false,.slice la l.length lc] 56 (0,0)):=by
    rw[d0]
    have:=Ze (i:=2) (v:=.slice la l.length lc) (Ze (i:=1) (v:=.bool false) (Ze (i:=0) (v:=.int .u64 ev) d2.o))
    simpa using this
   have i2:=run_loadVar_mid (P:=Tryz.prog) w9 a1 0 56 [.int .u64 ev,.bool false,.slice la l.length lc] _ (Zh h6) Tryz.underlying56 rfl (by rw[Z9];rfl)
   refine bodyPost_ret (Yt Tryz.results167 rfl i2) rfl ?_
   have b8: ∀j,C j→ ¬j=a1:=fun j hj e=>by
    obtain⟨e3,q9⟩:=HD.o.row j hj
    rw[e,d2.o] at q9
    injection q9 with q9
    injection q9 with _ q9
    exact absurd q9 (by decide)
   refine⟨la,lc,rfl,?_,HD.o.row.kept e5 b8,(HU.o.step HD.o.upd (fun j hj e=>by have:=a3.o;omega)).step e5 (fun j hj e=>by have:=a3.o;omega)⟩
   refine SetRow.low (SetRow.kept c1.o e5 (fun j hj e=>?_) b8) HU.o.size
   obtain⟨e3,q9⟩:=SetRow.block73 c1.o hj
   rw[e,d2.o] at q9
   injection q9 with q9
   injection q9 with _ q9
   exact absurd q9 (by decide)
theorem Y1 (n:Nat)(w:World)(h:n≤40000):Calls Tryz.prog 119 #[.int .i64 n] w fun e w'=>e=.returned (.int .i64 (secsI n))∧w'=w:=by
 have h1:IntKind.i64.wrap ((4:Int)+n)=4+n:=by rw[IntKind.wrap_i64];omega
 have h2:IntKind.i64.wrap ((4:Int)+n+47)=4+n+47:=by rw[IntKind.wrap_i64];omega
 have ht:((4:Int)+n+47).tdiv 48=(4+n+47) / 48:=Int.tdiv_eq_ediv_of_nonneg (by omega)
 have h3:IntKind.i64.wrap (((4:Int)+n+47).tdiv 48)=((4:Int)+n+47).tdiv 48:=by rw[ht,IntKind.wrap_i64];omega
 have h4:secsI n=((4:Int)+n+47).tdiv 48:=by rw[ht];unfold secsI;rw[if_neg (by omega)];omega
 go_enter Tryz.func119,Tryz.ntmps119
 go_wp2
 go_ret
 exact⟨by rw[h4,ht];rfl,rfl⟩
structure RfS (w0:World) (W:World) (t6:Nat) (s:Int×KV):Prop where
 out: ∃(C:Nat→Prop) (a:Option Addr) (c:Nat),W.heap[t6]?=some (.cells #[.int .u64 s.1,.slice a s.2.length c] 62 (0,0))∧ValsAt W C a s.2∧RowC W C∧(∀g o,a=some ⟨g,o,none⟩→ ∃ds,W.heap[g]?=some (.cells ds 164 (0,0)))∧(∀k,C k→w0.heap.size≤k)∧ ∀g o,a=some ⟨g,o,none⟩→w0.heap.size≤g
 fine:s.2.Fine
 ev:0≤s.1∧s.1≤4611686018427387904
 upd:U0 w0 W
 base:w0.heap.size≤t6
theorem RfS.kept0 {w0 W W':World}{t6:Nat}{s:Int×KV}(h:RfS w0 W t6 s)(hu:U0 W W'):RfS w0 W' t6 s:=by
 obtain⟨⟨C,a,c,h1,h2,h3,h8,h9,a0⟩,h4,h5,h6,h7⟩:=h
 refine⟨⟨C,a,c,kb hu h1,h2.kept0 hu,h3.kept hu n3Z,fun g o e=>?_,h9,a0⟩,h4,h5,h6.trans hu,h7⟩
 obtain⟨ds,q⟩:=h8 g o e
 exact⟨ds,kb hu q⟩
theorem ValRow.none_or {B:Nat}{n:Nat}(h:ValRow w B C (.slice a n c) l): ∀g o,a=some ⟨g,o,none⟩→(Value.slice a n c).ownBlock=some g:=by
 rintro g o rfl
 obtain⟨L,_,h1,_⟩:=h
 rcases h1.2 with ⟨e,_⟩ | ⟨g',a1,a0,e,_⟩
 ·cases e
 ·injection e with e
  injection e with e
  injection e with e1 e2
  subst e1
  subst e2
  rfl
theorem Zqg {w0 W W':World}{t6 B0:Nat}{L:KV}{a':Option Addr}{c':Nat}{u v:Value}(hb:w0.heap.size≤t6)(hu:U0 w0 W)(hx:W.heap[t6]?=some (.cells #[u,v] 62 (0,0)))
  (hv:ValRow W B0 C (.slice a' L.length c') L) (hB:w0.heap.size≤B0) (hc:RowC W C) (hW:W'=(W.setCell ⟨t6,0,none⟩ (.int .u64 ev)).setCell ⟨t6,1,none⟩ (.slice a' L.length c')):
  W'.heap[t6]?=some (.cells #[.int .u64 ev,.slice a' L.length c'] 62 (0,0))∧ValsAt W' C a' L∧RowC W' C∧U0 w0 W'∧Upd (fun k=>k=t6) W W'∧(∀g o,a'=some ⟨g,o,none⟩→ ∃ds,W'.heap[g]?=some (.cells ds 164 (0,0)))∧ ∀g o,a'=some ⟨g,o,none⟩→w0.heap.size≤g:=by
 obtain⟨p1,p2⟩:=put2 (u:=.int .u64 ev) (v:=.slice a' L.length c') hx
 rw[←hW] at p1 p2
 have a0: ∀{j:Nat} {ds:Array Value} {u:TypeId},W.heap[j]?=some (.cells ds u (0,0))→u≠62→j≠t6:=fun h1 h2 e=>by
  rw[e,hx] at h1
  injection h1 with h1
  injection h1 with _ h1
  exact h2 h1.symm
 have a1: ∀k,C k→ ¬k=t6:=fun k hk=>by
  obtain⟨ds,q⟩:=hc k hk
  exact a0 q (by decide)
 refine⟨p1,hv.valsAt.kept p2 (fun g o e=>?_) a1,hc.kept p2 a1,hu.step p2 (fun k hk e=>by omega),p2,fun g o e=>?_,fun g o e=>?_⟩
 ·obtain⟨ds,q⟩:=hv.block164 (hv.none_or g o e)
  exact a0 q (by decide)
 ·obtain⟨ds,q⟩:=hv.block164 (hv.none_or g o e)
  exact⟨ds,(p2.block _ (Za q) (a0 q (by decide))).trans q⟩
 ·have ho:=hv.none_or g o e
  obtain⟨_,_,h4,_⟩:=hv
  exact Nat.le_trans hB (World.ownsRow.lt h4 g ho).1
theorem Za3: ∀(l:List (List Int)) (s:(Int×KV)×Bool),s.2=false→(l.foldl playN s).2=false
 | [],s,h=>h
 |x :: l,s,h=>Za3 l _ (by simp[playN,h])
theorem Zmn {p0:List Int}{k:Nat}{x:List Int}(hx:txs[k]?=some x):foundN p0 txs=(txs.drop (k+1)).foldl playN (playN ((txs.take k).foldl playN (Yb p0)) x)∧(txs.take (k+1)).foldl playN (Yb p0)=playN ((txs.take k).foldl playN (Yb p0)) x:=by
 obtain⟨h1,h2⟩:=List.getElem?_eq_some_iff.1 hx
 have e:txs.take (k+1)=txs.take k++[x]:=by rw[List.take_succ_eq_append_getElem h1,h2]
 have e2:(txs.take (k+1)).foldl playN (Yb p0)=playN ((txs.take k).foldl playN (Yb p0)) x:=by rw[e,List.foldl_append];rfl
 refine⟨?_,e2⟩
 rw[←e2,←List.foldl_append,List.take_append_drop]
 rfl
theorem Znd {x:List Int}{B:BatchV}(hB:B=(decF x).1)(hf: ∀y∈B.sets,y.fine)(hr:B.right=true)(h0:0≤B.epoch):B.Ok:=⟨⟨h0,by have:=(BatchV.right_sets hr).1;omega⟩,fun y hy=>⟨(hf y hy).2.2.2.1,(hf y hy).2.2.2.2⟩⟩
theorem SetsAt.toR {R':Nat→Prop}{sets:List SetV}(h:SetsAt w R C a sets)(hr: ∀b o,a=some ⟨b,o,none⟩→R' b):SetsAt w R' C a sets:=fun i x hx=>by
 obtain⟨h1,h2,h3,b,o,e,hb,h4⟩:=h i x hx
 exact⟨h1,h2,h3,b,o,e,hr b o e,h4⟩
theorem SetsAt.moreC {C':Nat→Prop}{sets:List SetV}(h:SetsAt w R C a sets)(hc: ∀k,C k→C' k):SetsAt w R C' a sets:=fun i x hx=>by
 obtain⟨h1,h2,h3,b,o,e,hb,oa,oc,na,nc,k0,k1,k2,k3,k4,k5,k6,k7⟩:=h i x hx
 exact⟨h1,h2,h3,b,o,e,hb,oa,oc,na,nc,k0,k1,k2,k3,k4,k5.mono hc,k6.mono hc,k7⟩
theorem ValsAt.moreC {C':Nat→Prop}(h:ValsAt w C a l)(hc: ∀k,C k→C' k):ValsAt w C' a l:=fun i p hp=>by
 obtain⟨g,v,h1,h2,h3,h4⟩:=h i p hp
 exact⟨g,v,h1,h2,h3,h4.mono hc⟩
def RefFoundAns (w:World)(p0:List Int)(txs:List (List Int))(e:Ending)(w':World):Prop:=
 U0 w w'∧(((foundN p0 txs).2=false∧e=.returned (.tuple #[.agg #[.int .u64 0,.slice none 0 0],.bool false]))∨
  ((foundN p0 txs).2=true∧(foundN p0 txs).1.2.Fine∧ ∃(C:Nat→Prop) (a:Option Addr) (c:Nat),e=.returned (.tuple #[.agg #[.int .u64 (foundN p0 txs).1.1,.slice a (foundN p0 txs).1.2.length c],.bool true])∧ValsAt w' C a (foundN p0 txs).1.2∧RowC w' C∧(∀g o,a=some ⟨g,o,none⟩→ ∃ds,w'.heap[g]?=some (.cells ds 164 (0,0)))∧(∀k,C k→w.heap.size≤k)∧ ∀g o,a=some ⟨g,o,none⟩→w.heap.size≤g))
def TxRows (w:World)(a:Option Addr)(txs:List (List Int)):Prop:= ∀i x,txs[i]?=some x→ ∃g v,a=some ⟨g,0,none⟩∧w.cell? ⟨g,i,none⟩=some v∧BytesIn w v x
theorem TxRows.kept0 {w':World}(h:TxRows w a txs)(hu:U0 w w'):TxRows w' a txs:=fun i x hx=>by
 obtain⟨g,v,h1,h2,h3⟩:=h i x hx
 exact⟨g,v,h1,Zo hu id h2,h3.kept hu⟩
theorem Zff {va la:Option Addr}{vc lc:Nat}{p0:List Int}(w0:World)(hp:BytesIn w0 (.slice va p0.length vc) p0)(hl:TxRows w0 la txs)(hb: ∀x,x=p0∨x∈txs→Bytes x∧x.length≤40000)(hn:txs.length≤1000000):
  Calls Tryz.prog 121 #[.slice va p0.length vc,.slice la txs.length lc] w0 (RefFoundAns w0 p0 txs):=by
 obtain⟨w,hw⟩: ∃w,w=(w0.alloc (.cells #[.int .u64 0,.slice none 0 0] 62)).alloc (.cells #[.int .u64 0,.slice none 0 0] 62):=⟨_,rfl⟩
 have hu:U0 w0 w:=by rw[hw];exact((Upd.refl _ w0).alloc _).alloc _
 have m3:w.heap[w0.heap.size]?=some (.cells #[.int .u64 0,.slice none 0 0] 62 (0,0)):=by rw[hw];exact(Zm (by simp)).trans (Zc rfl)
 have b1:w.heap[w0.heap.size+1]?=some (.cells #[.int .u64 0,.slice none 0 0] 62 (0,0)):=by rw[hw];exact Zc (by simp)
 obtain⟨t6,k7⟩: ∃x,x=w0.heap.size+1:=⟨_,rfl⟩
 obtain⟨a0,h1⟩: ∃x,x=w0.heap.size:=⟨_,rfl⟩
 rw[←h1] at m3
 rw[←k7] at b1
 have b5:RfS w0 w t6 (0,[]):=⟨⟨fun _=>False,none,0,b1,fun i p hp=>by simp at hp,fun k hk=>hk.elim,(fun g o e=>by cases e),fun k hk=>hk.elim,fun g o e=>by cases e⟩,KV.Fine.nil,by omega,hu,by omega⟩
 have n7:=V b5;have g3:=V m3;have b6:=V (show w0.heap.size≤a0∧a0≠t6∧w0.heap.size≤t6 by omega)
 have HP:=V hp;have o6:=V hl;have HB:=V hb;have HN:=V hn;have HU:=V hu
 clear b5 hp hl hb hn m3 b1 hu
 go_enter Tryz.func121,Tryz.ntmps121
 go_upto_region 2 with fail
 rw[←hw,←k7,←h1]
 clear hw k7 h1
 go_upto_if 15 with fail
 go_cut [7,8] from 16 to 41 (fun v7 v8 wx=>RfS w0 wx t6 (Yb p0).1∧(Yb p0).2=true∧Upd (fun k=>k=t6) w wx)
 case first=>
  by_cases i1:p0=[]
  ·have o2: ¬0<p0.length:=by rw[i1];simp
   have i9:=V i1
   clear i1
   go_wp2
   go_meet
   case rel=>
    rw[show Yb p0=((0,[]),true) by unfold Yb;rw[if_pos i9.o]]
    exact⟨n7.o,rfl,Upd.refl _ _⟩
  ·have i9:=V i1
   have o2:0<p0.length:=List.length_pos_iff.2 i1
   clear i1
   go_wp2_with (go_at_call 26;fail)
   refine(Ze2 w (HP.o.kept HU.o) (HB.o p0 (.inl rfl)).1 (by have:=(HB.o p0 (.inl rfl)).2;omega)).mono ?_
   rintro e w3 ⟨ba,bc,rfl,⟨CB,g8,j5,j0⟩,b8,i8,g7⟩
   obtain⟨B,f4⟩: ∃B,B=(decF p0).1:=⟨_,rfl⟩
   obtain⟨E,hE⟩: ∃E,E=(decF p0).2:=⟨_,rfl⟩
   rw[←f4] at g8 b8
   rw[←f4,←hE]
   unfold batchV
   simp only[]
   have f2:=V f4;have h5:=V hE;have j6:=V b8
   clear f4 hE
   go_upto_region 4 with fail
   obtain⟨w4,i3,d2,i4⟩:=nb w3 (.cells #[.int .u64 B.epoch,.bool B.large,.slice ba B.sets.length bc] 56)
   rw[←i3]
   have a3:=kb (g7.trans d2) g3.o
   have j4:=V ((g8.toR (R':=fun k=>k<w3.heap.size) (fun b o e=>(i8 b o e).2)).kept d2 n3Z n3Z);have l5:=V (j5.kept d2 n3Z);have h4:=V i4;have b3:=V (g7.trans d2);have c7:=V a3
   have l0:=V j0
   obtain⟨bx,e9⟩: ∃bx,bx=w3.heap.size:=⟨_,rfl⟩
   rw[←e9] at i4 h4 j4 ⊢
   clear g8 j5 j0 b8 i8 g7 d2 i3 e9
   by_cases c6:E=0
   rotate_left
   ·have e8:(E == 0)=false:=by simpa using c6
    have f3:=V (show(foundN p0 txs).2=false by
     refine Za3 txs _ ?_
     unfold Yb
     rw[if_neg i9.o]
     simp only[Bool.and_eq_false_iff]
     exact .inl (by unfold playK;exact decide_eq_false (fun e=>c6 (h5.o.trans e.1))))
    clear c6
    have d4:w4.frozen? ⟨a0,0,none⟩=false:=Zb a3
    have d1:w4.frozen? ⟨a0,1,none⟩=false:=Zb a3
    obtain⟨s0,s1⟩:=Zg a3
    clear a3
    go_wp2
    obtain⟨w9,a4⟩: ∃w9,w9=(w4.setCell ⟨a0,0,none⟩ (.int .u64 0)).setCell ⟨a0,1,none⟩ (.slice none 0 0):=⟨_,rfl⟩
    rw[←a4]
    have b2:Upd (fun j=>j=a0) w4 w9:=by rw[a4];exact(Zd w4 a0 0 _).trans (Zd _ a0 1 _)
    have d3:w9.heap[a0]?=some (.cells #[.int .u64 0,.slice none 0 0] 62 (0,0)):=by
     rw[a4]
     have:=Ze (i:=1) (v:=.slice none 0 0) (Ze (i:=0) (v:=.int .u64 0) c7.o)
     simpa using this
    have d7:=run_loadVar_mid (P:=Tryz.prog) w9 a0 0 62 [.int .u64 0,.slice none 0 0] _ (Zh d3) Tryz.underlying62 rfl (by rw[Zaj];rfl)
    refine bodyPost_ret (Zl Tryz.results121 rfl d7) rfl ?_
    exact⟨(HU.o.trans b3.o).step b2 (fun j hj e=>by have:=b6.o;omega),.inl ⟨f3.o,rfl⟩⟩
   ·subst c6
    have g5:=Ziq (HB.o p0 (.inl rfl)).1 h5.o.symm
    rw[←f2.o] at g5
    have HR:=V g5.2
    have o8:=V g5.1
    have a2:=n7.o.kept0 b3.o
    obtain⟨s8,d8⟩: ∃s,s=((0,[]):Int×KV):=⟨_,rfl⟩
    rw[←d8] at a2
    have j9:=V d8
    obtain⟨ev,l⟩:=s8
    obtain⟨C9,a9,c9,b1,c2,f6,_,j1,_⟩:=a2.out
    have l1:=V (show∀k,(C9 k∨CB k)→w0.heap.size≤k from fun k hk=>hk.elim (j1 k) (fun e=>Nat.le_trans HU.o.size (l0.o.1 k e)))
    clear j1
    have a1:=V a2.fine;have k1:=V a2.ev;have h9:=V a2.upd
    simp only at b1 c2 a1 k1
    obtain⟨t0,t1⟩:=Zg b1
    obtain⟨x0,x1,x2⟩:=Zk h4.o
    have k3:=V b1;have i7:=V (c2.moreC (C':=fun k=>C9 k∨CB k) (fun _ e=>.inl e))
    have f5:=V (show RowC w4 (fun k=>C9 k∨CB k) from fun k hk=>hk.elim (f6 k) (l5.o k))
    have h0:=V (j4.o.moreC (C':=fun k=>C9 k∨CB k) (fun _ e=>.inr e))
    have m4:=V (BatchV.right_sets HR.o).2.1
    have f7:=V (Za h4.o)
    clear a2 c2 f6 b1 d8
    go_wp2_with (go_at_call 166;fail)
    refine(Zfg (R:=fun k=>k<bx) w4 i7.o (by have:=a1.o.len;omega) h0.o (by have:=m4.o;omega) f5.o (fun p hp=>(a1.o.each p hp).2.2.2) a1.o.rising (fun k hk=>by have:=f7.o;omega)).mono ?_
    rintro e w5 ⟨d5,h6⟩
    have a7:=kb d5 k3.o
    have d0:=kb d5 c7.o
    have h7:=V a7;have b9:=V d0;have g4:=V d5;have m0:=V (f5.o.kept d5 n3Z)
    have f0:w5.frozen? ⟨t6,0,none⟩=false:=Zb a7
    have f1:w5.frozen? ⟨t6,1,none⟩=false:=Zb a7
    clear t0 t1
    obtain⟨t0,t1⟩:=Zg a7
    clear d5 a7 d0 x0 x1 x2
    rcases h6 with ⟨hd,rfl⟩ | ⟨hd,a5,c5,rfl,g6⟩
    ·obtain⟨E1,e8⟩: ∃E1,E1=doE ev l B:=⟨_,rfl⟩
     rw[←e8] at hd ⊢
     have f3:=V (show(foundN p0 txs).2=false by
      refine Za3 txs _ ?_
      unfold Yb
      rw[if_neg i9.o]
      simp only[Bool.and_eq_false_iff]
      refine .inl ?_
      unfold playK
      rw[←j9.o,←f2.o,←e8]
      exact decide_eq_false (fun e=>hd e.2))
     have c6:(E1 == 0)=false:=by simpa using hd
     clear e8
     simp only[]
     go_upto_region 7 with fail
     obtain⟨w6,b7⟩: ∃w6,w6=(w5.setCell ⟨t6,0,none⟩ (.int .u64 ev)).setCell ⟨t6,1,none⟩ (.slice a9 l.length c9):=⟨_,rfl⟩
     rw[←b7]
     have h2:Upd (fun k=>k=t6) w5 w6:=by rw[b7];exact(Zd w5 t6 0 _).trans (Zd _ t6 1 _)
     have a6:=(h2.block _ (Za b9.o) (fun e=>by have:=b6.o;omega)).trans b9.o
     have d6:=V a6;have k4:=V ((HU.o.trans (b3.o.trans g4.o)).step h2 (fun k hk e=>by have:=b6.o;omega))
     clear b7 h2 a6 f0 f1 t0 t1
     have hA:U0 w6 w6.drew:=(Upd.refl _ w6).drew
     refine Zj 10 (fun W=>U0 w6 W) [false,false,false,false,false,false,false,false,false,false,false] rfl (by kernel_rfl) ?_
     generalize w6.drew=wd at hA ⊢
     refine tpZ 0 (.int .i64 E1) hA ?_
     simp only[zz]
     refine tpZ 1 (.bool true) hA ?_
     simp only[zz]
     refine tpZ 2 (.bool true) hA ?_
     simp only[zz]
     refine trZ 3 [9,6,5,4] hA ?_
     simp only[zz]
     refine trZ 4 [9,6,5] hA ?_
     simp only[zz]
     refine trZ 5 [9,6] hA ?_
     simp only[zz]
     refine trZ 6 [9] hA ?_
     simp only[zz]
     refine trZ 7 [9,8] hA ?_
     simp only[zz]
     refine trZ 8 [9] hA ?_
     simp only[zz]
     refine trZ 9 [] hA ?_
     simp only[zz]
     refine tlZ 10 ?_
     simp only[List.drop]
     clear c6 hd
     have b0:=kb hA d6.o
     have g1:=V b0;have k2:=V (k4.o.trans hA)
     have d4:wd.frozen? ⟨a0,0,none⟩=false:=Zb b0
     have d1:wd.frozen? ⟨a0,1,none⟩=false:=Zb b0
     obtain⟨s0,s1⟩:=Zg b0
     clear b0 hA
     go_wp2
     obtain⟨w9,a4⟩: ∃w9,w9=(wd.setCell ⟨a0,0,none⟩ (.int .u64 0)).setCell ⟨a0,1,none⟩ (.slice none 0 0):=⟨_,rfl⟩
     rw[←a4]
     have b2:Upd (fun j=>j=a0) wd w9:=by rw[a4];exact(Zd wd a0 0 _).trans (Zd _ a0 1 _)
     have d3:w9.heap[a0]?=some (.cells #[.int .u64 0,.slice none 0 0] 62 (0,0)):=by
      rw[a4]
      have:=Ze (i:=1) (v:=.slice none 0 0) (Ze (i:=0) (v:=.int .u64 0) g1.o)
      simpa using this
     have d7:=run_loadVar_mid (P:=Tryz.prog) w9 a0 0 62 [.int .u64 0,.slice none 0 0] _ (Zh d3) Tryz.underlying62 rfl (by rw[Zaj];rfl)
     refine bodyPost_ret (Zl Tryz.results121 rfl d7) rfl ?_
     exact⟨k2.o.step b2 (fun j hj e=>by have:=b6.o;omega),.inl ⟨f3.o,rfl⟩⟩
    ·obtain⟨L,hL⟩: ∃L,L=l.withs B.sets:=⟨_,rfl⟩
     rw[←hL] at g6 ⊢
     have g2:B.Ok:=Znd f2.o j6.o HR.o (by
      have: ¬B.epoch<ev:=fun hlt=>by
       unfold doE at hd
       rw[if_pos hlt] at hd
       omega
      have:=k1.o
      omega)
     have h3:=(Zdg a1.o HR.o g2 hd).1
     rw[←hL] at h3
     have g9:=V h3
     have b4:=V (show 0≤B.epoch∧B.epoch≤4611686018427387904 from⟨g2.epoch.1,(BatchV.right_sets HR.o).1⟩)
     have j2:=V (show Yb p0=((B.epoch,L),Zz B.epoch L == p0) by
      unfold Yb playS playK
      rw[if_neg i9.o,←j9.o,←f2.o,←h5.o,if_pos ⟨rfl,hd⟩,hL,decide_eq_true ⟨rfl,hd⟩,Bool.true_and])
     have i5:=V g6
     clear hd g2 h3 g6 hL
     simp only[]
     go_upto_region 7 with fail
     obtain⟨w6,b7⟩: ∃w6,w6=(w5.setCell ⟨t6,0,none⟩ (.int .u64 B.epoch)).setCell ⟨t6,1,none⟩ (.slice a5 L.length c5):=⟨_,rfl⟩
     rw[←b7]
     obtain⟨p1,p2,p3,p4,p5,p6,p7⟩:=Zqg b6.o.2.2 (h9.o.trans g4.o) h7.o i5.o h9.o.size m0.o b7
     have a6:=(p5.block _ (Za b9.o) (fun e=>by have:=b6.o;omega)).trans b9.o
     have d9:=V p1;have e6:=V p2;have e0:=V p3;have e5:=V p4;have h8:=V p6;have i2:=V p7;have d6:=V a6
     have f8:=V (show Upd (fun k=>k=t6) w w6 from((b3.o.trans g4.o).mono (F:=fun _=>False) (fun _ _ e=>e.elim)).trans p5)
     clear b7 a6 f0 f1 t0 t1 p1 p2 p3 p4 p5 p6 p7 i5
     have hA:U0 w6 w6.drew:=(Upd.refl _ w6).drew
     refine Zj 10 (fun W=>U0 w6 W) [false,false,false,false,false,false,false,false,false,false,false] rfl (by kernel_rfl) ?_
     generalize w6.drew=wd at hA ⊢
     refine tpZ 0 (.int .i64 0) hA ?_
     simp only[zz]
     refine tpZ 1 (.bool false) hA ?_
     simp only[zz]
     refine tpZ 2 (.bool false) hA ?_
     simp only[zz]
     refine tqZ 3 (.agg #[.int .u64 B.epoch,.slice a5 L.length c5]) [9,6,5,4] hA (fun w5 q1=>?_) ?_
     ·obtain⟨c0,c1⟩:=Zg (kb q1 d9.o)
      go_simp
     simp only[zz]
     refine tpZ 7 (.slice va p0.length vc) hA ?_
     simp only[zz]
     refine tqZ 8 (.string (strOfNums p0)) [9] hA (fun w5 q1=>?_) ?_
     ·have n2:=Yw (HP.o.kept (e5.o.trans q1))
      go_simp
     simp only[zz]
     refine diZ 4 (fun K HKK=>?_)
     go_step
     refine(Zc9 wd (e6.o.kept0 hA) g9.o (e0.o.kept hA n3Z)).mono ?_
     rintro e n9 ⟨a8,c8,rfl,n1,k6,n4⟩
     have l9:=hA.trans n4
     have n0:(Z7 B.epoch L).sets.length=L.length:=by simp[Z7]
     have e7:=Zb3 (B:=Z7 B.epoch L) (c:=c8) n9 n1.setsAt.setsIn (Za1 g9.o b4.o.2) (Za8 g9.o b4.o.1 b4.o.2)
     unfold batchV at e7
     rw[n0] at e7
     have j7:=V e7
     clear n0 e7 n1 k6 n4
     simp only[]
     refine HKK.o _ _ l9 ?_
     clear HKK
     simp only[zz]
     refine diZ 5 (fun K HKK=>?_)
     go_step
     refine(j7.o).mono ?_
     rintro e k0 ⟨u8,rfl,l2,b2⟩
     have g0:=l9.trans b2
     obtain⟨ua,uc,rfl,_⟩:=l2.bytesAt.1.slice
     have o1:=V l2
     clear l2 b2 j7
     simp only[]
     refine HKK.o _ _ g0 ?_
     clear HKK
     simp only[zz]
     refine diZ 6 (fun K HKK=>?_)
     have n2:=Yw o1.o.bytesAt.1.bytesIn
     go_step
     clear n2
     refine HKK.o _ _ g0 ?_
     clear HKK
     simp only[zz]
     refine tqZ 9 (.bool (!decide (Zz B.epoch L=p0))) [] g0 (fun w5 q1=>?_) ?_
     ·have o9:=Zkn (Zae (Za8 g9.o b4.o.1 b4.o.2)) (HB.o p0 (.inl rfl)).1
      unfold Zz
      go_simp
     simp only[zz]
     refine tlZ 10 ?_
     simp only[List.drop]
     obtain⟨q,hq⟩: ∃q,q=decide (Zz B.epoch L=p0):=⟨_,rfl⟩
     rw[←hq]
     have b0:=kb g0 d6.o
     have g1:=V b0;have k2:=V (e5.o.trans g0);have j3:=V g0
     have d4:k0.frozen? ⟨a0,0,none⟩=false:=Zb b0
     have d1:k0.frozen? ⟨a0,1,none⟩=false:=Zb b0
     obtain⟨s0,s1⟩:=Zg b0
     clear b0 hA l9 g0
     cases q with
     |false=>
      have f3:=V (show(foundN p0 txs).2=false by
       refine Za3 txs _ ?_
       rw[j2.o]
       simpa using of_decide_eq_false hq.symm)
      clear hq
      go_wp2
      obtain⟨w9,a4⟩: ∃w9,w9=(k0.setCell ⟨a0,0,none⟩ (.int .u64 0)).setCell ⟨a0,1,none⟩ (.slice none 0 0):=⟨_,rfl⟩
      rw[←a4]
      have b2:Upd (fun j=>j=a0) k0 w9:=by rw[a4];exact(Zd k0 a0 0 _).trans (Zd _ a0 1 _)
      have d3:w9.heap[a0]?=some (.cells #[.int .u64 0,.slice none 0 0] 62 (0,0)):=by
       rw[a4]
       have:=Ze (i:=1) (v:=.slice none 0 0) (Ze (i:=0) (v:=.int .u64 0) g1.o)
       simpa using this
      have d7:=run_loadVar_mid (P:=Tryz.prog) w9 a0 0 62 [.int .u64 0,.slice none 0 0] _ (Zh d3) Tryz.underlying62 rfl (by rw[Zaj];rfl)
      refine bodyPost_ret (Zl Tryz.results121 rfl d7) rfl ?_
      exact⟨k2.o.step b2 (fun j hj e=>by have:=b6.o;omega),.inl ⟨f3.o,rfl⟩⟩
     |true=>
      have HQ:=V (of_decide_eq_true hq.symm)
      clear hq
      go_wp2
      go_meet
      case rel=>
       rw[j2.o]
       refine⟨⟨⟨_,a5,c5,kb j3.o d9.o,e6.o.kept0 j3.o,e0.o.kept j3.o n3Z,(fun g o e=>by
        obtain⟨ds,q⟩:=h8.o g o e
        exact⟨ds,kb j3.o q⟩),l1.o,i2.o⟩,g9.o,b4.o,k2.o,b6.o.2.2⟩,by simpa using HQ.o,f8.o.trans (j3.o.mono (F:=fun _=>False) (fun _ _ e=>e.elim))⟩
 case rest=>
  obtain⟨b5,c4,f9⟩:=hcut
  have m2:=V b5;have k8:=V c4;have k5:=V f9
  clear b5 c4 f9
  go_upto_block 0 with fail
  go_upto_region 10 with fail
  go_loopg [44] txs.length (fun gk i wr=> ∃k:Nat,k≤txs.length∧gk=txs.length - k∧i=.int .i64 k∧RfS w0 wr t6 ((txs.take k).foldl playN (Yb p0)).1∧((txs.take k).foldl playN (Yb p0)).2=true∧Upd (fun k=>k=t6) w wr)
  case atStart=>exact⟨0,Nat.zero_le _,rfl,rfl,m2.o,k8.o,k5.o⟩
  case round=>
   obtain⟨k,hk,rfl,rfl,b5,c4,f9⟩:=hrel
   have i0:=(f9.block _ (Za g3.o) (fun e=>by have:=b6.o;omega)).trans g3.o
   have c3:=V i0;have l8:=V f9
   by_cases n8:k<txs.length
   ·have o0:(k:Int)<txs.length:=by omega
    obtain⟨x,hx⟩: ∃x,txs[k]?=some x:=⟨_,List.getElem?_eq_getElem n8⟩
    obtain⟨m7,l7⟩:=Zmn (p0:=p0) hx
    obtain⟨s8,d8⟩: ∃s,s=((txs.take k).foldl playN (Yb p0)):=⟨_,rfl⟩
    rw[←d8] at m7 l7 b5 c4
    have l3:=V b5.upd.size
    have m9:=V m7;have n6:=V l7;have l6:=V c4;have i6:=V b5
    have m1:=V (HB.o x (.inr (List.mem_of_getElem? hx)))
    obtain⟨g,v,rfl,y0,e9⟩:=(o6.o.kept0 b5.upd) k x hx
    obtain⟨xa,xc,rfl⟩:=BytesIn.slice' e9
    have o5:=V e9
    clear m7 l7 b5 c4 f9 i0 hx e9 d8
    have o4:IntKind.i64.wrap ((k:Int)+1)=(k:Int)+1:=by rw[IntKind.wrap_i64];have:=HN.o;omega
    go_wp2_with (go_at_call 26;fail)
    refine(Ze2 wr o5.o m1.o.1 (by have:=m1.o.2;omega)).mono ?_
    rintro e w3 ⟨ba,bc,rfl,⟨CB,g8,j5,j0⟩,b8,i8,g7⟩
    obtain⟨B,f4⟩: ∃B,B=(decF x).1:=⟨_,rfl⟩
    obtain⟨E,hE⟩: ∃E,E=(decF x).2:=⟨_,rfl⟩
    rw[←f4] at g8 b8
    rw[←f4,←hE]
    unfold batchV
    simp only[]
    have f2:=V f4;have h5:=V hE;have j6:=V b8
    clear f4 hE
    go_upto_region 13 with fail
    obtain⟨w4,i3,d2,i4⟩:=nb w3 (.cells #[.int .u64 B.epoch,.bool B.large,.slice ba B.sets.length bc] 56)
    rw[←i3]
    have a3:=kb (g7.trans d2) c3.o
    have l0:=V j0
    have j4:=V ((g8.toR (R':=fun k=>k<w3.heap.size) (fun b o e=>(i8 b o e).2)).kept d2 n3Z n3Z);have l5:=V (j5.kept d2 n3Z);have h4:=V i4;have b3:=V (g7.trans d2);have c7:=V a3
    obtain⟨bx,e9⟩: ∃bx,bx=w3.heap.size:=⟨_,rfl⟩
    rw[←e9] at i4 h4 j4 ⊢
    clear g8 j5 j0 b8 i8 g7 d2 i3 e9
    by_cases c6:E=0
    rotate_left
    ·have e8:(E == 0)=false:=by simpa using c6
     have f3:=V (show(foundN p0 txs).2=false by
      rw[m9.o]
      refine Za3 _ _ ?_
      simp only[playN,Bool.and_eq_false_iff]
      exact .inr (by unfold playK;exact decide_eq_false (fun e=>c6 (h5.o.trans e.1))))
     have d4:w4.frozen? ⟨a0,0,none⟩=false:=Zb a3
     have d1:w4.frozen? ⟨a0,1,none⟩=false:=Zb a3
     obtain⟨s0,s1⟩:=Zg a3
     clear a3
     go_wp2
     obtain⟨w9,a4⟩: ∃w9,w9=(w4.setCell ⟨a0,0,none⟩ (.int .u64 0)).setCell ⟨a0,1,none⟩ (.slice none 0 0):=⟨_,rfl⟩
     rw[←a4]
     have b2:Upd (fun j=>j=a0) w4 w9:=by rw[a4];exact(Zd w4 a0 0 _).trans (Zd _ a0 1 _)
     have d3:w9.heap[a0]?=some (.cells #[.int .u64 0,.slice none 0 0] 62 (0,0)):=by
      rw[a4]
      have:=Ze (i:=1) (v:=.slice none 0 0) (Ze (i:=0) (v:=.int .u64 0) c7.o)
      simpa using this
     have d7:=run_loadVar_mid (P:=Tryz.prog) w9 a0 0 62 [.int .u64 0,.slice none 0 0] _ (Zh d3) Tryz.underlying62 rfl (by rw[Zaj];rfl)
     refine bodyPost_ret (Zl Tryz.results121 rfl d7) rfl ?_
     exact⟨(i6.o.upd.trans b3.o).step b2 (fun j hj e=>by have:=b6.o;omega),.inl ⟨f3.o,rfl⟩⟩
    ·subst c6
     have g5:=Ziq m1.o.1 h5.o.symm
     rw[←f2.o] at g5
     have HR:=V g5.2
     have a2:=i6.o.kept0 b3.o
     clear g5 a3
     go_upto_region 15 with fail
     obtain⟨s8,d8⟩: ∃s,s=s8.1:=⟨_,rfl⟩
     rw[←d8] at a2
     have j9:=V d8
     obtain⟨ev,l⟩:=s8
     obtain⟨C9,a9,c9,b1,c2,f6,_,j1,_⟩:=a2.out
     have l1:=V (show∀k,(C9 k∨CB k)→w0.heap.size≤k from fun k hk=>hk.elim (j1 k) (fun e=>Nat.le_trans l3.o (l0.o.1 k e)))
     clear j1
     have a1:=V a2.fine;have k1:=V a2.ev;have h9:=V a2.upd
     simp only at b1 c2 a1 k1
     obtain⟨t0,t1⟩:=Zg b1
     obtain⟨x0,x1,x2⟩:=Zk h4.o
     have k3:=V b1;have i7:=V (c2.moreC (C':=fun k=>C9 k∨CB k) (fun _ e=>.inl e))
     have f5:=V (show RowC w4 (fun k=>C9 k∨CB k) from fun k hk=>hk.elim (f6 k) (l5.o k))
     have h0:=V (j4.o.moreC (C':=fun k=>C9 k∨CB k) (fun _ e=>.inr e))
     have m4:=V (BatchV.right_sets HR.o).2.1
     have f7:=V (Za h4.o)
     clear a2 c2 f6 b1 d8
     go_wp2_with (go_at_call 166;fail)
     refine(Zfg (R:=fun k=>k<bx) w4 i7.o (by have:=a1.o.len;omega) h0.o (by have:=m4.o;omega) f5.o (fun p hp=>(a1.o.each p hp).2.2.2) a1.o.rising (fun k hk=>by have:=f7.o;omega)).mono ?_
     rintro e w5 ⟨d5,h6⟩
     have a7:=kb d5 k3.o
     have d0:=kb d5 c7.o
     have h7:=V a7;have b9:=V d0;have g4:=V d5;have m0:=V (f5.o.kept d5 n3Z)
     have f0:w5.frozen? ⟨t6,0,none⟩=false:=Zb a7
     have f1:w5.frozen? ⟨t6,1,none⟩=false:=Zb a7
     clear t0 t1
     obtain⟨t0,t1⟩:=Zg a7
     clear d5 a7 d0 x0 x1 x2
     rcases h6 with ⟨hd,rfl⟩ | ⟨hd,a5,c5,rfl,g6⟩
     ·obtain⟨E1,e8⟩: ∃E1,E1=doE ev l B:=⟨_,rfl⟩
      rw[←e8] at hd ⊢
      have f3:=V (show(foundN p0 txs).2=false by
       rw[m9.o]
       refine Za3 _ _ ?_
       simp only[playN,Bool.and_eq_false_iff]
       refine .inr ?_
       unfold playK
       rw[←j9.o,←f2.o,←e8]
       exact decide_eq_false (fun e=>hd e.2))
      have c6:(E1 == 0)=false:=by simpa using hd
      clear e8
      simp only[]
      go_upto_region 16 with fail
      obtain⟨w6,b7⟩: ∃w6,w6=(w5.setCell ⟨t6,0,none⟩ (.int .u64 ev)).setCell ⟨t6,1,none⟩ (.slice a9 l.length c9):=⟨_,rfl⟩
      rw[←b7]
      have h2:Upd (fun k=>k=t6) w5 w6:=by rw[b7];exact(Zd w5 t6 0 _).trans (Zd _ t6 1 _)
      have a6:=(h2.block _ (Za b9.o) (fun e=>by have:=b6.o;omega)).trans b9.o
      have d6:=V a6;have k4:=V ((h9.o.trans g4.o).step h2 (fun k hk e=>by have:=b6.o;omega))
      clear b7 h2 f0 f1 t0 t1
      have d4:w6.frozen? ⟨a0,0,none⟩=false:=Zb a6
      have d1:w6.frozen? ⟨a0,1,none⟩=false:=Zb a6
      obtain⟨s0,s1⟩:=Zg a6
      clear a6
      go_wp2
      obtain⟨w9,a4⟩: ∃w9,w9=(w6.setCell ⟨a0,0,none⟩ (.int .u64 0)).setCell ⟨a0,1,none⟩ (.slice none 0 0):=⟨_,rfl⟩
      rw[←a4]
      have b2:Upd (fun j=>j=a0) w6 w9:=by rw[a4];exact(Zd w6 a0 0 _).trans (Zd _ a0 1 _)
      have d3:w9.heap[a0]?=some (.cells #[.int .u64 0,.slice none 0 0] 62 (0,0)):=by
       rw[a4]
       have:=Ze (i:=1) (v:=.slice none 0 0) (Ze (i:=0) (v:=.int .u64 0) d6.o)
       simpa using this
      have d7:=run_loadVar_mid (P:=Tryz.prog) w9 a0 0 62 [.int .u64 0,.slice none 0 0] _ (Zh d3) Tryz.underlying62 rfl (by rw[Zaj];rfl)
      refine bodyPost_ret (Zl Tryz.results121 rfl d7) rfl ?_
      exact⟨k4.o.step b2 (fun j hj e=>by have:=b6.o;omega),.inl ⟨f3.o,rfl⟩⟩
     ·obtain⟨L,hL⟩: ∃L,L=l.withs B.sets:=⟨_,rfl⟩
      rw[←hL] at g6 ⊢
      have g2:B.Ok:=Znd f2.o j6.o HR.o (by
       have: ¬B.epoch<ev:=fun hlt=>by
        unfold doE at hd
        rw[if_pos hlt] at hd
        omega
       have:=k1.o
       omega)
      have h3:=(Zdg a1.o HR.o g2 hd).1
      rw[←hL] at h3
      have g9:=V h3
      have b4:=V (show 0≤B.epoch∧B.epoch≤4611686018427387904 from⟨g2.epoch.1,(BatchV.right_sets HR.o).1⟩)
      have j2:=V (show playN s8 x=((B.epoch,L),true) by
       unfold playN playS playK
       rw[←j9.o,←f2.o,←h5.o,if_pos ⟨rfl,hd⟩,hL,decide_eq_true ⟨rfl,hd⟩,l6.o,Bool.true_and])
      have i5:=V g6
      clear hd g2 h3 g6 hL
      simp only[]
      go_upto_region 16 with fail
      obtain⟨w6,b7⟩: ∃w6,w6=(w5.setCell ⟨t6,0,none⟩ (.int .u64 B.epoch)).setCell ⟨t6,1,none⟩ (.slice a5 L.length c5):=⟨_,rfl⟩
      rw[←b7]
      obtain⟨p1,p2,p3,p4,p5,p6,p7⟩:=Zqg b6.o.2.2 (h9.o.trans g4.o) h7.o i5.o h9.o.size m0.o b7
      have d9:=V p1;have e6:=V p2;have e0:=V p3;have e5:=V p4;have h8:=V p6;have i2:=V p7
      have f8:=V (show Upd (fun k=>k=t6) w w6 from l8.o.trans (((b3.o.trans g4.o).mono (F:=fun _=>False) (fun _ _ e=>e.elim)).trans p5))
      clear b7 f0 f1 t0 t1 p1 p2 p3 p4 p5 p6 p7 i5
      go_wp2
      go_roundg (txs.length - (k+1))
      case measure=>omega
      case rel=>
       refine⟨k+1,by omega,rfl,congrArg _ (by omega),?_,?_,f8.o⟩
       ·rw[n6.o,j2.o]
        exact⟨⟨_,a5,c5,d9.o,e6.o,e0.o,h8.o,l1.o,i2.o⟩,g9.o,b4.o,e5.o,b6.o.2.2⟩
       ·rw[n6.o,j2.o]
   ·obtain rfl:k=txs.length:=by omega
    rw[List.take_length] at b5 c4
    obtain⟨C9,a9,c9,b1,c2,f6,n3,n5⟩:=b5.out
    have h8:=V n3;have i2:=V n5
    clear n3 n5
    have l4:txs.foldl playN (Yb p0)=foundN p0 txs:=rfl
    rw[l4] at b1 c2 c4
    obtain⟨s9,m5⟩: ∃s,s=foundN p0 txs:=⟨_,rfl⟩
    have j8:=b5.fine
    rw[l4] at j8
    rw[←m5] at b1 c2 c4 j8
    obtain⟨⟨ev,l⟩,ok⟩:=s9
    simp only at b1 c2 c4 j8
    have o7:=V m5;have j6:=V j8;have o3:=V b5.upd
    obtain⟨t0,t1⟩:=Zg b1
    have k3:=V b1;have i7:=V c2;have f5:=V f6;have k9:=V c4
    have d4:wr.frozen? ⟨a0,0,none⟩=false:=Zb i0
    have d1:wr.frozen? ⟨a0,1,none⟩=false:=Zb i0
    obtain⟨s0,s1⟩:=Zg i0
    clear b5 c4 f9 i0 b1 c2 f6 l4 m5 j8
    go_wp2
    obtain⟨w9,a4⟩: ∃w9,w9=(wr.setCell ⟨a0,0,none⟩ (.int .u64 ev)).setCell ⟨a0,1,none⟩ (.slice a9 l.length c9):=⟨_,rfl⟩
    rw[←a4]
    have b2:Upd (fun j=>j=a0) wr w9:=by rw[a4];exact(Zd wr a0 0 _).trans (Zd _ a0 1 _)
    have d3:w9.heap[a0]?=some (.cells #[.int .u64 ev,.slice a9 l.length c9] 62 (0,0)):=by
     rw[a4]
     have:=Ze (i:=1) (v:=.slice a9 l.length c9) (Ze (i:=0) (v:=.int .u64 ev) c3.o)
     simpa using this
    have d7:=run_loadVar_mid (P:=Tryz.prog) w9 a0 0 62 [.int .u64 ev,.slice a9 l.length c9] _ (Zh d3) Tryz.underlying62 rfl (by rw[Zaj];rfl)
    refine bodyPost_ret (Zl Tryz.results121 rfl d7) rfl ?_
    unfold RefFoundAns
    rw[←o7.o]
    have m6:=i7.o
    refine⟨o3.o.step b2 (fun j hj e=>by have:=b6.o;omega),.inr ⟨k9.o,j6.o,C9,a9,c9,rfl,fun i p hp=>?_,fun k hk=>?_,fun g o e=>?_,i2.o.1,i2.o.2⟩⟩
    ·obtain⟨g,v,e1,e2,e3,e4⟩:=m6 i p hp
     have m8:g≠a0:=fun e=>by
      obtain⟨ds,q⟩:=h8.o g 0 e1
      rw[e,c3.o] at q
      injection q with q
      injection q with _ q
      exact absurd q (by decide)
     exact⟨g,v,e1,Zo b2 m8 e2,Zo b2 m8 e3,e4.kept b2 (fun j hj e=>by
      obtain⟨ds,q⟩:=f5.o j hj
      rw[e,c3.o] at q
      injection q with q
      injection q with _ q
      exact absurd q (by decide))⟩
    ·obtain⟨ds,q⟩:=f5.o k hk
     refine⟨ds,(b2.block _ (Za q) (fun e=>?_)).trans q⟩
     rw[e,c3.o] at q
     injection q with q
     injection q with _ q
     exact absurd q (by decide)
    ·obtain⟨ds,q⟩:=h8.o g o e
     refine⟨ds,(b2.block _ (Za q) (fun e=>?_)).trans q⟩
     rw[e,c3.o] at q
     injection q with q
     injection q with _ q
     exact absurd q (by decide)
theorem Zpt {ps:List (List Int)}(h:(Zar hd ps D).1=none):(Zar hd ps D).2.1≠0:=by
 unfold Zar at h ⊢
 split at h
 ·cases h
 ·rename_i h1
  rw[if_neg h1]
  exact h1
theorem Zn1 {ps:List (List Int)}(h:(Zar hd ps D).1=some X):X.parts=ps∧X.broken=false:=by
 unfold Zar at h
 split at h
 ·injection h with h
  subst h
  exact⟨rfl,rfl⟩
 ·cases h
theorem Zpr {R:List (List Int)×Int×Dk}(h:(Zaq hd R).1=none):(Zaq hd R).2.1≠0:=by
 unfold Zaq at h ⊢
 split at h
 ·rename_i h1
  rw[if_pos h1]
  split at h
  ·rename_i h2
   rw[if_pos h2]
   show(140:Int)≠0
   decide
  ·rename_i h2
   rw[if_neg h2]
   exact Zpt h
 ·rename_i h1
  rw[if_neg h1]
  exact h1
theorem Zn0 {R:List (List Int)×Int×Dk}(h:(Zaq hd R).1=some X):X.parts≠[]∧X.broken=false:=by
 unfold Zaq at h
 split at h
 ·split at h
  ·cases h
  ·rename_i h2
   obtain⟨h3,h4⟩:=Zn1 h
   exact⟨by rw[h3];exact fun e=>h2 (.inl e),h4⟩
 ·cases h
theorem Zpv {c:Hd×Bool}(h:(Za7 c D).1=none):(Za7 c D).2.1≠0:=by
 unfold Za7 at h ⊢
 split at h
 ·rename_i h1
  rw[if_pos h1]
  show(140:Int)≠0
  decide
 ·rename_i h1
  rw[if_neg h1]
  exact Zpr h
theorem Zn2 {c:Hd×Bool}(h:(Za7 c D).1=some X):X.parts≠[]∧X.broken=false:=by
 unfold Za7 at h
 split at h
 ·cases h
 ·exact Zn0 h
theorem Zfn (h:(openD D).1=none):(openD D).2.1≠0:=by
 unfold openD at h ⊢
 split at h
 ·rename_i h1
  rw[if_pos h1]
  split at h
  ·rename_i h2
   rw[if_pos h2]
   exact Zpv h
  ·rename_i h2
   rw[if_neg h2]
   exact h2
 ·rename_i h1
  rw[if_neg h1]
  exact h1
theorem Zhp (h:(openD D).1=some X):X.parts≠[]∧X.broken=false:=by
 unfold openD at h
 split at h
 ·split at h
  ·exact Zn2 h
  ·cases h
 ·cases h
def RFound (w:World)(p:Nat)(X:Lg)(D':Dk)(F':Nat→Prop)(p0:List Int)(txs:List (List Int))(e:Ending)(w':World):Prop:=
 ∃r q b n C G',e=.returned (.tuple #[.pointer (some ⟨r,0,none⟩),.int .i64 0])∧RegMem w' r q p (foundN p0 txs).1.1 b n C (foundN p0 txs).1.2 (areaN (X.h.area - X.used) X.parts) X D' G' F'∧(foundN p0 txs).1.2.Fine∧
  (0≤(foundN p0 txs).1.1∧(foundN p0 txs).1.1≤4611686018427387904)∧n≤48+48 * X.parts.length∧(∀k,G' k→w.heap.size≤k)∧w.heap.size≤r∧w.heap.size≤b∧(∀k,C k→w.heap.size≤k)
def ROpenAns (w:World)(p K:Nat)(F:Nat→Prop)(R:Option Lg×Int×Dk)(e:Ending)(w':World):Prop:=
 ∃F',Dsk w' p R.2.2 F'∧(∀k,F' k→F k∨w.heap.size≤k)∧Upd F w w'∧R.2.2.Ok (K+1002000)∧match R.1 with
 |none=>e=.returned (.tuple #[.pointer none,.int .i64 R.2.1])
 |some X=>X.Ok∧X.broken=false∧ ∃p0 txs,X.parts=p0 :: txs∧(((foundN p0 txs).2=false∧e=.returned (.tuple #[.pointer none,.int .i64 302]))∨((foundN p0 txs).2=true∧RFound w p X R.2.2 F' p0 txs e w'))
theorem Zpi {p K:Nat}{F:Nat→Prop}(w:World)(hD:Dsk w p D F)(hok:D.Ok K)(hK:K≤1000000000):
  Calls Tryz.prog 35 #[.pointer (some ⟨p,0,none⟩)] w (ROpenAns w p K F (openD D)):=by
 have a9:=Zg5 w hD hok (by omega)
 have h1:=Zfn (D:=D)
 have h2:=fun X=>Zhp (D:=D) (X:=X)
 obtain⟨R,hR⟩: ∃R,R=openD D:=⟨_,rfl⟩
 rw[←hR] at a9 h1 ⊢
 simp only[←hR] at h2
 obtain⟨o,E,D'⟩:=R
 clear hR hD hok hK
 have HC:=V a9
 clear a9
 cases o with
 |none=>
  have hE:E≠0:=h1 rfl
  clear h1 h2
  go_enter Tryz.func35,Tryz.ntmps35
  go_wp2_with (go_at_call 61;fail)
  refine HC.o.mono ?_
  rintro e w1 ⟨F',k1,k2,k3,k4,rfl⟩
  have HK:=V (show ROpenAns w p K F (none,E,D') (.returned (.tuple #[.pointer none,.int .i64 E])) w1 from⟨F',k1,k2,k3,k4,rfl⟩)
  clear k1 k2 k3 k4 HC
  simp only[]
  go_wp2
  go_returns
  exact HK.o
 |some X=>
  obtain⟨b1,b4⟩:=h2 X rfl
  obtain⟨p0,a2,hp⟩: ∃p0 a2,X.parts=p0 :: a2:=by
   cases e:X.parts with
   |nil=>exact absurd e b1
   |cons a b=>exact⟨a,b,rfl⟩
  clear h1 h2 b1
  have b7:=V b4;have HP:=V hp
  clear b4 hp
  go_enter Tryz.func35,Tryz.ntmps35
  go_wp2_with (go_at_call 61;fail)
  refine HC.o.mono ?_
  rintro e w1 ⟨F',k1,k2,k3,k4,q,G',rfl,k5,k6,k7,k8⟩
  have H1:=V k1;have H2:=V k2;have H3:=V k3;have H4:=V k4;have H5:=V k5;have H6:=V k6;have H7:=V k7;have H8:=V k8
  clear k1 k2 k3 k4 k5 k6 k7 k8 HC
  simp only[]
  go_wp2_with (go_at_call 100;fail)
  refine(Zhn w1 H5.o H8.o HP.o).mono ?_
  rintro e w2 ⟨b,n,C,rfl,hm,hf,a5,hn,hb,hc,hu⟩
  obtain⟨s9,a6⟩: ∃s,s=foundN p0 a2:=⟨_,rfl⟩
  obtain⟨b6,a1⟩: ∃x,x=areaN (X.h.area - X.used) X.parts:=⟨_,rfl⟩
  rw[←a6] at hm hf a5
  rw[←a6,←a1]
  have b0:=V a6;have c2:=V a1
  obtain⟨⟨a4,l9⟩,c3⟩:=s9
  simp only at hm hf a5
  have HM:=V hm;have HF:=V hf;have c1:=V a5;have HN:=V hn;have HB:=V hb;have HC:=V hc;have HU:=V hu
  clear hm hf a5 hn hb hc hu a6 a1
  cases c3 with
  |false=>
   simp only[]
   go_wp2
   go_returns
   have b3:=HU.o.trans ((Upd.refl (fun _=>False) w2).alloc (.cells #[.int .u64 a4,.map (some b)] 167))
   refine⟨F',H1.o.kept b3 n3Z,H2.o,H3.o.trans (b3.mono (F:=fun _=>False) (fun _ _ e=>e.elim)),H4.o,H8.o,b7.o,p0,a2,HP.o,.inl ⟨?_,rfl⟩⟩
   rw[←b0.o]
  |true=>
   simp only[]
   obtain⟨w3,a3⟩: ∃w3,w3=(w2.alloc (.cells #[.int .u64 a4,.map (some b)] 167)).alloc (.cells #[.pointer (some ⟨q,0,none⟩),.int .u64 a4,.map (some b),.int .i64 b6] 172):=⟨_,rfl⟩
   have b2:U0 w2 w3:=by rw[a3];exact((Upd.refl _ w2).alloc _).alloc _
   have b5:RegAt w3 (w2.heap.size+1) (.pointer (some ⟨q,0,none⟩)) a4 (.map (some b)) b6:=by
    unfold RegAt
    rw[a3]
    exact Zc (by simp)
   have c0:=V a3;have b8:=V b2;have b9:=V b5
   clear a3 b2 b5
   go_wp2
   go_returns
   rw[←c0.o]
   have c5:=HU.o.size
   have a0:=HU.o.trans b8.o
   have a7:=H5.o.lt
   have a8:=H1.o.lt
   have c4:=H3.o.size
   refine⟨F',H1.o.kept a0 n3Z,H2.o,H3.o.trans (a0.mono (F:=fun _=>False) (fun _ _ e=>e.elim)),H4.o,H8.o,b7.o,p0,a2,HP.o,.inr ⟨by rw[←b0.o],?_⟩⟩
   unfold RFound
   rw[←b0.o,←c2.o]
   exact⟨w2.heap.size+1,q,b,n,C,G',rfl,⟨b9.o,HM.o.kept0 b8.o,⟨H5.o.kept' a0,H1.o.kept a0 n3Z,H7.o⟩,⟨fun e=>by have:=a7 _ e;omega,fun e=>by have:=a8 _ e;omega⟩,⟨fun e=>by have:=a7 _ e;have:=HB.o;omega,fun e=>by have:=a8 _ e;have:=HB.o;omega⟩,fun k hk=>⟨fun e=>by have:=a7 _ e;have:=HC.o k hk;omega,fun e=>by have:=a8 _ e;have:=HC.o k hk;omega⟩⟩,
    HF.o,c1.o,HN.o,H6.o,by omega,by have:=HB.o;omega,fun k hk=>by have:=HC.o k hk;omega⟩
end
end Go.Proofs.YtbimkhdiplnbfaaGreat
