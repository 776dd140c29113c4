/- A register on a good disk, with counters; made. -/
import Derived.Test.YtbimkhdiplnbfaaGreatO3
import Derived.Test.YtbimkhdiplnbfaaGreatO22
import Derived.Test.YtbimkhdiplnbfaaGreatO25
import Derived.Test.YtbimkhdiplnbfaaGreatO27
import Derived.Test.YtbimkhdiplnbfaaGreatO29
open Go.Lib (hid)
set_option linter.unusedVariables false
set_option linter.unusedSimpArgs false
namespace Go.Proofs.YtbimkhdiplnbfaaGreat
set_option maxRecDepth 1000000
set_option maxHeartbeats 16000000
section
open Go.RowKit Go.Shelf
def KV.sumBy (f:ByteArray×List Int→Nat)(l:KV):Nat:=(l.map f).sum
theorem KV.sumBy_cons (f:ByteArray×List Int→Nat)(p:ByteArray×List Int)(l:KV):KV.sumBy f (p :: l)=f p+KV.sumBy f l:=by simp[KV.sumBy]
theorem KV.sumBy_ins (f:ByteArray×List Int→Nat)(s:ByteArray)(v:List Int): ∀l:KV,KV.sumBy f (l.ins s v)=KV.sumBy f l+f (s,v)
 | []=>by simp[KV.ins,KV.sumBy]
 |p :: r=>by
  simp only[KV.ins]
  split
  ·simp only[KV.sumBy_cons];omega
  ·simp only[KV.sumBy_cons,KV.sumBy_ins f s v r];omega
theorem KV.sumBy_del (f:ByteArray×List Int→Nat)(s:ByteArray): ∀l:KV,l.Rising→KV.sumBy f (l.del s)+(match l.get s with | some u=>f (s,u) | none=>0)=KV.sumBy f l
 | [],_=>by simp[KV.del,KV.get,KV.sumBy]
 |p :: r,h=>by
  unfold KV.Rising at h
  rw[List.pairwise_cons] at h
  by_cases e:p.1=s
  ·have hn: ∀q∈r,q.1≠s:=fun q hq e2=>by
    have:=h.1 q hq
    rw[e2,←e] at this
    exact absurd this (List.lt_irrefl _)
   have h1:KV.del (p :: r) s=r:=by
    rw[show KV.del (p :: r) s=KV.del r s from by simp[KV.del,e]]
    exact KV.del_none hn
   have h2:KV.get (p :: r) s=some p.2:=by simp[KV.get,e]
   rw[h1,h2,KV.sumBy_cons]
   subst e
   have e2:f (p.1,p.2)=f p:=rfl
   simp only[e2]
   omega
  ·have h1:KV.del (p :: r) s=p :: KV.del r s:=by simp[KV.del,e]
   have h2:KV.get (p :: r) s=KV.get r s:=by simp[KV.get,e]
   have ih:=KV.sumBy_del f s r h.2
   rw[h1,h2,KV.sumBy_cons,KV.sumBy_cons]
   omega
theorem KV.sumBy_put (f:ByteArray×List Int→Nat){l:KV}(h:l.Rising)(s:ByteArray)(v:List Int):KV.sumBy f (l.put s v)+(match l.get s with | some u=>f (s,u) | none=>0)=KV.sumBy f l+f (s,v):=by
 have h1:=KV.sumBy_del f s l h
 unfold KV.put
 rw[KV.sumBy_ins]
 omega
theorem KV.sumBy_one (l:KV):KV.sumBy (fun _=>1) l=l.length:=by
 induction l with
 |nil=>rfl
 |cons p l ih=>rw[KV.sumBy_cons,ih,List.length_cons];omega
theorem KV.length_put {l:KV}(h:l.Rising)(s:ByteArray)(v:List Int):(l.put s v).length+(match l.get s with | some _=>1 | none=>0)=l.length+1:=by
 have:=KV.sumBy_put (fun _=>1) h s v
 rw[KV.sumBy_one,KV.sumBy_one] at this
 exact this
def RefDoAns (w:World)(C:Nat→Prop)(ev:Int)(l:KV)(a:Option Addr)(c:Nat)(B:BatchV)(e:Ending)(w':World):Prop:=
 Upd (fun _=>False) w w'∧((doE ev l B≠0∧e=.returned (.tuple #[.agg #[.int .u64 ev,.slice a l.length c],.int .i64 (doE ev l B)]))∨
  (doE ev l B=0∧ ∃a' c',e=.returned (.tuple #[.agg #[.int .u64 B.epoch,.slice a' (l.withs B.sets).length c'],.int .i64 0])∧ValRow w' w.heap.size C (.slice a' (l.withs B.sets).length c') (l.withs B.sets)))
theorem KV.length_with {l:KV}(h:l.Rising)(x:SetV):(l.with x).length≤l.length+1:=by
 unfold KV.with
 split
 ·have:=KV.length_put h x.name x.new
  omega
 ·have:=List.length_filter_le (fun p=>!decide (p.1=x.name)) l
  unfold KV.del
  omega
theorem KV.length_withs: ∀(r:List SetV) {l:KV},l.Rising→(l.withs r).length≤l.length+r.length
 | [],l,_=>by simp[KV.withs]
 |x :: r,l,h=>by
  have e:l.withs (x :: r)=(l.with x).withs r:=rfl
  have h1:=KV.length_with h x
  have h2:(l.with x).Rising:=by
   have:=KV.rising_withs h [x]
   exact this
  have:=KV.length_withs r h2
  rw[e,List.length_cons]
  omega
structure RdoAt (w:World) (C:Nat→Prop) (B:BatchV) (l:KV) (t6:Nat) (k:Nat) (W:World):Prop where
 out: ∃a9 c9,W.heap[t6]?=some (.cells #[.int .u64 B.epoch,.slice a9 (l.withs (B.sets.take k)).length c9] 62 (0,0))∧ValRow W w.heap.size C (.slice a9 (l.withs (B.sets.take k)).length c9) (l.withs (B.sets.take k))
 row:RowC W C
 upd:Upd (fun _=>False) w W
 th:(B.sets.take k).all (SetV.thought l)=true
theorem refDo_any {C R:Nat→Prop}{ev:Int}{l:KV}{a sa:Option Addr}{c sc:Nat}{B:BatchV}(w0:World)(hV:ValsAt w0 C a l)(hl:l.length≤900)(hs:SetsAt w0 R C sa B.sets)(hsl:B.sets.length≤60)(hC:RowC w0 C)(hby: ∀p∈l,Bytes p.2)(hri:l.Rising)(hR: ∀k,R k→k<w0.heap.size):
  Calls Tryz.prog 166 #[.agg #[.int .u64 ev,.slice a l.length c],.agg #[.int .u64 B.epoch,.bool B.large,.slice sa B.sets.length sc]] w0 (RefDoAns w0 C ev l a c B):=by
 obtain⟨w,hw⟩: ∃w,w=((w0.alloc (.cells #[.int .u64 ev,.slice a l.length c] 62)).alloc (.cells #[.int .u64 B.epoch,.bool B.large,.slice sa B.sets.length sc] 56)).alloc (.cells #[.int .u64 0,.slice none 0 0] 62):=⟨_,rfl⟩
 have hu:Upd (fun _=>False) w0 w:=by rw[hw];exact(((Upd.refl _ w0).alloc _).alloc _).alloc _
 have hxr:w.heap[w0.heap.size]?=some (.cells #[.int .u64 ev,.slice a l.length c] 62 (0,0)):=by rw[hw];exact(alloc_lt (by simp<;> omega)).trans ((alloc_lt (by simp)).trans (alloc_at rfl))
 have hxb:w.heap[w0.heap.size+1]?=some (.cells #[.int .u64 B.epoch,.bool B.large,.slice sa B.sets.length sc] 56 (0,0)):=by rw[hw];exact(alloc_lt (by simp)).trans (alloc_at (by simp))
 have hxs:w.heap[w0.heap.size+1+1]?=some (.cells #[.int .u64 0,.slice none 0 0] 62 (0,0)):=by rw[hw];exact alloc_at (by simp)
 obtain⟨rb,hrb⟩: ∃x,x=w0.heap.size:=⟨_,rfl⟩
 obtain⟨bb,hbb⟩: ∃x,x=w0.heap.size+1:=⟨_,rfl⟩
 obtain⟨res,hres⟩: ∃x,x=w0.heap.size+1+1:=⟨_,rfl⟩
 rw[←hrb] at hxr
 rw[←hbb] at hxb
 rw[←hres] at hxs
 have HV:=hid (hV.kept0 hu);have HC:=hid (hC.kept hu (fun _ _ e=>e));have HL:=hid (show l.length≤2000 by omega);have HL9:=hid hl;have HS:=hid (hs.kept hu (fun _ _ e=>e) (fun _ _ e=>e));have HSL:=hid hsl;have HBY:=hid hby;have HRI:=hid hri
 have HU:=hid hu;have HRB:=hid hxr;have HBB:=hid hxb;have HRES:=hid hxs;have HRL:=hid (show w0.heap.size≤res by omega)
 obtain⟨r0,r1⟩:=cells2_of hxr
 obtain⟨b0,b1,b2⟩:=cells3_of hxb
 obtain⟨s0,s1⟩:=cells2_of hxs
 have frs0:w.frozen? ⟨res,0,none⟩=false:=frozen_of_heap hxs
 have frs1:w.frozen? ⟨res,1,none⟩=false:=frozen_of_heap hxs
 clear hV hC hl hs hsl hu hxr hxb hxs hby hri hR
 go_enter Tryz.func166,Tryz.ntmps166
 go_upto_region 1 with fail
 rw[←hw,←hres,←hbb,←hrb]
 clear hw hres hbb hrb
 by_cases hpast:B.epoch<ev
 ·have HP:=hid hpast
  go_wp2
  obtain⟨w9,hw9⟩: ∃w9,w9=(w.setCell ⟨res,0,none⟩ (.int .u64 ev)).setCell ⟨res,1,none⟩ (.slice a l.length c):=⟨_,rfl⟩
  rw[←hw9]
  have hu9:Upd (fun j=>j=res) w w9:=by rw[hw9];exact(upd_own w res 0 _).trans (upd_own _ res 1 _)
  have hx9:w9.heap[res]?=some (.cells #[.int .u64 ev,.slice a l.length c] 62 (0,0)):=by
   rw[hw9]
   have:=blk_set (i:=1) (v:=.slice a l.length c) (blk_set (i:=0) (v:=.int .u64 ev) HRES.out)
   simpa using this
  have hl3:=run_loadVar_mid (P:=Tryz.prog) w9 res 0 62 [.int .u64 ev,.slice a l.length c] _ (rangeAt_block hx9) Tryz.underlying62 rfl (by rw[size62];rfl)
  refine bodyPost_ret (results_cell_tmp Tryz.results166 rfl hl3) rfl ?_
  have hd:doE ev l B=300:=by unfold doE;rw[if_pos HP.out]
  exact⟨HU.out.step hu9 (fun j hj e=>by have:=HRL.out;omega),.inl ⟨by rw[hd];decide,by rw[hd];rfl⟩⟩
 ·have HP:=hid hpast
  go_upto_region 3 with fail
  have hA:Upd (fun _=>False) w w.drew:=(Upd.refl _ w).drew
  clear r0 r1 b0 b1 b2 s0 s1 frs0 frs1
  go_cut [6] from 17 to 24 (fun v6 wx=> ∃t6 a9 c9,v6=.pointer (some ⟨t6,0,none⟩)∧wx.heap[t6]?=some (.cells #[.int .u64 B.epoch,.slice a9 l.length c9] 62 (0,0))∧ValRow wx w.heap.size C (.slice a9 l.length c9) l∧RowC wx C∧Upd (fun _=>False) w wx∧w.heap.size≤t6)
  case first=>
   refine wp_region_G 8 (fun W=>Upd (fun _=>False) w W) [false,false,false,false,false,false,false,false,false] rfl (by kernel_rfl) ?_
   generalize w.drew=wd at hA ⊢
   refine tqZ 0 (.pointer (some ⟨bb,0,none⟩)) [] hA (fun w5 q1=>?_) ?_
   ·go_simp
   simp only[pZ,nZ,bZ,List.set]
   refine tqZ 1 (.int .u64 B.epoch) [] hA (fun w5 q1=>?_) ?_
   ·obtain⟨c0,c1,c2⟩:=cells3_of ((q1.block _ (lt_of_heap HBB.out) (fun e=>e)).trans HBB.out)
    go_simp
   simp only[pZ,nZ,bZ,List.set]
   refine tqZ 3 (.pointer (some ⟨rb,1,none⟩)) [] hA (fun w5 q1=>?_) ?_
   ·go_simp
   simp only[pZ,nZ,bZ,List.set]
   refine tqZ 4 (.slice a l.length c) [] hA (fun w5 q1=>?_) ?_
   ·obtain⟨c0,c1⟩:=cells2_of ((q1.block _ (lt_of_heap HRB.out) (fun e=>e)).trans HRB.out)
    go_simp
   simp only[pZ,nZ,bZ,List.set]
   refine wpG_do2 (i:=2) (j:=7) rfl rfl (by kernel_rfl) rfl rfl (fun K hK=>?_) (fun K hK=>?_)
   ·have HKK:=hid hK
    clear hK
    go_step
    have he:(wd.alloc (.cells #[] 164)).heap[wd.heap.size]?=some (.cells #[] 164 (0,0)):=alloc_at rfl
    refine HKK.out _ _ (hA.alloc (.cells #[] 164)) ?_
    clear HKK
    simp only[pZ,nZ,bZ,List.set]
    have hebl:w.heap.size≤wd.heap.size:=hA.size
    replace hA:=hA.alloc (.cells #[] 164)
    generalize wd.heap.size=eb at he hebl ⊢
    generalize wd.alloc (.cells #[] 164)=c2 at he hA ⊢
    refine wpG_do2 (i:=5) (j:=7) rfl rfl (by kernel_rfl) rfl rfl (fun K hK=>?_) (fun K hK=>?_)
    ·obtain⟨a9,c9,w9,hr,hvr,hu9,hc9⟩:=run_appVs (ty:=60) (kc:=c) (B:=w.heap.size) he (HV.out.kept0 hA) (HC.out.kept hA (fun _ _ e=>e)) HL.out hebl
     have HKK:=hid hK
     clear hK
     refine Lib.wp_append_run _ (.tmp 19) (.tmp 21) 60 60 rfl _ _ rfl rfl _ w9 hr ?_
     replace hA:=hA.step hu9 (fun k hk e=>by omega)
     refine HKK.out _ _ hA ?_
     clear HKK hr hu9 he
     simp only[pZ,nZ,bZ,List.set]
     refine tqZ 6 (.agg #[.int .u64 B.epoch,.slice a9 l.length c9]) [] hA (fun w5 q1=>?_) ?_
     ·go_simp
     simp only[pZ,nZ,bZ,List.set]
     refine wpG_do (i:=7) rfl (by kernel_rfl) rfl (fun K hK=>?_)
     have HKK:=hid hK
     clear hK
     go_step
     have ht:(w9.alloc (.cells #[.int .u64 0,.slice none 0 0] 62)).heap[w9.heap.size]?=some (.cells #[.int .u64 0,.slice none 0 0] 62 (0,0)):=alloc_at rfl
     have hown9: ∀j,(Value.slice a9 l.length c9).ownBlock=some j→j<w9.heap.size:=fun j e=>by obtain⟨L,_,h4,_⟩:=hvr;exact(World.ownsRow.lt h4 j e).2
     replace hvr:=hvr.kept ((Upd.refl (fun _=>False) w9).alloc (.cells #[.int .u64 0,.slice none 0 0] 62)) (fun _ _ e=>e) (fun _ _ e=>e)
     replace hc9:=hc9.kept ((Upd.refl (fun _=>False) w9).alloc (.cells #[.int .u64 0,.slice none 0 0] 62)) (fun _ _ e=>e)
     refine HKK.out _ _ (hA.alloc (.cells #[.int .u64 0,.slice none 0 0] 62)) ?_
     clear HKK
     simp only[pZ,nZ,bZ,List.set]
     have htbl:w.heap.size≤w9.heap.size:=hA.size
     replace hA:=hA.alloc (.cells #[.int .u64 0,.slice none 0 0] 62)
     generalize w9.heap.size=tb at ht htbl hown9 ⊢
     generalize w9.alloc (.cells #[.int .u64 0,.slice none 0 0] 62)=c4 at ht hA hvr hc9 ⊢
     refine wpG_tail_lit (k:=8) rfl rfl (by kernel_rfl) ?_
     simp only[List.drop]
     have fr0:c4.frozen? ⟨tb,0,none⟩=false:=frozen_of_heap ht
     have fr1:c4.frozen? ⟨tb,1,none⟩=false:=frozen_of_heap ht
     obtain⟨t0,t1⟩:=cells2_of ht
     have HT:=hid ht;have HVR:=hid hvr;have HC9:=hid hc9;have HA9:=hid hA;have HTB:=hid htbl;have HOW:=hid (show∀j,(Value.slice a9 l.length c9).ownBlock=some j→j≠tb from fun j e=>by have:=hown9 j e;omega)
     clear ht hvr hc9 hA htbl hown9
     go_wp2
     go_meet
     case rel=>
      have hu8:Upd (fun j=>j=tb) c4 ((c4.setCell ⟨tb,0,none⟩ (.int .u64 B.epoch)).setCell ⟨tb,1,none⟩ (.slice a9 l.length c9)):=(upd_own c4 tb 0 _).trans (upd_own _ tb 1 _)
      refine⟨tb,a9,c9,rfl,by simpa using blk_set (i:=1) (v:=.slice a9 l.length c9) (blk_set (i:=0) (v:=.int .u64 B.epoch) HT.out),HVR.out.kept hu8 (fun j hj e=>HOW.out j hj e) (fun j hj e=>?_),HC9.out.kept hu8 (fun j hj e=>?_),HA9.out.step hu8 (fun j hj e=>by have:=HTB.out;omega),HTB.out⟩
      all_goals
       obtain⟨cs9,q9⟩:=HC9.out j hj
       rw[e,HT.out] at q9
       injection q9 with q9
       injection q9 with _ q9
       exact absurd q9 (by decide)
    ·have HKK:=hid hK
     clear hK
     go_step
     have ht:(c2.alloc (.cells #[.int .u64 0,.slice none 0 0] 62)).heap[c2.heap.size]?=some (.cells #[.int .u64 0,.slice none 0 0] 62 (0,0)):=alloc_at rfl
     have hte:c2.heap.size≠eb:=fun e=>by have:=lt_of_heap he;omega
     replace he:=((((Upd.refl (fun _=>False) c2).alloc (.cells #[.int .u64 0,.slice none 0 0] 62)).block _ (lt_of_heap he) (fun e=>e)).trans he)
     refine HKK.out _ _ (hA.alloc (.cells #[.int .u64 0,.slice none 0 0] 62)) ?_
     clear HKK
     simp only[pZ,nZ,bZ,List.set]
     have htbl:w.heap.size≤c2.heap.size:=hA.size
     replace hA:=hA.alloc (.cells #[.int .u64 0,.slice none 0 0] 62)
     generalize c2.heap.size=tb at ht htbl hte ⊢
     generalize c2.alloc (.cells #[.int .u64 0,.slice none 0 0] 62)=c3 at ht hA he ⊢
     refine wpG_do (i:=5) rfl (by kernel_rfl) rfl (fun K hK=>?_)
     obtain⟨a9,c9,w9,hr,hvr,hu9,hc9⟩:=run_appVs (ty:=60) (kc:=c) (B:=w.heap.size) he (HV.out.kept0 hA) (HC.out.kept hA (fun _ _ e=>e)) HL.out hebl
     have HKK:=hid hK
     clear hK
     refine Lib.wp_append_run _ (.tmp 19) (.tmp 21) 60 60 rfl _ _ rfl rfl _ w9 hr ?_
     replace hA:=hA.step hu9 (fun k hk e=>by omega)
     have hown9: ∀j,(Value.slice a9 l.length c9).ownBlock=some j→j≠tb:=fun j e e2=>by
      subst e2
      obtain⟨cs9,q9⟩:=hvr.block164 e
      rw[(hu9.block _ (lt_of_heap ht) (fun e=>hte e)).trans ht] at q9
      injection q9 with q9
      injection q9 with _ q9
      exact absurd q9 (by decide)
     replace ht:=(hu9.block _ (lt_of_heap ht) (fun e=>hte e)).trans ht
     refine HKK.out _ _ hA ?_
     clear HKK hr hu9 he
     simp only[pZ,nZ,bZ,List.set]
     refine tqZ 6 (.agg #[.int .u64 B.epoch,.slice a9 l.length c9]) [] hA (fun w5 q1=>?_) ?_
     ·go_simp
     simp only[pZ,nZ,bZ,List.set]
     refine wpG_tail_lit (k:=8) rfl rfl (by kernel_rfl) ?_
     simp only[List.drop]
     have fr0:w9.frozen? ⟨tb,0,none⟩=false:=frozen_of_heap ht
     have fr1:w9.frozen? ⟨tb,1,none⟩=false:=frozen_of_heap ht
     obtain⟨t0,t1⟩:=cells2_of ht
     have HT:=hid ht;have HVR:=hid hvr;have HC9:=hid hc9;have HA9:=hid hA;have HTB:=hid htbl;have HOW:=hid (show∀j,(Value.slice a9 l.length c9).ownBlock=some j→j≠tb from hown9)
     clear ht hvr hc9 hA htbl hown9
     go_wp2
     go_meet
     case rel=>
      have hu8:Upd (fun j=>j=tb) w9 ((w9.setCell ⟨tb,0,none⟩ (.int .u64 B.epoch)).setCell ⟨tb,1,none⟩ (.slice a9 l.length c9)):=(upd_own w9 tb 0 _).trans (upd_own _ tb 1 _)
      refine⟨tb,a9,c9,rfl,by simpa using blk_set (i:=1) (v:=.slice a9 l.length c9) (blk_set (i:=0) (v:=.int .u64 B.epoch) HT.out),HVR.out.kept hu8 (fun j hj e=>HOW.out j hj e) (fun j hj e=>?_),HC9.out.kept hu8 (fun j hj e=>?_),HA9.out.step hu8 (fun j hj e=>by have:=HTB.out;omega),HTB.out⟩
      all_goals
       obtain⟨cs9,q9⟩:=HC9.out j hj
       rw[e,HT.out] at q9
       injection q9 with q9
       injection q9 with _ q9
       exact absurd q9 (by decide)
   ·have HKK:=hid hK
    clear hK
    go_step
    have ht:(wd.alloc (.cells #[.int .u64 0,.slice none 0 0] 62)).heap[wd.heap.size]?=some (.cells #[.int .u64 0,.slice none 0 0] 62 (0,0)):=alloc_at rfl
    refine HKK.out _ _ (hA.alloc (.cells #[.int .u64 0,.slice none 0 0] 62)) ?_
    clear HKK
    simp only[pZ,nZ,bZ,List.set]
    have htbl:w.heap.size≤wd.heap.size:=hA.size
    replace hA:=hA.alloc (.cells #[.int .u64 0,.slice none 0 0] 62)
    generalize wd.heap.size=tb at ht htbl ⊢
    generalize wd.alloc (.cells #[.int .u64 0,.slice none 0 0] 62)=c1 at ht hA ⊢
    have ht0:=ht
    refine wpG_do (i:=2) rfl (by kernel_rfl) rfl (fun K hK=>?_)
    have HKK:=hid hK
    clear hK
    go_step
    have he:(c1.alloc (.cells #[] 164)).heap[c1.heap.size]?=some (.cells #[] 164 (0,0)):=alloc_at rfl
    replace ht:=((((Upd.refl (fun _=>False) c1).alloc (.cells #[] 164)).block _ (lt_of_heap ht) (fun e=>e)).trans ht)
    have hte:tb≠c1.heap.size:=fun e=>by have:=lt_of_heap ht0;omega
    refine HKK.out _ _ (hA.alloc (.cells #[] 164)) ?_
    clear HKK
    simp only[pZ,nZ,bZ,List.set]
    have hebl:w.heap.size≤c1.heap.size:=hA.size
    replace hA:=hA.alloc (.cells #[] 164)
    generalize c1.heap.size=eb at he hebl hte ⊢
    generalize c1.alloc (.cells #[] 164)=c2 at he hA ht ⊢
    refine wpG_do (i:=5) rfl (by kernel_rfl) rfl (fun K hK=>?_)
    obtain⟨a9,c9,w9,hr,hvr,hu9,hc9⟩:=run_appVs (ty:=60) (kc:=c) (B:=w.heap.size) he (HV.out.kept0 hA) (HC.out.kept hA (fun _ _ e=>e)) HL.out hebl
    have HKK:=hid hK
    clear hK
    refine Lib.wp_append_run _ (.tmp 19) (.tmp 21) 60 60 rfl _ _ rfl rfl _ w9 hr ?_
    replace hA:=hA.step hu9 (fun k hk e=>by omega)
    have hown9: ∀j,(Value.slice a9 l.length c9).ownBlock=some j→j≠tb:=fun j e e2=>by
     subst e2
     obtain⟨cs9,q9⟩:=hvr.block164 e
     rw[(hu9.block _ (lt_of_heap ht) (fun e=>hte e)).trans ht] at q9
     injection q9 with q9
     injection q9 with _ q9
     exact absurd q9 (by decide)
    replace ht:=(hu9.block _ (lt_of_heap ht) (fun e=>hte e)).trans ht
    refine HKK.out _ _ hA ?_
    clear HKK hr hu9 he
    simp only[pZ,nZ,bZ,List.set]
    refine tqZ 6 (.agg #[.int .u64 B.epoch,.slice a9 l.length c9]) [] hA (fun w5 q1=>?_) ?_
    ·go_simp
    simp only[pZ,nZ,bZ,List.set]
    refine wpG_tail_lit (k:=8) rfl rfl (by kernel_rfl) ?_
    simp only[List.drop]
    have fr0:w9.frozen? ⟨tb,0,none⟩=false:=frozen_of_heap ht
    have fr1:w9.frozen? ⟨tb,1,none⟩=false:=frozen_of_heap ht
    obtain⟨t0,t1⟩:=cells2_of ht
    have HT:=hid ht;have HVR:=hid hvr;have HC9:=hid hc9;have HA9:=hid hA;have HTB:=hid htbl;have HOW:=hid (show∀j,(Value.slice a9 l.length c9).ownBlock=some j→j≠tb from hown9)
    clear ht hvr hc9 hA htbl hown9
    go_wp2
    go_meet
    case rel=>
     have hu8:Upd (fun j=>j=tb) w9 ((w9.setCell ⟨tb,0,none⟩ (.int .u64 B.epoch)).setCell ⟨tb,1,none⟩ (.slice a9 l.length c9)):=(upd_own w9 tb 0 _).trans (upd_own _ tb 1 _)
     refine⟨tb,a9,c9,rfl,by simpa using blk_set (i:=1) (v:=.slice a9 l.length c9) (blk_set (i:=0) (v:=.int .u64 B.epoch) HT.out),HVR.out.kept hu8 (fun j hj e=>HOW.out j hj e) (fun j hj e=>?_),HC9.out.kept hu8 (fun j hj e=>?_),HA9.out.step hu8 (fun j hj e=>by have:=HTB.out;omega),HTB.out⟩
     all_goals
      obtain⟨cs9,q9⟩:=HC9.out j hj
      rw[e,HT.out] at q9
      injection q9 with q9
      injection q9 with _ q9
      exact absurd q9 (by decide)
  case rest=>
   obtain⟨t6,a9,c9,rfl,hx6,hvr,hc9,hu6,ht6⟩:=hcut
   have HX6:=hid hx6;have HVR:=hid hvr;have HC9:=hid hc9;have HU6:=hid hu6;have HT6:=hid ht6
   have hxb6:=(hu6.block _ (lt_of_heap HBB.out) (fun e=>e)).trans HBB.out
   obtain⟨b0,b1,b2⟩:=cells3_of hxb6
   have hst:RdoAt w C B l t6 0 wc:=⟨⟨a9,c9,hx6,hvr⟩,hc9,hu6,rfl⟩
   have HST:=hid hst
   have HRL2:=hid (show w0.heap.size≤res from HRL.out)
   clear hx6 hvr hc9 hu6 ht6 hxb6 hst HX6 HVR HC9
   go_upto_block 0 with fail
   go_upto_region 5 with fail
   go_loopg [27] B.sets.length (fun gk i wr=> ∃k:Nat,k≤B.sets.length∧gk=B.sets.length - k∧i=.int .i64 k∧RdoAt w C B l t6 k wr)
   case atStart=>exact⟨0,Nat.zero_le _,rfl,rfl,HST.out⟩
   case round=>
    obtain⟨k,hk,rfl,rfl,hda⟩:=hrel
    have HDA:=hid hda
    clear hda
    by_cases hkn:k<B.sets.length
    ·have hkni:(k:Int)<B.sets.length:=by omega
     obtain⟨x,hxk⟩: ∃x,B.sets[k]?=some x:=⟨_,List.getElem?_eq_getElem hkn⟩
     obtain⟨nm,xw,xi,xo,xn⟩:=x
     obtain⟨_,_,_,sb,so,rfl,hsb,oa,oc,na,nc,k0,k1,k2,k3,k4,k5,k6,k7,k8⟩:=(HS.out.kept HDA.out.upd (fun _ _ e=>e) (fun _ _ e=>e)) k _ hxk
     simp only at k0 k1 k2 k3 k4 k5 k6 k7 k8
     have HXK:=hid hxk;have HK5:=hid k5;have HK6:=hid k6;have HK7:=hid k7
     clear hxk k5 k6 k7 k8 hsb
     go_upto_region 7 with fail
     obtain⟨wa,hwa⟩: ∃wa,wa=wr.alloc (.cells #[.string nm,.bool xw,.bool xi,.slice oa xo.length oc,.slice na xn.length nc] 73):=⟨_,rfl⟩
     rw[←hwa]
     have hua:Upd (fun _=>False) wr wa:=by rw[hwa];exact(Upd.refl _ wr).alloc _
     have hxa:wa.heap[wr.heap.size]?=some (.cells #[.string nm,.bool xw,.bool xi,.slice oa xo.length oc,.slice na xn.length nc] 73 (0,0)):=by rw[hwa];exact alloc_at rfl
     obtain⟨xb,hxb⟩: ∃xb,xb=wr.heap.size:=⟨_,rfl⟩
     rw[←hxb] at hxa ⊢
     have hrba:=((HDA.out.upd.trans hua).block _ (lt_of_heap HRB.out) (fun e=>e)).trans HRB.out
     obtain⟨r0,r1⟩:=cells2_of hrba
     obtain⟨x0,x1,x2,x3,x4⟩:=cells5_of hxa
     have HGV:=hid (get_val (c:=c) (s:=nm) wa (HV.out.kept0 (HDA.out.upd.trans hua)) (by have:=HL9.out;omega))
     have HUA:=hid (HDA.out.upd.trans hua);have HXA:=hid hxa;have HUA1:=hid hua
     clear hwa hua hxa hxb hrba k0 k1 k2 k3 k4
     go_wp2_with (go_at_call 32;fail)
     refine HGV.out.mono ?_
     rintro e wd ⟨v,rfl,g1,g2⟩
     obtain⟨bo,hbo⟩: ∃bo,bo=(l.get nm).isSome:=⟨_,rfl⟩
     obtain⟨vo,hvo⟩: ∃vo,vo=(l.get nm).getD []:=⟨_,rfl⟩
     rw[←hvo] at g1
     rw[←hbo]
     obtain⟨va,vc,rfl,_⟩:=g1.slice
     have hvb:Bytes vo:=by
      rw[hvo]
      cases e:l.get nm with
      |none=>exact fun y hy=>by simp at hy
      |some u=>exact HBY.out _ ((KV.get_some HRI.out).1 e)
     have hse:=str_eq hvb HK7.out
     have huwd:=HUA1.out.trans g2
     have hcv1:=conv_str g1.bytesIn
     have hcv3:=conv_str ((HK5.out.kept huwd (fun _ _ e=>e)).bytesIn)
     have hxd:=(g2.block _ (lt_of_heap HXA.out) (fun e=>e)).trans HXA.out
     obtain⟨x0,x1,x2,x3,x4⟩:=cells5_of hxd
     obtain⟨a9,c9,ht9,hr9⟩:=HDA.out.out
     have htd:=(huwd.block _ (lt_of_heap ht9) (fun e=>e)).trans ht9
     obtain⟨t0,t1⟩:=cells2_of htd
     have hrd:=hr9.kept huwd (fun _ _ e=>e) (fun _ _ e=>e)
     have hcd:=HDA.out.row.kept huwd (fun _ _ e=>e)
     have hlw:=KV.length_withs (B.sets.take k) HRI.out
     have HWI:=hid (with_any (x:=⟨nm,xw,xi,xo,xn⟩) (oa:=oa) (oc:=oc) (c:=c9) wd hrd.valsAt (by have h1:=HSL.out;have h2:=HL9.out;rw[List.length_take] at hlw;omega) (HK6.out.kept huwd (fun _ _ e=>e)) hcd)
     have HUD:=hid (HUA.out.trans g2);have HTD:=hid htd;have HCD:=hid hcd;have HSE:=hid hse;have HBO:=hid hbo;have HVO:=hid hvo
     have hrbd:=((HUA.out.trans g2).block _ (lt_of_heap HRB.out) (fun e=>e)).trans HRB.out
     obtain⟨r0,r1⟩:=cells2_of hrbd
     clear g1 g2 hvb hse huwd hxd ht9 hr9 htd hrd hcd hlw hbo hvo HGV hrbd HXA HUA1
     simp only[]
     go_upto_region 8 with fail
     cases xw with
     |true=>
      cases hbo2:bo with
      |true=>
       subst hbo2
       by_cases hvo:vo=xo
       ·have e2:((strOfNums vo).toList == (strOfNums xo).toList)=true:=by rw[HSE.out];exact decide_eq_true hvo
        have HVO9:=hid hvo
        clear hvo
        have hx0:(SetV.thought l ⟨nm,true,xi,xo,xn⟩)=true:=by unfold SetV.thought;rw[←HBO.out,←HVO.out,decide_eq_true HVO9.out];rfl
        have HX0:=hid hx0
        clear hx0
        go_wp2_with (go_at_call 192;fail)
        refine HWI.out.mono ?_
        rintro e we ⟨a8,c8,rfl,hr8,hu8⟩
        have hr8':ValRow we w.heap.size C (.slice a8 ((l.withs (B.sets.take k)).with ⟨nm,true,xi,xo,xn⟩).length c8) ((l.withs (B.sets.take k)).with ⟨nm,true,xi,xo,xn⟩):=hr8.low HUD.out.size
        have ht8:=(hu8.block _ (lt_of_heap HTD.out) (fun e=>e)).trans HTD.out
        have hc8:=HCD.out.kept hu8 (fun _ _ e=>e)
        have fr1:we.frozen? ⟨t6,1,none⟩=false:=frozen_of_heap ht8
        obtain⟨y0,y1⟩:=cells2_of ht8
        have HR8:=hid hr8';have HT8:=hid ht8;have HC8:=hid hc8;have HU8:=hid (HUD.out.trans hu8)
        clear hr8 hu8 hr8' ht8 hc8 HWI
        simp only[]
        go_upto_region 11 with fail
        obtain⟨wf,hwf⟩: ∃wf,wf=we.setCell ⟨t6,1,none⟩ (.slice a8 ((l.withs (B.sets.take k)).with ⟨nm,true,xi,xo,xn⟩).length c8):=⟨_,rfl⟩
        refine(?_:Code.wp _ _ _ _ (we.setCell ⟨t6,1,none⟩ (.slice a8 ((l.withs (B.sets.take k)).with ⟨nm,true,xi,xo,xn⟩).length c8)))
        rw[←hwf]
        have huf:Upd (fun j=>j=t6) we wf:=by rw[hwf];exact upd_own we t6 1 _
        have hxf:wf.heap[t6]?=some (.cells #[.int .u64 B.epoch,.slice a8 ((l.withs (B.sets.take k)).with ⟨nm,true,xi,xo,xn⟩).length c8] 62 (0,0)):=by
         rw[hwf]
         have:=blk_set (i:=1) (v:=.slice a8 ((l.withs (B.sets.take k)).with ⟨nm,true,xi,xo,xn⟩).length c8) HT8.out
         simpa using this
        have hap: ∀j,C j→ ¬j=t6:=fun j hj e=>by
         obtain⟨cs9,q9⟩:=HC8.out j hj
         rw[e,HT8.out] at q9
         injection q9 with q9
         injection q9 with _ q9
         exact absurd q9 (by decide)
        have hrf:=HR8.out.kept huf (fun j hj e=>by
         obtain⟨cs9,q9⟩:=HR8.out.block164 hj
         rw[e,HT8.out] at q9
         injection q9 with q9
         injection q9 with _ q9
         exact absurd q9 (by decide)) hap
        have hcf:=HC8.out.kept huf hap
        have htk:B.sets.take (k+1)=B.sets.take k++[⟨nm,true,xi,xo,xn⟩]:=by
         obtain⟨h1,h2⟩:=List.getElem?_eq_some_iff.1 HXK.out
         rw[List.take_succ_eq_append_getElem h1,h2]
        have hst:RdoAt w C B l t6 (k+1) wf:=⟨⟨a8,c8,by rw[htk,KV.withs_snoc];exact hxf,by rw[htk,KV.withs_snoc];exact hrf⟩,hcf,HU8.out.step huf (fun j hj e=>by have:=HT6.out;omega),by rw[htk,List.all_append,HDA.out.th,Bool.true_and];simpa using HX0.out⟩
        have HST:=hid hst
        have hcv2:IntKind.i64.wrap ((k:Int)+1)=(k:Int)+1:=by rw[IntKind.wrap_i64];have:=HSL.out;omega
        clear hwf huf hxf hap hrf hcf htk hst
        go_wp2
        go_roundg (B.sets.length - (k+1))
        case measure=>omega
        case rel=>exact⟨k+1,by omega,rfl,by go_num,HST.out⟩
       ·have e2:((strOfNums vo).toList == (strOfNums xo).toList)=false:=by rw[HSE.out];exact decide_eq_false hvo
        have HVO9:=hid hvo
        clear hvo
        have hx0:(SetV.thought l ⟨nm,true,xi,xo,xn⟩)=false:=by unfold SetV.thought;rw[←HBO.out,←HVO.out,decide_eq_false HVO9.out,Bool.and_false]
        have hd:doE ev l B=301:=by
         unfold doE
         rw[if_neg (show¬B.epoch<ev by have:=HP.out;omega),if_neg (fun h=>by
          have h1:=List.all_eq_true.1 h _ (List.mem_of_getElem? HXK.out)
          rw[hx0] at h1
          cases h1)]
        have HD:=hid hd
        have hrs:=(HUD.out.block _ (lt_of_heap HRES.out) (fun e=>e)).trans HRES.out
        obtain⟨s0,s1⟩:=cells2_of hrs
        have frs0:wd.frozen? ⟨res,0,none⟩=false:=frozen_of_heap hrs
        have frs1:wd.frozen? ⟨res,1,none⟩=false:=frozen_of_heap hrs
        have HRSD:=hid hrs
        clear hx0 hd hrs
        go_wp2
        obtain⟨w9,hw9⟩: ∃w9,w9=(wd.setCell ⟨res,0,none⟩ (.int .u64 ev)).setCell ⟨res,1,none⟩ (.slice a l.length c):=⟨_,rfl⟩
        rw[←hw9]
        have hu9:Upd (fun j=>j=res) wd w9:=by rw[hw9];exact(upd_own wd res 0 _).trans (upd_own _ res 1 _)
        have hx9:w9.heap[res]?=some (.cells #[.int .u64 ev,.slice a l.length c] 62 (0,0)):=by
         rw[hw9]
         have:=blk_set (i:=1) (v:=.slice a l.length c) (blk_set (i:=0) (v:=.int .u64 ev) HRSD.out)
         simpa using this
        have hl3:=run_loadVar_mid (P:=Tryz.prog) w9 res 0 62 [.int .u64 ev,.slice a l.length c] _ (rangeAt_block hx9) Tryz.underlying62 rfl (by rw[size62];rfl)
        refine bodyPost_ret (results_cell_tmp Tryz.results166 rfl hl3) rfl ?_
        exact⟨(HU.out.trans HUD.out).step hu9 (fun j hj e=>by have:=HRL2.out;omega),.inl ⟨by rw[HD.out];decide,by rw[HD.out];rfl⟩⟩
      |false=>
       subst hbo2
       have hx0:(SetV.thought l ⟨nm,true,xi,xo,xn⟩)=false:=by unfold SetV.thought;rw[←HBO.out];rfl
       have hd:doE ev l B=301:=by
        unfold doE
        rw[if_neg (show¬B.epoch<ev by have:=HP.out;omega),if_neg (fun h=>by
         have h1:=List.all_eq_true.1 h _ (List.mem_of_getElem? HXK.out)
         rw[hx0] at h1
         cases h1)]
       have HD:=hid hd
       have hrs:=(HUD.out.block _ (lt_of_heap HRES.out) (fun e=>e)).trans HRES.out
       obtain⟨s0,s1⟩:=cells2_of hrs
       have frs0:wd.frozen? ⟨res,0,none⟩=false:=frozen_of_heap hrs
       have frs1:wd.frozen? ⟨res,1,none⟩=false:=frozen_of_heap hrs
       have HRSD:=hid hrs
       clear hx0 hd hrs
       go_wp2
       obtain⟨w9,hw9⟩: ∃w9,w9=(wd.setCell ⟨res,0,none⟩ (.int .u64 ev)).setCell ⟨res,1,none⟩ (.slice a l.length c):=⟨_,rfl⟩
       rw[←hw9]
       have hu9:Upd (fun j=>j=res) wd w9:=by rw[hw9];exact(upd_own wd res 0 _).trans (upd_own _ res 1 _)
       have hx9:w9.heap[res]?=some (.cells #[.int .u64 ev,.slice a l.length c] 62 (0,0)):=by
        rw[hw9]
        have:=blk_set (i:=1) (v:=.slice a l.length c) (blk_set (i:=0) (v:=.int .u64 ev) HRSD.out)
        simpa using this
       have hl3:=run_loadVar_mid (P:=Tryz.prog) w9 res 0 62 [.int .u64 ev,.slice a l.length c] _ (rangeAt_block hx9) Tryz.underlying62 rfl (by rw[size62];rfl)
       refine bodyPost_ret (results_cell_tmp Tryz.results166 rfl hl3) rfl ?_
       exact⟨(HU.out.trans HUD.out).step hu9 (fun j hj e=>by have:=HRL2.out;omega),.inl ⟨by rw[HD.out];decide,by rw[HD.out];rfl⟩⟩
     |false=>
      cases hbo2:bo with
      |true=>
       subst hbo2
       have hx0:(SetV.thought l ⟨nm,false,xi,xo,xn⟩)=false:=by unfold SetV.thought;rw[←HBO.out];rfl
       have hd:doE ev l B=301:=by
        unfold doE
        rw[if_neg (show¬B.epoch<ev by have:=HP.out;omega),if_neg (fun h=>by
         have h1:=List.all_eq_true.1 h _ (List.mem_of_getElem? HXK.out)
         rw[hx0] at h1
         cases h1)]
       have HD:=hid hd
       have hrs:=(HUD.out.block _ (lt_of_heap HRES.out) (fun e=>e)).trans HRES.out
       obtain⟨s0,s1⟩:=cells2_of hrs
       have frs0:wd.frozen? ⟨res,0,none⟩=false:=frozen_of_heap hrs
       have frs1:wd.frozen? ⟨res,1,none⟩=false:=frozen_of_heap hrs
       have HRSD:=hid hrs
       clear hx0 hd hrs
       go_wp2
       obtain⟨w9,hw9⟩: ∃w9,w9=(wd.setCell ⟨res,0,none⟩ (.int .u64 ev)).setCell ⟨res,1,none⟩ (.slice a l.length c):=⟨_,rfl⟩
       rw[←hw9]
       have hu9:Upd (fun j=>j=res) wd w9:=by rw[hw9];exact(upd_own wd res 0 _).trans (upd_own _ res 1 _)
       have hx9:w9.heap[res]?=some (.cells #[.int .u64 ev,.slice a l.length c] 62 (0,0)):=by
        rw[hw9]
        have:=blk_set (i:=1) (v:=.slice a l.length c) (blk_set (i:=0) (v:=.int .u64 ev) HRSD.out)
        simpa using this
       have hl3:=run_loadVar_mid (P:=Tryz.prog) w9 res 0 62 [.int .u64 ev,.slice a l.length c] _ (rangeAt_block hx9) Tryz.underlying62 rfl (by rw[size62];rfl)
       refine bodyPost_ret (results_cell_tmp Tryz.results166 rfl hl3) rfl ?_
       exact⟨(HU.out.trans HUD.out).step hu9 (fun j hj e=>by have:=HRL2.out;omega),.inl ⟨by rw[HD.out];decide,by rw[HD.out];rfl⟩⟩
      |false=>
       subst hbo2
       by_cases hvo:vo=xo
       ·have e2:((strOfNums vo).toList == (strOfNums xo).toList)=true:=by rw[HSE.out];exact decide_eq_true hvo
        have HVO9:=hid hvo
        clear hvo
        have hx0:(SetV.thought l ⟨nm,false,xi,xo,xn⟩)=true:=by unfold SetV.thought;rw[←HBO.out,←HVO.out,decide_eq_true HVO9.out];rfl
        have HX0:=hid hx0
        clear hx0
        go_wp2_with (go_at_call 192;fail)
        refine HWI.out.mono ?_
        rintro e we ⟨a8,c8,rfl,hr8,hu8⟩
        have hr8':ValRow we w.heap.size C (.slice a8 ((l.withs (B.sets.take k)).with ⟨nm,false,xi,xo,xn⟩).length c8) ((l.withs (B.sets.take k)).with ⟨nm,false,xi,xo,xn⟩):=hr8.low HUD.out.size
        have ht8:=(hu8.block _ (lt_of_heap HTD.out) (fun e=>e)).trans HTD.out
        have hc8:=HCD.out.kept hu8 (fun _ _ e=>e)
        have fr1:we.frozen? ⟨t6,1,none⟩=false:=frozen_of_heap ht8
        obtain⟨y0,y1⟩:=cells2_of ht8
        have HR8:=hid hr8';have HT8:=hid ht8;have HC8:=hid hc8;have HU8:=hid (HUD.out.trans hu8)
        clear hr8 hu8 hr8' ht8 hc8 HWI
        simp only[]
        go_upto_region 11 with fail
        obtain⟨wf,hwf⟩: ∃wf,wf=we.setCell ⟨t6,1,none⟩ (.slice a8 ((l.withs (B.sets.take k)).with ⟨nm,false,xi,xo,xn⟩).length c8):=⟨_,rfl⟩
        refine(?_:Code.wp _ _ _ _ (we.setCell ⟨t6,1,none⟩ (.slice a8 ((l.withs (B.sets.take k)).with ⟨nm,false,xi,xo,xn⟩).length c8)))
        rw[←hwf]
        have huf:Upd (fun j=>j=t6) we wf:=by rw[hwf];exact upd_own we t6 1 _
        have hxf:wf.heap[t6]?=some (.cells #[.int .u64 B.epoch,.slice a8 ((l.withs (B.sets.take k)).with ⟨nm,false,xi,xo,xn⟩).length c8] 62 (0,0)):=by
         rw[hwf]
         have:=blk_set (i:=1) (v:=.slice a8 ((l.withs (B.sets.take k)).with ⟨nm,false,xi,xo,xn⟩).length c8) HT8.out
         simpa using this
        have hap: ∀j,C j→ ¬j=t6:=fun j hj e=>by
         obtain⟨cs9,q9⟩:=HC8.out j hj
         rw[e,HT8.out] at q9
         injection q9 with q9
         injection q9 with _ q9
         exact absurd q9 (by decide)
        have hrf:=HR8.out.kept huf (fun j hj e=>by
         obtain⟨cs9,q9⟩:=HR8.out.block164 hj
         rw[e,HT8.out] at q9
         injection q9 with q9
         injection q9 with _ q9
         exact absurd q9 (by decide)) hap
        have hcf:=HC8.out.kept huf hap
        have htk:B.sets.take (k+1)=B.sets.take k++[⟨nm,false,xi,xo,xn⟩]:=by
         obtain⟨h1,h2⟩:=List.getElem?_eq_some_iff.1 HXK.out
         rw[List.take_succ_eq_append_getElem h1,h2]
        have hst:RdoAt w C B l t6 (k+1) wf:=⟨⟨a8,c8,by rw[htk,KV.withs_snoc];exact hxf,by rw[htk,KV.withs_snoc];exact hrf⟩,hcf,HU8.out.step huf (fun j hj e=>by have:=HT6.out;omega),by rw[htk,List.all_append,HDA.out.th,Bool.true_and];simpa using HX0.out⟩
        have HST:=hid hst
        have hcv2:IntKind.i64.wrap ((k:Int)+1)=(k:Int)+1:=by rw[IntKind.wrap_i64];have:=HSL.out;omega
        clear hwf huf hxf hap hrf hcf htk hst
        go_wp2
        go_roundg (B.sets.length - (k+1))
        case measure=>omega
        case rel=>exact⟨k+1,by omega,rfl,by go_num,HST.out⟩
       ·have e2:((strOfNums vo).toList == (strOfNums xo).toList)=false:=by rw[HSE.out];exact decide_eq_false hvo
        have HVO9:=hid hvo
        clear hvo
        have hx0:(SetV.thought l ⟨nm,false,xi,xo,xn⟩)=false:=by unfold SetV.thought;rw[←HBO.out,←HVO.out,decide_eq_false HVO9.out,Bool.and_false]
        have hd:doE ev l B=301:=by
         unfold doE
         rw[if_neg (show¬B.epoch<ev by have:=HP.out;omega),if_neg (fun h=>by
          have h1:=List.all_eq_true.1 h _ (List.mem_of_getElem? HXK.out)
          rw[hx0] at h1
          cases h1)]
        have HD:=hid hd
        have hrs:=(HUD.out.block _ (lt_of_heap HRES.out) (fun e=>e)).trans HRES.out
        obtain⟨s0,s1⟩:=cells2_of hrs
        have frs0:wd.frozen? ⟨res,0,none⟩=false:=frozen_of_heap hrs
        have frs1:wd.frozen? ⟨res,1,none⟩=false:=frozen_of_heap hrs
        have HRSD:=hid hrs
        clear hx0 hd hrs
        go_wp2
        obtain⟨w9,hw9⟩: ∃w9,w9=(wd.setCell ⟨res,0,none⟩ (.int .u64 ev)).setCell ⟨res,1,none⟩ (.slice a l.length c):=⟨_,rfl⟩
        rw[←hw9]
        have hu9:Upd (fun j=>j=res) wd w9:=by rw[hw9];exact(upd_own wd res 0 _).trans (upd_own _ res 1 _)
        have hx9:w9.heap[res]?=some (.cells #[.int .u64 ev,.slice a l.length c] 62 (0,0)):=by
         rw[hw9]
         have:=blk_set (i:=1) (v:=.slice a l.length c) (blk_set (i:=0) (v:=.int .u64 ev) HRSD.out)
         simpa using this
        have hl3:=run_loadVar_mid (P:=Tryz.prog) w9 res 0 62 [.int .u64 ev,.slice a l.length c] _ (rangeAt_block hx9) Tryz.underlying62 rfl (by rw[size62];rfl)
        refine bodyPost_ret (results_cell_tmp Tryz.results166 rfl hl3) rfl ?_
        exact⟨(HU.out.trans HUD.out).step hu9 (fun j hj e=>by have:=HRL2.out;omega),.inl ⟨by rw[HD.out];decide,by rw[HD.out];rfl⟩⟩
    ·obtain rfl:B.sets.length=k:=by omega
     obtain⟨a9,c9,ht9,hr9⟩:=HDA.out.out
     have hth:=HDA.out.th
     rw[List.take_length] at ht9 hr9 hth
     obtain⟨LL,hLL⟩: ∃LL,LL=l.withs B.sets:=⟨_,rfl⟩
     have HLL:=hid hLL
     rw[←hLL] at ht9 hr9
     obtain⟨t0,t1⟩:=cells2_of ht9
     have hrs:=(HDA.out.upd.block _ (lt_of_heap HRES.out) (fun e=>e)).trans HRES.out
     have hrbd:=(HDA.out.upd.block _ (lt_of_heap HRB.out) (fun e=>e)).trans HRB.out
     obtain⟨r0,r1⟩:=cells2_of hrbd
     obtain⟨s0,s1⟩:=cells2_of hrs
     have frs0:wr.frozen? ⟨res,0,none⟩=false:=frozen_of_heap hrs
     have frs1:wr.frozen? ⟨res,1,none⟩=false:=frozen_of_heap hrs
     have HRSD:=hid hrs;have HRF:=hid hr9;have HTH:=hid hth;have HUD:=hid HDA.out.upd
     have HTR:=hid (show t6≠res by have:=HT6.out;have:=lt_of_heap HRES.out;omega)
     have HC9:=hid HDA.out.row
     clear ht9 hr9 hth hrs hrbd hLL HDA
     by_cases h48:48<LL.length
     ·have h48i:(LL.length:Int) > 48:=by omega
      have hd:doE ev l B=6:=by
       unfold doE
       rw[if_neg (show¬B.epoch<ev by have:=HP.out;omega),if_pos HTH.out,←HLL.out,if_pos h48]
      have HD:=hid hd
      clear hd h48
      go_wp2
      obtain⟨w9,hw9⟩: ∃w9,w9=(wr.setCell ⟨res,0,none⟩ (.int .u64 ev)).setCell ⟨res,1,none⟩ (.slice a l.length c):=⟨_,rfl⟩
      rw[←hw9]
      have hu9:Upd (fun j=>j=res) wr w9:=by rw[hw9];exact(upd_own wr res 0 _).trans (upd_own _ res 1 _)
      have hx9:w9.heap[res]?=some (.cells #[.int .u64 ev,.slice a l.length c] 62 (0,0)):=by
       rw[hw9]
       have:=blk_set (i:=1) (v:=.slice a l.length c) (blk_set (i:=0) (v:=.int .u64 ev) HRSD.out)
       simpa using this
      have hl3:=run_loadVar_mid (P:=Tryz.prog) w9 res 0 62 [.int .u64 ev,.slice a l.length c] _ (rangeAt_block hx9) Tryz.underlying62 rfl (by rw[size62];rfl)
      refine bodyPost_ret (results_cell_tmp Tryz.results166 rfl hl3) rfl ?_
      exact⟨(HU.out.trans HUD.out).step hu9 (fun j hj e=>by have:=HRL2.out;omega),.inl ⟨by rw[HD.out];decide,by rw[HD.out];rfl⟩⟩
     ·have h48i: ¬(LL.length:Int) > 48:=by omega
      have hd:doE ev l B=0:=by
       unfold doE
       rw[if_neg (show¬B.epoch<ev by have:=HP.out;omega),if_pos HTH.out,←HLL.out,if_neg h48]
      have HD:=hid hd
      clear hd h48
      go_wp2
      obtain⟨w9,hw9⟩: ∃w9,w9=(wr.setCell ⟨res,0,none⟩ (.int .u64 B.epoch)).setCell ⟨res,1,none⟩ (.slice a9 LL.length c9):=⟨_,rfl⟩
      rw[←hw9]
      have hu9:Upd (fun j=>j=res) wr w9:=by rw[hw9];exact(upd_own wr res 0 _).trans (upd_own _ res 1 _)
      have hx9:w9.heap[res]?=some (.cells #[.int .u64 B.epoch,.slice a9 LL.length c9] 62 (0,0)):=by
       rw[hw9]
       have:=blk_set (i:=1) (v:=.slice a9 LL.length c9) (blk_set (i:=0) (v:=.int .u64 B.epoch) HRSD.out)
       simpa using this
      have hl3:=run_loadVar_mid (P:=Tryz.prog) w9 res 0 62 [.int .u64 B.epoch,.slice a9 LL.length c9] _ (rangeAt_block hx9) Tryz.underlying62 rfl (by rw[size62];rfl)
      refine bodyPost_ret (results_cell_tmp Tryz.results166 rfl hl3) rfl ?_
      have hrf:=HRF.out.kept hu9 (fun j hj e=>by
       obtain⟨L,_,h4,_⟩:=HRF.out
       have h5:=(World.ownsRow.lt h4 j hj).1
       have h6:=lt_of_heap HRES.out
       omega) (fun j hj e=>by
       obtain⟨cs9,q9⟩:=HC9.out j hj
       rw[e,HRSD.out] at q9
       injection q9 with q9
       injection q9 with _ q9
       exact absurd q9 (by decide))
      unfold RefDoAns
      rw[←HLL.out]
      exact⟨(HU.out.trans HUD.out).step hu9 (fun j hj e=>by have:=HRL2.out;omega),.inr ⟨HD.out,a9,c9,rfl,hrf.low HU.out.size⟩⟩
theorem cell_lt {w:World}{g o:Nat}{v:Value}(h:w.cell? ⟨g,o,none⟩=some v):g<w.heap.size:=by
 rcases Nat.lt_or_ge g w.heap.size with h1 | h1
 ·exact h1
 ·simp[World.cell?,Array.getElem?_eq_none h1] at h
structure RwAt (w:World) (sb:Nat) (ev:Int) (C:Nat→Prop) (l:KV) (k:Nat) (W:World):Prop where
 out: ∃(a:Option Addr) (c:Nat),W.heap[sb]?=some (.cells #[.int .u64 ev,.bool false,.slice a k c] 56 (0,0))∧SetRow W w.heap.size C (.slice a k c) (wholeB ev (l.take k)).sets
 row:RowC W C
 upd:Upd (fun j=>j=sb) w W
theorem refWhole_any {C:Nat→Prop}{ev:Int}{l:KV}{a:Option Addr}{c:Nat}(w0:World)(hV:ValsAt w0 C a l)(hl:l.Fine)(hC:RowC w0 C):
  Calls Tryz.prog 167 #[.agg #[.int .u64 ev,.slice a l.length c]] w0 fun e w'=> ∃a' c',e=.returned (.agg #[.int .u64 ev,.bool false,.slice a' l.length c'])∧SetRow w' w0.heap.size C (.slice a' l.length c') (wholeB ev l).sets∧RowC w' C∧Upd (fun _=>False) w0 w':=by
 obtain⟨w,hw⟩: ∃w,w=((w0.alloc (.cells #[.int .u64 ev,.slice a l.length c] 62)).alloc (.cells #[.int .u64 0,.bool false,.slice none 0 0] 56)).alloc (.cells #[.int .u64 ev,.bool false,.slice none 0 0] 56):=⟨_,rfl⟩
 have hu:Upd (fun _=>False) w0 w:=by rw[hw];exact(((Upd.refl _ w0).alloc _).alloc _).alloc _
 have hxr:w.heap[w0.heap.size]?=some (.cells #[.int .u64 ev,.slice a l.length c] 62 (0,0)):=by rw[hw];exact(alloc_lt (by simp<;> omega)).trans ((alloc_lt (by simp)).trans (alloc_at rfl))
 have hxs:w.heap[w0.heap.size+1]?=some (.cells #[.int .u64 0,.bool false,.slice none 0 0] 56 (0,0)):=by rw[hw];exact(alloc_lt (by simp)).trans (alloc_at (by simp))
 have hxb:w.heap[w0.heap.size+1+1]?=some (.cells #[.int .u64 ev,.bool false,.slice none 0 0] 56 (0,0)):=by rw[hw];exact alloc_at (by simp)
 obtain⟨rb,hrb⟩: ∃x,x=w0.heap.size:=⟨_,rfl⟩
 obtain⟨res,hres⟩: ∃x,x=w0.heap.size+1:=⟨_,rfl⟩
 obtain⟨sb,hsb⟩: ∃x,x=w0.heap.size+1+1:=⟨_,rfl⟩
 rw[←hrb] at hxr
 rw[←hres] at hxs
 rw[←hsb] at hxb
 have HC:=hid (hC.kept hu (fun _ _ e=>e));have HL:=hid hl
 have HVG:=hid (show∀i p,l[i]?=some p→ ∃g v,a=some ⟨g,0,none⟩∧g<w0.heap.size∧w.cell? ⟨g,i * 2,none⟩=some (.string p.1)∧w.cell? ⟨g,i * 2+1,none⟩=some v∧BytesAt w C v p.2 from fun i p hp=>by
  obtain⟨g,v,e,h1,h2,h3⟩:=hV i p hp
  exact⟨g,v,e,cell_lt h1,cell_keptF hu (fun e=>e) h1,cell_keptF hu (fun e=>e) h2,h3.kept hu (fun _ _ e=>e)⟩)
 have HU:=hid hu;have HRB:=hid hxr;have HSBL:=hid (show w0.heap.size≤sb∧w0.heap.size≤res∧rb≠sb∧res≠sb by omega);have HRES:=hid hxs
 have hst:RwAt w sb ev C l 0 w:=⟨⟨none,0,hxb,SetRow.nil _ _ _⟩,HC.out,Upd.refl _ _⟩
 have HST:=hid hst
 have HSB:=hid (lt_of_heap hxb)
 obtain⟨r0,r1⟩:=cells2_of hxr
 clear hV hC hl hu hxr hxb hxs hst
 go_enter Tryz.func167,Tryz.ntmps167
 go_upto_region 2 with fail
 rw[←hw,←hsb,←hres,←hrb]
 clear hw hres hsb hrb
 go_upto_block 0 with fail
 go_upto_region 3 with fail
 go_loopg [12] l.length (fun gk i wr=> ∃k:Nat,k≤l.length∧gk=l.length - k∧i=.int .i64 k∧RwAt w sb ev C l k wr)
 case atStart=>exact⟨0,Nat.zero_le _,rfl,rfl,HST.out⟩
 case round=>
  obtain⟨k,hk,rfl,rfl,hd⟩:=hrel
  have HD:=hid hd
  obtain⟨la,lc,ho1,ho2⟩:=hd.out
  have HOB:=hid ho1;have HRW:=hid ho2
  by_cases hkn:k<l.length
  ·have hkni:(k:Int)<l.length:=by omega
   obtain⟨p,hp⟩: ∃p,l[k]?=some p:=⟨_,List.getElem?_eq_getElem hkn⟩
   have HP:=hid hp
   have HEA:=hid (HL.out.each p (List.mem_of_getElem? hp))
   obtain⟨g,v,rfl,hgl,y0,y1,hb⟩:=HVG.out k p hp
   have hgs:g≠sb:=by have:=HSBL.out;omega
   have y0:=cell_keptF hd.upd hgs y0
   have y1:=cell_keptF hd.upd hgs y1
   have hb:=hb.kept hd.upd (fun j hj e=>by
    obtain⟨cs9,q9⟩:=hd.row j hj
    rw[e,ho1] at q9
    injection q9 with q9
    injection q9 with _ q9
    exact absurd q9 (by decide))
   obtain⟨va,vc,rfl,_⟩:=hb.slice
   have HB:=hid hb
   have hxr:=(hd.upd.block _ (lt_of_heap HRB.out) (fun e=>by have:=HSBL.out;omega)).trans HRB.out
   have HXR:=hid hxr
   obtain⟨q0,q1,q2⟩:=cells3_of ho1
   clear hb hp hd ho1 ho2 hgs r0 r1 hxr
   go_upto_region 5 with fail
   obtain⟨wa,hwa⟩: ∃wa,wa=wr.alloc (.cells #[.string p.1,.slice va p.2.length vc] 164):=⟨_,rfl⟩
   rw[←hwa]
   have hua:Upd (fun _=>False) wr wa:=by rw[hwa];exact(Upd.refl _ wr).alloc _
   have hxa:wa.heap[wr.heap.size]?=some (.cells #[.string p.1,.slice va p.2.length vc] 164 (0,0)):=by rw[hwa];exact alloc_at rfl
   obtain⟨vb,hvb⟩: ∃vb,vb=wr.heap.size:=⟨_,rfl⟩
   rw[←hvb] at hxa ⊢
   obtain⟨z0,z1⟩:=cells2_of hxa
   have HOBA:=hid ((hua.block _ (lt_of_heap HOB.out) (fun e=>e)).trans HOB.out);have HRWA:=hid (HRW.out.kept hua (fun _ _ e=>e) (fun _ _ e=>e));have HBA:=hid (HB.out.kept hua (fun _ _ e=>e));have HCA:=hid (HD.out.row.kept hua (fun _ _ e=>e))
   have HDU:=hid (HD.out.upd.trans (hua.mono (F:=fun _=>False) (fun _ _ e=>e.elim)))
   obtain⟨y0,y1,y2⟩:=cells3_of HOBA.out
   clear hwa hua hxa hvb q0 q1 q2 HB HXR HOB HRW HD
   iterate 25 go_step
   obtain⟨L,hLm,hLo,hLb,hLf⟩:=HRWA.out
   have hwl:(wholeB ev (l.take k)).sets.length=k:=by simp[wholeB];omega
   rw[hwl] at hLo
   have hLl:=hLo.lt
   have hz9:sb<wa.heap.size:=lt_of_heap HOBA.out
   obtain⟨x,hx⟩: ∃x:SetV,x=⟨p.1,false,true,[],p.2⟩:=⟨_,rfl⟩
   have hel:elC (x,.slice none 0 0,.slice va p.2.length vc)=[.string p.1,.bool false,.bool true,.slice none 0 0,.slice va p.2.length vc]:=by rw[hx];rfl
   obtain⟨i0,hi0,hz0,hz1,hz2⟩:=info_parts Tryz.info73p
   refine wpList_append_lies _ rfl (.tmp 17) (.tmp 23) 54 rfl w.heap.size 73 i0 _ 5 72 Tryz.underlying54 hi0 hz0 hz1 hz2 rfl (by omega) (.slice la k lc) _ _ rfl (hLo.alloc _) ⟨wa.heap.size,0,none⟩ 1 1 (elC (x,.slice none 0 0,.slice va p.2.length vc)) rfl
    rfl (World.news_of_block (cs:=(elC (x,.slice none 0 0,.slice va p.2.length vc)).toArray) (t:=73) (fr:=(0,0)) (by rw[hel];exact heap_alloc_new _ _)) (by rw[hel];simp[Value.oneCell']) (by omega) (by unfold maxLen;have:=HL.out.len;omega) (by have:=HL.out.len;omega) (by have:=HDU.out.size;simp;omega) (wa.heap.size+1) (by simp) ?_
   intro g' cap w16 hown hgrow hat hlt
   have hu16:Upd (fun k'=>(Value.slice la k lc).ownBlock=some k') wa w16:=((Upd.refl _ wa).alloc _).trans (Upd.of_grown hgrow (fun k hk=>hk))
   have hob10:=(hu16.block _ hz9 (fun e=>by have:=(hLl sb e).1;have:=HSB.out;omega)).trans HOBA.out
   have hgob:w.heap.size≤g':=by
    have:=HDU.out.size
    rcases hat with e | e
    ·exact(hLl g' e).1
    ·omega
   have y2:=(cells3_of hob10).2.2
   have g2:w16.frozen? ⟨sb,2,none⟩=false:=frozen_of_heap hob10
   have hcu:=HRWA.out.apart HCA.out
   have hrow16:SetRow w16 w.heap.size C (.slice (some ⟨g',0,none⟩) (k+1) cap) ((wholeB ev (l.take k)).sets++[x]):=by
    refine⟨L++[(x,.slice none 0 0,.slice va p.2.length vc)],by rw[List.map_append,hLm];rfl,?_,fun y hy=>?_,fun y hy=>?_⟩
    ·rw[List.flatMap_append,List.length_append,hwl]
     simpa using hown
    ·rw[List.mem_append] at hy
     rcases hy with hy | hy
     ·exact⟨(hLb y hy).1.kept hu16 hcu,(hLb y hy).2.kept hu16 hcu⟩
     ·simp only[List.mem_singleton] at hy
      subst hy
      rw[hx]
      exact⟨.inl ⟨rfl,rfl⟩,HBA.out.kept hu16 hcu⟩
    ·rw[List.mem_append] at hy
     rcases hy with hy | hy
     ·exact hLf y hy
     ·simp only[List.mem_singleton] at hy
      subst hy
      rw[hx]
      have:=HEA.out
      exact⟨by simp only;omega,by simp,by simp only;omega,fun z hz=>by simp at hz,this.2.2.2⟩
   have hca:=HCA.out.kept hu16 hcu
   have HNEW:=hid hrow16;have HOB10:=hid hob10;have HU16:=hid hu16;have HLLT:=hid hLl;have HGOB:=hid hgob;have HXX:=hid hx;have HCB:=hid hca
   clear hrow16 hob10 hu16 hcu hown hgrow hat hi0 hz0 hz1 hz2 hLm hLo hLb hLf hLl hel y0 y1 hgob hx hca z0 z1
   have hcv2:IntKind.i64.wrap ((k:Int)+1)=(k:Int)+1:=by rw[IntKind.wrap_i64];have:=HL.out.len;omega
   go_wp2
   obtain⟨w17,hw17⟩: ∃w17,w17=w16.setCell ⟨sb,2,none⟩ (.slice (some ⟨g',0,none⟩) (k+1) cap):=⟨_,rfl⟩
   rw[←hw17]
   have hu17:Upd (fun k=>k=sb) w16 w17:=by rw[hw17];exact upd_own w16 sb 2 _
   have hob17:w17.heap[sb]?=some (.cells #[.int .u64 ev,.bool false,.slice (some ⟨g',0,none⟩) (k+1) cap] 56 (0,0)):=by
    rw[hw17]
    have:=blk_set (i:=2) (v:=.slice (some ⟨g',0,none⟩) (k+1) cap) HOB10.out
    simpa using this
   have hcs: ∀j,C j→ ¬j=sb:=fun j hj e=>by
    obtain⟨cs9,q9⟩:=HCB.out j hj
    rw[e,HOB10.out] at q9
    injection q9 with q9
    injection q9 with _ q9
    exact absurd q9 (by decide)
   have hdc:RwAt w sb ev C l (k+1) w17:=by
    refine⟨⟨_,_,hob17,?_⟩,HCB.out.kept hu17 hcs,(HDU.out.step HU16.out (fun j hj e=>by have:=(HLLT.out j e).1;omega)).trans hu17⟩
    rw[wholeB_take ev l k HP.out,←HXX.out]
    exact HNEW.out.kept hu17 (fun j hj e=>by simp[Value.ownBlock] at hj;have:=HGOB.out;have:=HSB.out;omega) hcs
   go_roundg (l.length - (k+1))
   case measure=>omega
   case rel=>exact⟨k+1,by omega,rfl,congrArg _ (by omega),hdc⟩
  ·obtain rfl:k=l.length:=by omega
   rw[List.take_length] at ho2
   obtain⟨y0,y1,y2⟩:=cells3_of ho1
   have HFIN:=hid ho2
   have hrs:=(hd.upd.block _ (lt_of_heap HRES.out) (fun e=>by have:=HSBL.out;omega)).trans HRES.out
   have HRS:=hid hrs
   obtain⟨s0,s1,s2⟩:=cells3_of hrs
   have frs0:wr.frozen? ⟨res,0,none⟩=false:=frozen_of_heap hrs
   have frs1:wr.frozen? ⟨res,1,none⟩=false:=frozen_of_heap hrs
   have frs2:wr.frozen? ⟨res,2,none⟩=false:=frozen_of_heap hrs
   have hl3:=run_loadVar_mid (P:=Tryz.prog) wr sb 0 56 [.int .u64 ev,.bool false,.slice la l.length lc] _ (rangeAt_block ho1) Tryz.underlying56 rfl (by rw[size56];rfl)
   clear hd ho1 ho2 hrs r0 r1
   go_wp2
   obtain⟨w9,hw9⟩: ∃w9,w9=((wr.setCell ⟨res,0,none⟩ (.int .u64 ev)).setCell ⟨res,1,none⟩ (.bool false)).setCell ⟨res,2,none⟩ (.slice la l.length lc):=⟨_,rfl⟩
   rw[←hw9]
   have hu9:Upd (fun j=>j=res) wr w9:=by rw[hw9];exact((upd_own wr res 0 _).trans (upd_own _ res 1 _)).trans (upd_own _ res 2 _)
   have hx9:w9.heap[res]?=some (.cells #[.int .u64 ev,.bool false,.slice la l.length lc] 56 (0,0)):=by
    rw[hw9]
    have:=blk_set (i:=2) (v:=.slice la l.length lc) (blk_set (i:=1) (v:=.bool false) (blk_set (i:=0) (v:=.int .u64 ev) HRS.out))
    simpa using this
   have hl9:=run_loadVar_mid (P:=Tryz.prog) w9 res 0 56 [.int .u64 ev,.bool false,.slice la l.length lc] _ (rangeAt_block hx9) Tryz.underlying56 rfl (by rw[size56];rfl)
   refine bodyPost_ret (results_cell1 Tryz.results167 rfl hl9) rfl ?_
   have hcs: ∀j,C j→ ¬j=res:=fun j hj e=>by
    obtain⟨cs9,q9⟩:=HD.out.row j hj
    rw[e,HRS.out] at q9
    injection q9 with q9
    injection q9 with _ q9
    exact absurd q9 (by decide)
   refine⟨la,lc,rfl,?_,HD.out.row.kept hu9 hcs,(HU.out.step HD.out.upd (fun j hj e=>by have:=HSBL.out;omega)).step hu9 (fun j hj e=>by have:=HSBL.out;omega)⟩
   refine SetRow.low (SetRow.kept HFIN.out hu9 (fun j hj e=>?_) hcs) HU.out.size
   obtain⟨cs9,q9⟩:=SetRow.block73 HFIN.out hj
   rw[e,HRS.out] at q9
   injection q9 with q9
   injection q9 with _ q9
   exact absurd q9 (by decide)
theorem refSectors_any (n:Nat)(w:World)(h:n≤40000):Calls Tryz.prog 119 #[.int .i64 n] w fun e w'=>e=.returned (.int .i64 (secsI n))∧w'=w:=by
 have h1:IntKind.i64.wrap ((4:Int)+n)=4+n:=by rw[IntKind.wrap_i64];omega
 have h2:IntKind.i64.wrap ((4:Int)+n+47)=4+n+47:=by rw[IntKind.wrap_i64];omega
 have ht:((4:Int)+n+47).tdiv 48=(4+n+47) / 48:=Int.tdiv_eq_ediv_of_nonneg (by omega)
 have h3:IntKind.i64.wrap (((4:Int)+n+47).tdiv 48)=((4:Int)+n+47).tdiv 48:=by rw[ht,IntKind.wrap_i64];omega
 have h4:secsI n=((4:Int)+n+47).tdiv 48:=by rw[ht];unfold secsI;rw[if_neg (by omega)];omega
 go_enter Tryz.func119,Tryz.ntmps119
 go_wp2
 go_ret
 exact⟨by rw[h4,ht];rfl,rfl⟩
structure RfS (w0:World) (W:World) (t6:Nat) (s:Int×KV):Prop where
 out: ∃(C:Nat→Prop) (a:Option Addr) (c:Nat),W.heap[t6]?=some (.cells #[.int .u64 s.1,.slice a s.2.length c] 62 (0,0))∧ValsAt W C a s.2∧RowC W C∧(∀g o,a=some ⟨g,o,none⟩→ ∃ds,W.heap[g]?=some (.cells ds 164 (0,0)))∧(∀k,C k→w0.heap.size≤k)∧ ∀g o,a=some ⟨g,o,none⟩→w0.heap.size≤g
 fine:s.2.Fine
 ev:0≤s.1∧s.1≤4611686018427387904
 upd:Upd (fun _=>False) w0 W
 base:w0.heap.size≤t6
theorem RfS.kept0 {w0 W W':World}{t6:Nat}{s:Int×KV}(h:RfS w0 W t6 s)(hu:Upd (fun _=>False) W W'):RfS w0 W' t6 s:=by
 obtain⟨⟨C,a,c,h1,h2,h3,h8,h9,h10⟩,h4,h5,h6,h7⟩:=h
 refine⟨⟨C,a,c,(hu.block _ (lt_of_heap h1) (fun e=>e)).trans h1,h2.kept0 hu,h3.kept hu (fun _ _ e=>e),fun g o e=>?_,h9,h10⟩,h4,h5,h6.trans hu,h7⟩
 obtain⟨ds,q⟩:=h8 g o e
 exact⟨ds,(hu.block _ (lt_of_heap q) (fun e=>e)).trans q⟩
theorem ValRow.none_or {w:World}{B:Nat}{C:Nat→Prop}{a:Option Addr}{n c:Nat}{l:KV}(h:ValRow w B C (.slice a n c) l): ∀g o,a=some ⟨g,o,none⟩→(Value.slice a n c).ownBlock=some g:=by
 rintro g o rfl
 obtain⟨L,_,h1,_⟩:=h
 rcases h1.2 with ⟨e,_⟩ | ⟨g',cap,cur,e,_⟩
 ·cases e
 ·injection e with e
  injection e with e
  injection e with e1 e2
  subst e1
  subst e2
  rfl
theorem did_at {w0 W W':World}{t6 B0:Nat}{ev:Int}{L:KV}{C:Nat→Prop}{a':Option Addr}{c':Nat}{u v:Value}(hb:w0.heap.size≤t6)(hu:Upd (fun _=>False) w0 W)(hx:W.heap[t6]?=some (.cells #[u,v] 62 (0,0)))
  (hv:ValRow W B0 C (.slice a' L.length c') L) (hB:w0.heap.size≤B0) (hc:RowC W C) (hW:W'=(W.setCell ⟨t6,0,none⟩ (.int .u64 ev)).setCell ⟨t6,1,none⟩ (.slice a' L.length c')):
  W'.heap[t6]?=some (.cells #[.int .u64 ev,.slice a' L.length c'] 62 (0,0))∧ValsAt W' C a' L∧RowC W' C∧Upd (fun _=>False) w0 W'∧Upd (fun k=>k=t6) W W'∧(∀g o,a'=some ⟨g,o,none⟩→ ∃ds,W'.heap[g]?=some (.cells ds 164 (0,0)))∧ ∀g o,a'=some ⟨g,o,none⟩→w0.heap.size≤g:=by
 obtain⟨p1,p2⟩:=put2 (u:=.int .u64 ev) (v:=.slice a' L.length c') hx
 rw[←hW] at p1 p2
 have hne: ∀{j:Nat} {ds:Array Value} {u:TypeId},W.heap[j]?=some (.cells ds u (0,0))→u≠62→j≠t6:=fun h1 h2 e=>by
  rw[e,hx] at h1
  injection h1 with h1
  injection h1 with _ h1
  exact h2 h1.symm
 have hcn: ∀k,C k→ ¬k=t6:=fun k hk=>by
  obtain⟨ds,q⟩:=hc k hk
  exact hne q (by decide)
 refine⟨p1,hv.valsAt.kept p2 (fun g o e=>?_) hcn,hc.kept p2 hcn,hu.step p2 (fun k hk e=>by omega),p2,fun g o e=>?_,fun g o e=>?_⟩
 ·obtain⟨ds,q⟩:=hv.block164 (hv.none_or g o e)
  exact hne q (by decide)
 ·obtain⟨ds,q⟩:=hv.block164 (hv.none_or g o e)
  exact⟨ds,(p2.block _ (lt_of_heap q) (hne q (by decide))).trans q⟩
 ·have ho:=hv.none_or g o e
  obtain⟨_,_,h4,_⟩:=hv
  exact Nat.le_trans hB (World.ownsRow.lt h4 g ho).1
theorem playN_false: ∀(l:List (List Int)) (s:(Int×KV)×Bool),s.2=false→(l.foldl playN s).2=false
 | [],s,h=>h
 |x :: l,s,h=>playN_false l _ (by simp[playN,h])
theorem found_split {p0:List Int}{txs:List (List Int)}{k:Nat}{x:List Int}(hx:txs[k]?=some x):foundN p0 txs=(txs.drop (k+1)).foldl playN (playN ((txs.take k).foldl playN (snapS p0)) x)∧(txs.take (k+1)).foldl playN (snapS p0)=playN ((txs.take k).foldl playN (snapS p0)) x:=by
 obtain⟨h1,h2⟩:=List.getElem?_eq_some_iff.1 hx
 have e:txs.take (k+1)=txs.take k++[x]:=by rw[List.take_succ_eq_append_getElem h1,h2]
 have e2:(txs.take (k+1)).foldl playN (snapS p0)=playN ((txs.take k).foldl playN (snapS p0)) x:=by rw[e,List.foldl_append];rfl
 refine⟨?_,e2⟩
 rw[←e2,←List.foldl_append,List.take_append_drop]
 rfl
theorem decF_Ok {x:List Int}{B:BatchV}(hB:B=(decF x).1)(hf: ∀y∈B.sets,y.fine)(hr:B.right=true)(h0:0≤B.epoch):B.Ok:=⟨⟨h0,by have:=(BatchV.right_sets hr).1;omega⟩,fun y hy=>⟨(hf y hy).2.2.2.1,(hf y hy).2.2.2.2⟩⟩
theorem SetsAt.toR {w:World}{R R' C:Nat→Prop}{a:Option Addr}{sets:List SetV}(h:SetsAt w R C a sets)(hr: ∀b o,a=some ⟨b,o,none⟩→R' b):SetsAt w R' C a sets:=fun i x hx=>by
 obtain⟨h1,h2,h3,b,o,e,hb,h4⟩:=h i x hx
 exact⟨h1,h2,h3,b,o,e,hr b o e,h4⟩
theorem SetsAt.moreC {w:World}{R C C':Nat→Prop}{a:Option Addr}{sets:List SetV}(h:SetsAt w R C a sets)(hc: ∀k,C k→C' k):SetsAt w R C' a sets:=fun i x hx=>by
 obtain⟨h1,h2,h3,b,o,e,hb,oa,oc,na,nc,k0,k1,k2,k3,k4,k5,k6,k7⟩:=h i x hx
 exact⟨h1,h2,h3,b,o,e,hb,oa,oc,na,nc,k0,k1,k2,k3,k4,k5.mono hc,k6.mono hc,k7⟩
theorem ValsAt.moreC {w:World}{C C':Nat→Prop}{a:Option Addr}{l:KV}(h:ValsAt w C a l)(hc: ∀k,C k→C' k):ValsAt w C' a l:=fun i p hp=>by
 obtain⟨g,v,h1,h2,h3,h4⟩:=h i p hp
 exact⟨g,v,h1,h2,h3,h4.mono hc⟩
def RefFoundAns (w:World)(p0:List Int)(txs:List (List Int))(e:Ending)(w':World):Prop:=
 Upd (fun _=>False) w w'∧(((foundN p0 txs).2=false∧e=.returned (.tuple #[.agg #[.int .u64 0,.slice none 0 0],.bool false]))∨
  ((foundN p0 txs).2=true∧(foundN p0 txs).1.2.Fine∧ ∃(C:Nat→Prop) (a:Option Addr) (c:Nat),e=.returned (.tuple #[.agg #[.int .u64 (foundN p0 txs).1.1,.slice a (foundN p0 txs).1.2.length c],.bool true])∧ValsAt w' C a (foundN p0 txs).1.2∧RowC w' C∧(∀g o,a=some ⟨g,o,none⟩→ ∃ds,w'.heap[g]?=some (.cells ds 164 (0,0)))∧(∀k,C k→w.heap.size≤k)∧ ∀g o,a=some ⟨g,o,none⟩→w.heap.size≤g))
def TxRows (w:World)(a:Option Addr)(txs:List (List Int)):Prop:= ∀i x,txs[i]?=some x→ ∃g v,a=some ⟨g,0,none⟩∧w.cell? ⟨g,i,none⟩=some v∧BytesIn w v x
theorem TxRows.kept0 {w w':World}{a:Option Addr}{txs:List (List Int)}(h:TxRows w a txs)(hu:Upd (fun _=>False) w w'):TxRows w' a txs:=fun i x hx=>by
 obtain⟨g,v,h1,h2,h3⟩:=h i x hx
 exact⟨g,v,h1,cell_keptF hu (fun e=>e) h2,h3.kept hu⟩
theorem refFound_any {va la:Option Addr}{vc lc:Nat}{p0:List Int}{txs:List (List Int)}(w0:World)(hp:BytesIn w0 (.slice va p0.length vc) p0)(hl:TxRows w0 la txs)(hb: ∀x,x=p0∨x∈txs→Bytes x∧x.length≤40000)(hn:txs.length≤1000000):
  Calls Tryz.prog 121 #[.slice va p0.length vc,.slice la txs.length lc] w0 (RefFoundAns w0 p0 txs):=by
 obtain⟨w,hw⟩: ∃w,w=(w0.alloc (.cells #[.int .u64 0,.slice none 0 0] 62)).alloc (.cells #[.int .u64 0,.slice none 0 0] 62):=⟨_,rfl⟩
 have hu:Upd (fun _=>False) w0 w:=by rw[hw];exact((Upd.refl _ w0).alloc _).alloc _
 have hxs:w.heap[w0.heap.size]?=some (.cells #[.int .u64 0,.slice none 0 0] 62 (0,0)):=by rw[hw];exact(alloc_lt (by simp)).trans (alloc_at rfl)
 have hx6:w.heap[w0.heap.size+1]?=some (.cells #[.int .u64 0,.slice none 0 0] 62 (0,0)):=by rw[hw];exact alloc_at (by simp)
 obtain⟨t6,ht6⟩: ∃x,x=w0.heap.size+1:=⟨_,rfl⟩
 obtain⟨res,hres⟩: ∃x,x=w0.heap.size:=⟨_,rfl⟩
 rw[←hres] at hxs
 rw[←ht6] at hx6
 have hst:RfS w0 w t6 (0,[]):=⟨⟨fun _=>False,none,0,hx6,fun i p hp=>by simp at hp,fun k hk=>hk.elim,(fun g o e=>by cases e),fun k hk=>hk.elim,fun g o e=>by cases e⟩,KV.Fine.nil,by omega,hu,by omega⟩
 have HST:=hid hst;have HRES:=hid hxs;have HNE:=hid (show w0.heap.size≤res∧res≠t6∧w0.heap.size≤t6 by omega)
 have HP:=hid hp;have HLL:=hid hl;have HB:=hid hb;have HN:=hid hn;have HU:=hid hu
 clear hst hp hl hb hn hxs hx6 hu
 go_enter Tryz.func121,Tryz.ntmps121
 go_upto_region 2 with fail
 rw[←hw,←ht6,←hres]
 clear hw ht6 hres
 go_upto_if 15 with fail
 go_cut [7,8] from 16 to 41 (fun v7 v8 wx=>RfS w0 wx t6 (snapS p0).1∧(snapS p0).2=true∧Upd (fun k=>k=t6) w wx)
 case first=>
  by_cases hp0:p0=[]
  ·have hnp: ¬0<p0.length:=by rw[hp0];simp
   have HE0:=hid hp0
   clear hp0
   go_wp2
   go_meet
   case rel=>
    rw[show snapS p0=((0,[]),true) by unfold snapS;rw[if_pos HE0.out]]
    exact⟨HST.out,rfl,Upd.refl _ _⟩
  ·have HE0:=hid hp0
   have hnp:0<p0.length:=List.length_pos_iff.2 hp0
   clear hp0
   go_wp2_with (go_at_call 26;fail)
   refine(refDecode_any w (HP.out.kept HU.out) (HB.out p0 (.inl rfl)).1 (by have:=(HB.out p0 (.inl rfl)).2;omega)).mono ?_
   rintro e w3 ⟨ba,bc,rfl,⟨CB,hsa,hrc,hlb⟩,hfin,hal,hu3⟩
   obtain⟨B,hBB⟩: ∃B,B=(decF p0).1:=⟨_,rfl⟩
   obtain⟨E,hE⟩: ∃E,E=(decF p0).2:=⟨_,rfl⟩
   rw[←hBB] at hsa hfin
   rw[←hBB,←hE]
   unfold batchV
   simp only[]
   have HBE:=hid hBB;have HEE:=hid hE;have HFI:=hid hfin
   clear hBB hE
   go_upto_region 4 with fail
   obtain⟨w4,hw4⟩: ∃w4,w4=w3.alloc (.cells #[.int .u64 B.epoch,.bool B.large,.slice ba B.sets.length bc] 56):=⟨_,rfl⟩
   rw[←hw4]
   have hu4:Upd (fun _=>False) w3 w4:=by rw[hw4];exact(Upd.refl _ w3).alloc _
   have hx4:w4.heap[w3.heap.size]?=some (.cells #[.int .u64 B.epoch,.bool B.large,.slice ba B.sets.length bc] 56 (0,0)):=by rw[hw4];exact alloc_at rfl
   have hrs4:=((hu3.trans hu4).block _ (lt_of_heap HRES.out) (fun e=>e)).trans HRES.out
   have HSA:=hid ((hsa.toR (R':=fun k=>k<w3.heap.size) (fun b o e=>(hal b o e).2)).kept hu4 (fun _ _ e=>e) (fun _ _ e=>e));have HRC:=hid (hrc.kept hu4 (fun _ _ e=>e));have HX4:=hid hx4;have HU04:=hid (hu3.trans hu4);have HRS4:=hid hrs4
   have HLB:=hid hlb
   obtain⟨bx,hbx⟩: ∃bx,bx=w3.heap.size:=⟨_,rfl⟩
   rw[←hbx] at hx4 HX4 HSA ⊢
   clear hsa hrc hlb hfin hal hu3 hu4 hw4 hbx
   by_cases hE0:E=0
   rotate_left
   ·have hE1:(E == 0)=false:=by simpa using hE0
    have HK0:=hid (show(foundN p0 txs).2=false by
     refine playN_false txs _ ?_
     unfold snapS
     rw[if_neg HE0.out]
     simp only[Bool.and_eq_false_iff]
     exact .inl (by unfold playK;exact decide_eq_false (fun e=>hE0 (HEE.out.trans e.1))))
    clear hE0
    have frs0:w4.frozen? ⟨res,0,none⟩=false:=frozen_of_heap hrs4
    have frs1:w4.frozen? ⟨res,1,none⟩=false:=frozen_of_heap hrs4
    obtain⟨s0,s1⟩:=cells2_of hrs4
    clear hrs4
    go_wp2
    obtain⟨w9,hw9⟩: ∃w9,w9=(w4.setCell ⟨res,0,none⟩ (.int .u64 0)).setCell ⟨res,1,none⟩ (.slice none 0 0):=⟨_,rfl⟩
    rw[←hw9]
    have hu9:Upd (fun j=>j=res) w4 w9:=by rw[hw9];exact(upd_own w4 res 0 _).trans (upd_own _ res 1 _)
    have hx9:w9.heap[res]?=some (.cells #[.int .u64 0,.slice none 0 0] 62 (0,0)):=by
     rw[hw9]
     have:=blk_set (i:=1) (v:=.slice none 0 0) (blk_set (i:=0) (v:=.int .u64 0) HRS4.out)
     simpa using this
    have hl9:=run_loadVar_mid (P:=Tryz.prog) w9 res 0 62 [.int .u64 0,.slice none 0 0] _ (rangeAt_block hx9) Tryz.underlying62 rfl (by rw[size62];rfl)
    refine bodyPost_ret (results_cell_tmp Tryz.results121 rfl hl9) rfl ?_
    exact⟨(HU.out.trans HU04.out).step hu9 (fun j hj e=>by have:=HNE.out;omega),.inl ⟨HK0.out,rfl⟩⟩
   ·subst hE0
    have hed:=enc_dec (HB.out p0 (.inl rfl)).1 HEE.out.symm
    rw[←HBE.out] at hed
    have HR:=hid hed.2
    have HPP:=hid hed.1
    have hst4:=HST.out.kept0 HU04.out
    obtain⟨s8,hs8⟩: ∃s,s=((0,[]):Int×KV):=⟨_,rfl⟩
    rw[←hs8] at hst4
    have HS8:=hid hs8
    obtain⟨ev,l⟩:=s8
    obtain⟨C9,a9,c9,hx6,hv6,hc6,_,h10,_⟩:=hst4.out
    have HFR:=hid (show∀k,(C9 k∨CB k)→w0.heap.size≤k from fun k hk=>hk.elim (h10 k) (fun e=>Nat.le_trans HU.out.size (HLB.out.1 k e)))
    clear h10
    have HFINE:=hid hst4.fine;have HEV:=hid hst4.ev;have HUW:=hid hst4.upd
    simp only at hx6 hv6 HFINE HEV
    obtain⟨t0,t1⟩:=cells2_of hx6
    obtain⟨x0,x1,x2⟩:=cells3_of HX4.out
    have HX6:=hid hx6;have HV6:=hid (hv6.moreC (C':=fun k=>C9 k∨CB k) (fun _ e=>.inl e))
    have HC6:=hid (show RowC w4 (fun k=>C9 k∨CB k) from fun k hk=>hk.elim (hc6 k) (HRC.out k))
    have HSA6:=hid (HSA.out.moreC (C':=fun k=>C9 k∨CB k) (fun _ e=>.inr e))
    have HSL:=hid (BatchV.right_sets HR.out).2.1
    have HBXL:=hid (lt_of_heap HX4.out)
    clear hst4 hv6 hc6 hx6 hs8
    go_wp2_with (go_at_call 166;fail)
    refine(refDo_any (R:=fun k=>k<bx) w4 HV6.out (by have:=HFINE.out.len;omega) HSA6.out (by have:=HSL.out;omega) HC6.out (fun p hp=>(HFINE.out.each p hp).2.2.2) HFINE.out.rising (fun k hk=>by have:=HBXL.out;omega)).mono ?_
    rintro e w5 ⟨hu5,hans⟩
    have hx65:=(hu5.block _ (lt_of_heap HX6.out) (fun e=>e)).trans HX6.out
    have hrs5:=(hu5.block _ (lt_of_heap HRS4.out) (fun e=>e)).trans HRS4.out
    have HX65:=hid hx65;have HRS5:=hid hrs5;have HU5:=hid hu5;have HC5:=hid (HC6.out.kept hu5 (fun _ _ e=>e))
    have f0:w5.frozen? ⟨t6,0,none⟩=false:=frozen_of_heap hx65
    have f1:w5.frozen? ⟨t6,1,none⟩=false:=frozen_of_heap hx65
    clear t0 t1
    obtain⟨t0,t1⟩:=cells2_of hx65
    clear hu5 hx65 hrs5 x0 x1 x2
    rcases hans with ⟨hd,rfl⟩ | ⟨hd,a5,c5,rfl,hvr⟩
    ·obtain⟨E1,hE1⟩: ∃E1,E1=doE ev l B:=⟨_,rfl⟩
     rw[←hE1] at hd ⊢
     have HK0:=hid (show(foundN p0 txs).2=false by
      refine playN_false txs _ ?_
      unfold snapS
      rw[if_neg HE0.out]
      simp only[Bool.and_eq_false_iff]
      refine .inl ?_
      unfold playK
      rw[←HS8.out,←HBE.out,←hE1]
      exact decide_eq_false (fun e=>hd e.2))
     have hE0:(E1 == 0)=false:=by simpa using hd
     clear hE1
     simp only[]
     go_upto_region 7 with fail
     obtain⟨w6,hw6⟩: ∃w6,w6=(w5.setCell ⟨t6,0,none⟩ (.int .u64 ev)).setCell ⟨t6,1,none⟩ (.slice a9 l.length c9):=⟨_,rfl⟩
     rw[←hw6]
     have hu6:Upd (fun k=>k=t6) w5 w6:=by rw[hw6];exact(upd_own w5 t6 0 _).trans (upd_own _ t6 1 _)
     have hrs6:=(hu6.block _ (lt_of_heap HRS5.out) (fun e=>by have:=HNE.out;omega)).trans HRS5.out
     have HRS6:=hid hrs6;have HU6:=hid ((HU.out.trans (HU04.out.trans HU5.out)).step hu6 (fun k hk e=>by have:=HNE.out;omega))
     clear hw6 hu6 hrs6 f0 f1 t0 t1
     have hA:Upd (fun _=>False) w6 w6.drew:=(Upd.refl _ w6).drew
     refine wp_region_G 10 (fun W=>Upd (fun _=>False) w6 W) [false,false,false,false,false,false,false,false,false,false,false] rfl (by kernel_rfl) ?_
     generalize w6.drew=wd at hA ⊢
     refine tqZ 0 (.int .i64 E1) [2,1] hA (fun w5 q1=>?_) ?_
     ·go_simp
     simp only[pZ,nZ,bZ,List.set]
     refine tqZ 1 (.bool true) [2] hA (fun w5 q1=>?_) ?_
     ·go_simp
     simp only[pZ,nZ,bZ,List.set]
     refine tqZ 2 (.bool true) [] hA (fun w5 q1=>?_) ?_
     ·go_simp
     simp only[pZ,nZ,bZ,List.set]
     refine trZ 3 [9,6,5,4] hA ?_
     simp only[pZ,nZ,bZ,List.set]
     refine trZ 4 [9,6,5] hA ?_
     simp only[pZ,nZ,bZ,List.set]
     refine trZ 5 [9,6] hA ?_
     simp only[pZ,nZ,bZ,List.set]
     refine trZ 6 [9] hA ?_
     simp only[pZ,nZ,bZ,List.set]
     refine trZ 7 [9,8] hA ?_
     simp only[pZ,nZ,bZ,List.set]
     refine trZ 8 [9] hA ?_
     simp only[pZ,nZ,bZ,List.set]
     refine trZ 9 [] hA ?_
     simp only[pZ,nZ,bZ,List.set]
     refine wpG_tail_lit (k:=10) rfl rfl (by kernel_rfl) ?_
     simp only[List.drop]
     clear hE0 hd
     have hrs7:=(hA.block _ (lt_of_heap HRS6.out) (fun e=>e)).trans HRS6.out
     have HRS7:=hid hrs7;have HU7:=hid (HU6.out.trans hA)
     have frs0:wd.frozen? ⟨res,0,none⟩=false:=frozen_of_heap hrs7
     have frs1:wd.frozen? ⟨res,1,none⟩=false:=frozen_of_heap hrs7
     obtain⟨s0,s1⟩:=cells2_of hrs7
     clear hrs7 hA
     go_wp2
     obtain⟨w9,hw9⟩: ∃w9,w9=(wd.setCell ⟨res,0,none⟩ (.int .u64 0)).setCell ⟨res,1,none⟩ (.slice none 0 0):=⟨_,rfl⟩
     rw[←hw9]
     have hu9:Upd (fun j=>j=res) wd w9:=by rw[hw9];exact(upd_own wd res 0 _).trans (upd_own _ res 1 _)
     have hx9:w9.heap[res]?=some (.cells #[.int .u64 0,.slice none 0 0] 62 (0,0)):=by
      rw[hw9]
      have:=blk_set (i:=1) (v:=.slice none 0 0) (blk_set (i:=0) (v:=.int .u64 0) HRS7.out)
      simpa using this
     have hl9:=run_loadVar_mid (P:=Tryz.prog) w9 res 0 62 [.int .u64 0,.slice none 0 0] _ (rangeAt_block hx9) Tryz.underlying62 rfl (by rw[size62];rfl)
     refine bodyPost_ret (results_cell_tmp Tryz.results121 rfl hl9) rfl ?_
     exact⟨HU7.out.step hu9 (fun j hj e=>by have:=HNE.out;omega),.inl ⟨HK0.out,rfl⟩⟩
    ·obtain⟨L,hL⟩: ∃L,L=l.withs B.sets:=⟨_,rfl⟩
     rw[←hL] at hvr ⊢
     have hok:B.Ok:=decF_Ok HBE.out HFI.out HR.out (by
      have: ¬B.epoch<ev:=fun hlt=>by
       unfold doE at hd
       rw[if_pos hlt] at hd
       omega
      have:=HEV.out
      omega)
     have hfn:=(doE_fine HFINE.out HR.out hok hd).1
     rw[←hL] at hfn
     have HLF:=hid hfn
     have HEVB:=hid (show 0≤B.epoch∧B.epoch≤4611686018427387904 from⟨hok.epoch.1,(BatchV.right_sets HR.out).1⟩)
     have HSN:=hid (show snapS p0=((B.epoch,L),wholeF B.epoch L == p0) by
      unfold snapS playS playK
      rw[if_neg HE0.out,←HS8.out,←HBE.out,←HEE.out,if_pos ⟨rfl,hd⟩,hL,decide_eq_true ⟨rfl,hd⟩,Bool.true_and])
     have HVR:=hid hvr
     clear hd hok hfn hvr hL
     simp only[]
     go_upto_region 7 with fail
     obtain⟨w6,hw6⟩: ∃w6,w6=(w5.setCell ⟨t6,0,none⟩ (.int .u64 B.epoch)).setCell ⟨t6,1,none⟩ (.slice a5 L.length c5):=⟨_,rfl⟩
     rw[←hw6]
     obtain⟨p1,p2,p3,p4,p5,p6,p7⟩:=did_at HNE.out.2.2 (HUW.out.trans HU5.out) HX65.out HVR.out HUW.out.size HC5.out hw6
     have hrs6:=(p5.block _ (lt_of_heap HRS5.out) (fun e=>by have:=HNE.out;omega)).trans HRS5.out
     have HX66:=hid p1;have HV66:=hid p2;have HC66:=hid p3;have HU66:=hid p4;have H64:=hid p6;have H65:=hid p7;have HRS6:=hid hrs6
     have HUW6:=hid (show Upd (fun k=>k=t6) w w6 from((HU04.out.trans HU5.out).mono (F:=fun _=>False) (fun _ _ e=>e.elim)).trans p5)
     clear hw6 hrs6 f0 f1 t0 t1 p1 p2 p3 p4 p5 p6 p7 HVR
     have hA:Upd (fun _=>False) w6 w6.drew:=(Upd.refl _ w6).drew
     refine wp_region_G 10 (fun W=>Upd (fun _=>False) w6 W) [false,false,false,false,false,false,false,false,false,false,false] rfl (by kernel_rfl) ?_
     generalize w6.drew=wd at hA ⊢
     refine tqZ 0 (.int .i64 0) [2,1] hA (fun w5 q1=>?_) ?_
     ·go_simp
     simp only[pZ,nZ,bZ,List.set]
     refine tqZ 1 (.bool false) [2] hA (fun w5 q1=>?_) ?_
     ·go_simp
     simp only[pZ,nZ,bZ,List.set]
     refine tqZ 2 (.bool false) [] hA (fun w5 q1=>?_) ?_
     ·go_simp
     simp only[pZ,nZ,bZ,List.set]
     refine tqZ 3 (.agg #[.int .u64 B.epoch,.slice a5 L.length c5]) [9,6,5,4] hA (fun w5 q1=>?_) ?_
     ·obtain⟨c0,c1⟩:=cells2_of ((q1.block _ (lt_of_heap HX66.out) (fun e=>e)).trans HX66.out)
      go_simp
     simp only[pZ,nZ,bZ,List.set]
     refine tqZ 7 (.slice va p0.length vc) [9,8] hA (fun w5 q1=>?_) ?_
     ·go_simp
     simp only[pZ,nZ,bZ,List.set]
     refine tqZ 8 (.string (strOfNums p0)) [9] hA (fun w5 q1=>?_) ?_
     ·have hcs:=conv_str (HP.out.kept (HU66.out.trans q1))
      go_simp
     simp only[pZ,nZ,bZ,List.set]
     refine wpG_doIf (i:=4) rfl (by kernel_rfl) rfl (fun K hK=>?_)
     have HKK:=hid hK
     clear hK
     go_step
     refine(refWhole_any wd (HV66.out.kept0 hA) HLF.out (HC66.out.kept hA (fun _ _ e=>e))).mono ?_
     rintro e wd1 ⟨a8,c8,rfl,hsr,hrc8,hu8⟩
     have hA1:=hA.trans hu8
     have hlw:(wholeB B.epoch L).sets.length=L.length:=by simp[wholeB]
     have henc:=refBytes_any (B:=wholeB B.epoch L) (c:=c8) wd1 hsr.setsAt.setsIn (whole_right HLF.out HEVB.out.2) (whole_ok HLF.out HEVB.out.1 HEVB.out.2)
     unfold batchV at henc
     rw[hlw] at henc
     have HENC:=hid henc
     clear hlw henc hsr hrc8 hu8
     simp only[]
     refine HKK.out _ _ hA1 ?_
     clear HKK
     simp only[pZ,nZ,bZ,List.set]
     refine wpG_doIf (i:=5) rfl (by kernel_rfl) rfl (fun K hK=>?_)
     have HKK:=hid hK
     clear hK
     go_step
     refine(HENC.out).mono ?_
     rintro e wd2 ⟨u8,rfl,hob,hu9⟩
     have hA2:=hA1.trans hu9
     obtain⟨ua,uc,rfl,_⟩:=hob.bytesAt.1.slice
     have HOB:=hid hob
     clear hob hu9 HENC
     simp only[]
     refine HKK.out _ _ hA2 ?_
     clear HKK
     simp only[pZ,nZ,bZ,List.set]
     refine wpG_doIf (i:=6) rfl (by kernel_rfl) rfl (fun K hK=>?_)
     have HKK:=hid hK
     clear hK
     have hcs:=conv_str HOB.out.bytesAt.1.bytesIn
     go_step
     clear hcs
     refine HKK.out _ _ hA2 ?_
     clear HKK
     simp only[pZ,nZ,bZ,List.set]
     refine tqZ 9 (.bool (!decide (wholeF B.epoch L=p0))) [] hA2 (fun w5 q1=>?_) ?_
     ·have hse:=str_eq (encF_by (whole_ok HLF.out HEVB.out.1 HEVB.out.2)) (HB.out p0 (.inl rfl)).1
      unfold wholeF
      go_simp
     simp only[pZ,nZ,bZ,List.set]
     refine wpG_tail_lit (k:=10) rfl rfl (by kernel_rfl) ?_
     simp only[List.drop]
     obtain⟨q,hq⟩: ∃q,q=decide (wholeF B.epoch L=p0):=⟨_,rfl⟩
     rw[←hq]
     have hrs7:=(hA2.block _ (lt_of_heap HRS6.out) (fun e=>e)).trans HRS6.out
     have HRS7:=hid hrs7;have HU7:=hid (HU66.out.trans hA2);have HA2:=hid hA2
     have frs0:wd2.frozen? ⟨res,0,none⟩=false:=frozen_of_heap hrs7
     have frs1:wd2.frozen? ⟨res,1,none⟩=false:=frozen_of_heap hrs7
     obtain⟨s0,s1⟩:=cells2_of hrs7
     clear hrs7 hA hA1 hA2
     cases q with
     |false=>
      have HK0:=hid (show(foundN p0 txs).2=false by
       refine playN_false txs _ ?_
       rw[HSN.out]
       simpa using of_decide_eq_false hq.symm)
      clear hq
      go_wp2
      obtain⟨w9,hw9⟩: ∃w9,w9=(wd2.setCell ⟨res,0,none⟩ (.int .u64 0)).setCell ⟨res,1,none⟩ (.slice none 0 0):=⟨_,rfl⟩
      rw[←hw9]
      have hu9:Upd (fun j=>j=res) wd2 w9:=by rw[hw9];exact(upd_own wd2 res 0 _).trans (upd_own _ res 1 _)
      have hx9:w9.heap[res]?=some (.cells #[.int .u64 0,.slice none 0 0] 62 (0,0)):=by
       rw[hw9]
       have:=blk_set (i:=1) (v:=.slice none 0 0) (blk_set (i:=0) (v:=.int .u64 0) HRS7.out)
       simpa using this
      have hl9:=run_loadVar_mid (P:=Tryz.prog) w9 res 0 62 [.int .u64 0,.slice none 0 0] _ (rangeAt_block hx9) Tryz.underlying62 rfl (by rw[size62];rfl)
      refine bodyPost_ret (results_cell_tmp Tryz.results121 rfl hl9) rfl ?_
      exact⟨HU7.out.step hu9 (fun j hj e=>by have:=HNE.out;omega),.inl ⟨HK0.out,rfl⟩⟩
     |true=>
      have HQ:=hid (of_decide_eq_true hq.symm)
      clear hq
      go_wp2
      go_meet
      case rel=>
       rw[HSN.out]
       refine⟨⟨⟨_,a5,c5,(HA2.out.block _ (lt_of_heap HX66.out) (fun e=>e)).trans HX66.out,HV66.out.kept0 HA2.out,HC66.out.kept HA2.out (fun _ _ e=>e),(fun g o e=>by
        obtain⟨ds,q⟩:=H64.out g o e
        exact⟨ds,(HA2.out.block _ (lt_of_heap q) (fun e=>e)).trans q⟩),HFR.out,H65.out⟩,HLF.out,HEVB.out,HU7.out,HNE.out.2.2⟩,by simpa using HQ.out,HUW6.out.trans (HA2.out.mono (F:=fun _=>False) (fun _ _ e=>e.elim))⟩
 case rest=>
  obtain⟨hst,hsn,huw⟩:=hcut
  have HSTC:=hid hst;have HSNC:=hid hsn;have HUWC:=hid huw
  clear hst hsn huw
  go_upto_block 0 with fail
  go_upto_region 10 with fail
  go_loopg [44] txs.length (fun gk i wr=> ∃k:Nat,k≤txs.length∧gk=txs.length - k∧i=.int .i64 k∧RfS w0 wr t6 ((txs.take k).foldl playN (snapS p0)).1∧((txs.take k).foldl playN (snapS p0)).2=true∧Upd (fun k=>k=t6) w wr)
  case atStart=>exact⟨0,Nat.zero_le _,rfl,rfl,HSTC.out,HSNC.out,HUWC.out⟩
  case round=>
   obtain⟨k,hk,rfl,rfl,hst,hsn,huw⟩:=hrel
   have hrs:=(huw.block _ (lt_of_heap HRES.out) (fun e=>by have:=HNE.out;omega)).trans HRES.out
   have HRSR:=hid hrs;have HUWR:=hid huw
   by_cases hkn:k<txs.length
   ·have hkni:(k:Int)<txs.length:=by omega
    obtain⟨x,hx⟩: ∃x,txs[k]?=some x:=⟨_,List.getElem?_eq_getElem hkn⟩
    obtain⟨hf1,hf2⟩:=found_split (p0:=p0) hx
    obtain⟨s8,hs8⟩: ∃s,s=((txs.take k).foldl playN (snapS p0)):=⟨_,rfl⟩
    rw[←hs8] at hf1 hf2 hst hsn
    have HWR0:=hid hst.upd.size
    have HF1:=hid hf1;have HF2:=hid hf2;have HSN8:=hid hsn;have HST8:=hid hst
    have HBX:=hid (HB.out x (.inr (List.mem_of_getElem? hx)))
    obtain⟨g,v,rfl,y0,hbx⟩:=(HLL.out.kept0 hst.upd) k x hx
    obtain⟨xa,xc,rfl⟩:=BytesIn.slice' hbx
    have HXX:=hid hbx
    clear hf1 hf2 hst hsn huw hrs hx hbx hs8
    have hcv2:IntKind.i64.wrap ((k:Int)+1)=(k:Int)+1:=by rw[IntKind.wrap_i64];have:=HN.out;omega
    go_wp2_with (go_at_call 26;fail)
    refine(refDecode_any wr HXX.out HBX.out.1 (by have:=HBX.out.2;omega)).mono ?_
    rintro e w3 ⟨ba,bc,rfl,⟨CB,hsa,hrc,hlb⟩,hfin,hal,hu3⟩
    obtain⟨B,hBB⟩: ∃B,B=(decF x).1:=⟨_,rfl⟩
    obtain⟨E,hE⟩: ∃E,E=(decF x).2:=⟨_,rfl⟩
    rw[←hBB] at hsa hfin
    rw[←hBB,←hE]
    unfold batchV
    simp only[]
    have HBE:=hid hBB;have HEE:=hid hE;have HFI:=hid hfin
    clear hBB hE
    go_upto_region 13 with fail
    obtain⟨w4,hw4⟩: ∃w4,w4=w3.alloc (.cells #[.int .u64 B.epoch,.bool B.large,.slice ba B.sets.length bc] 56):=⟨_,rfl⟩
    rw[←hw4]
    have hu4:Upd (fun _=>False) w3 w4:=by rw[hw4];exact(Upd.refl _ w3).alloc _
    have hx4:w4.heap[w3.heap.size]?=some (.cells #[.int .u64 B.epoch,.bool B.large,.slice ba B.sets.length bc] 56 (0,0)):=by rw[hw4];exact alloc_at rfl
    have hrs4:=((hu3.trans hu4).block _ (lt_of_heap HRSR.out) (fun e=>e)).trans HRSR.out
    have HLB:=hid hlb
    have HSA:=hid ((hsa.toR (R':=fun k=>k<w3.heap.size) (fun b o e=>(hal b o e).2)).kept hu4 (fun _ _ e=>e) (fun _ _ e=>e));have HRC:=hid (hrc.kept hu4 (fun _ _ e=>e));have HX4:=hid hx4;have HU04:=hid (hu3.trans hu4);have HRS4:=hid hrs4
    obtain⟨bx,hbx⟩: ∃bx,bx=w3.heap.size:=⟨_,rfl⟩
    rw[←hbx] at hx4 HX4 HSA ⊢
    clear hsa hrc hlb hfin hal hu3 hu4 hw4 hbx
    by_cases hE0:E=0
    rotate_left
    ·have hE1:(E == 0)=false:=by simpa using hE0
     have HK0:=hid (show(foundN p0 txs).2=false by
      rw[HF1.out]
      refine playN_false _ _ ?_
      simp only[playN,Bool.and_eq_false_iff]
      exact .inr (by unfold playK;exact decide_eq_false (fun e=>hE0 (HEE.out.trans e.1))))
     have frs0:w4.frozen? ⟨res,0,none⟩=false:=frozen_of_heap hrs4
     have frs1:w4.frozen? ⟨res,1,none⟩=false:=frozen_of_heap hrs4
     obtain⟨s0,s1⟩:=cells2_of hrs4
     clear hrs4
     go_wp2
     obtain⟨w9,hw9⟩: ∃w9,w9=(w4.setCell ⟨res,0,none⟩ (.int .u64 0)).setCell ⟨res,1,none⟩ (.slice none 0 0):=⟨_,rfl⟩
     rw[←hw9]
     have hu9:Upd (fun j=>j=res) w4 w9:=by rw[hw9];exact(upd_own w4 res 0 _).trans (upd_own _ res 1 _)
     have hx9:w9.heap[res]?=some (.cells #[.int .u64 0,.slice none 0 0] 62 (0,0)):=by
      rw[hw9]
      have:=blk_set (i:=1) (v:=.slice none 0 0) (blk_set (i:=0) (v:=.int .u64 0) HRS4.out)
      simpa using this
     have hl9:=run_loadVar_mid (P:=Tryz.prog) w9 res 0 62 [.int .u64 0,.slice none 0 0] _ (rangeAt_block hx9) Tryz.underlying62 rfl (by rw[size62];rfl)
     refine bodyPost_ret (results_cell_tmp Tryz.results121 rfl hl9) rfl ?_
     exact⟨(HST8.out.upd.trans HU04.out).step hu9 (fun j hj e=>by have:=HNE.out;omega),.inl ⟨HK0.out,rfl⟩⟩
    ·subst hE0
     have hed:=enc_dec HBX.out.1 HEE.out.symm
     rw[←HBE.out] at hed
     have HR:=hid hed.2
     have hst4:=HST8.out.kept0 HU04.out
     clear hed hrs4
     go_upto_region 15 with fail
     obtain⟨s8,hs8⟩: ∃s,s=s8.1:=⟨_,rfl⟩
     rw[←hs8] at hst4
     have HS8:=hid hs8
     obtain⟨ev,l⟩:=s8
     obtain⟨C9,a9,c9,hx6,hv6,hc6,_,h10,_⟩:=hst4.out
     have HFR:=hid (show∀k,(C9 k∨CB k)→w0.heap.size≤k from fun k hk=>hk.elim (h10 k) (fun e=>Nat.le_trans HWR0.out (HLB.out.1 k e)))
     clear h10
     have HFINE:=hid hst4.fine;have HEV:=hid hst4.ev;have HUW:=hid hst4.upd
     simp only at hx6 hv6 HFINE HEV
     obtain⟨t0,t1⟩:=cells2_of hx6
     obtain⟨x0,x1,x2⟩:=cells3_of HX4.out
     have HX6:=hid hx6;have HV6:=hid (hv6.moreC (C':=fun k=>C9 k∨CB k) (fun _ e=>.inl e))
     have HC6:=hid (show RowC w4 (fun k=>C9 k∨CB k) from fun k hk=>hk.elim (hc6 k) (HRC.out k))
     have HSA6:=hid (HSA.out.moreC (C':=fun k=>C9 k∨CB k) (fun _ e=>.inr e))
     have HSL:=hid (BatchV.right_sets HR.out).2.1
     have HBXL:=hid (lt_of_heap HX4.out)
     clear hst4 hv6 hc6 hx6 hs8
     go_wp2_with (go_at_call 166;fail)
     refine(refDo_any (R:=fun k=>k<bx) w4 HV6.out (by have:=HFINE.out.len;omega) HSA6.out (by have:=HSL.out;omega) HC6.out (fun p hp=>(HFINE.out.each p hp).2.2.2) HFINE.out.rising (fun k hk=>by have:=HBXL.out;omega)).mono ?_
     rintro e w5 ⟨hu5,hans⟩
     have hx65:=(hu5.block _ (lt_of_heap HX6.out) (fun e=>e)).trans HX6.out
     have hrs5:=(hu5.block _ (lt_of_heap HRS4.out) (fun e=>e)).trans HRS4.out
     have HX65:=hid hx65;have HRS5:=hid hrs5;have HU5:=hid hu5;have HC5:=hid (HC6.out.kept hu5 (fun _ _ e=>e))
     have f0:w5.frozen? ⟨t6,0,none⟩=false:=frozen_of_heap hx65
     have f1:w5.frozen? ⟨t6,1,none⟩=false:=frozen_of_heap hx65
     clear t0 t1
     obtain⟨t0,t1⟩:=cells2_of hx65
     clear hu5 hx65 hrs5 x0 x1 x2
     rcases hans with ⟨hd,rfl⟩ | ⟨hd,a5,c5,rfl,hvr⟩
     ·obtain⟨E1,hE1⟩: ∃E1,E1=doE ev l B:=⟨_,rfl⟩
      rw[←hE1] at hd ⊢
      have HK0:=hid (show(foundN p0 txs).2=false by
       rw[HF1.out]
       refine playN_false _ _ ?_
       simp only[playN,Bool.and_eq_false_iff]
       refine .inr ?_
       unfold playK
       rw[←HS8.out,←HBE.out,←hE1]
       exact decide_eq_false (fun e=>hd e.2))
      have hE0:(E1 == 0)=false:=by simpa using hd
      clear hE1
      simp only[]
      go_upto_region 16 with fail
      obtain⟨w6,hw6⟩: ∃w6,w6=(w5.setCell ⟨t6,0,none⟩ (.int .u64 ev)).setCell ⟨t6,1,none⟩ (.slice a9 l.length c9):=⟨_,rfl⟩
      rw[←hw6]
      have hu6:Upd (fun k=>k=t6) w5 w6:=by rw[hw6];exact(upd_own w5 t6 0 _).trans (upd_own _ t6 1 _)
      have hrs6:=(hu6.block _ (lt_of_heap HRS5.out) (fun e=>by have:=HNE.out;omega)).trans HRS5.out
      have HRS6:=hid hrs6;have HU6:=hid ((HUW.out.trans HU5.out).step hu6 (fun k hk e=>by have:=HNE.out;omega))
      clear hw6 hu6 f0 f1 t0 t1
      have frs0:w6.frozen? ⟨res,0,none⟩=false:=frozen_of_heap hrs6
      have frs1:w6.frozen? ⟨res,1,none⟩=false:=frozen_of_heap hrs6
      obtain⟨s0,s1⟩:=cells2_of hrs6
      clear hrs6
      go_wp2
      obtain⟨w9,hw9⟩: ∃w9,w9=(w6.setCell ⟨res,0,none⟩ (.int .u64 0)).setCell ⟨res,1,none⟩ (.slice none 0 0):=⟨_,rfl⟩
      rw[←hw9]
      have hu9:Upd (fun j=>j=res) w6 w9:=by rw[hw9];exact(upd_own w6 res 0 _).trans (upd_own _ res 1 _)
      have hx9:w9.heap[res]?=some (.cells #[.int .u64 0,.slice none 0 0] 62 (0,0)):=by
       rw[hw9]
       have:=blk_set (i:=1) (v:=.slice none 0 0) (blk_set (i:=0) (v:=.int .u64 0) HRS6.out)
       simpa using this
      have hl9:=run_loadVar_mid (P:=Tryz.prog) w9 res 0 62 [.int .u64 0,.slice none 0 0] _ (rangeAt_block hx9) Tryz.underlying62 rfl (by rw[size62];rfl)
      refine bodyPost_ret (results_cell_tmp Tryz.results121 rfl hl9) rfl ?_
      exact⟨HU6.out.step hu9 (fun j hj e=>by have:=HNE.out;omega),.inl ⟨HK0.out,rfl⟩⟩
     ·obtain⟨L,hL⟩: ∃L,L=l.withs B.sets:=⟨_,rfl⟩
      rw[←hL] at hvr ⊢
      have hok:B.Ok:=decF_Ok HBE.out HFI.out HR.out (by
       have: ¬B.epoch<ev:=fun hlt=>by
        unfold doE at hd
        rw[if_pos hlt] at hd
        omega
       have:=HEV.out
       omega)
      have hfn:=(doE_fine HFINE.out HR.out hok hd).1
      rw[←hL] at hfn
      have HLF:=hid hfn
      have HEVB:=hid (show 0≤B.epoch∧B.epoch≤4611686018427387904 from⟨hok.epoch.1,(BatchV.right_sets HR.out).1⟩)
      have HSN:=hid (show playN s8 x=((B.epoch,L),true) by
       unfold playN playS playK
       rw[←HS8.out,←HBE.out,←HEE.out,if_pos ⟨rfl,hd⟩,hL,decide_eq_true ⟨rfl,hd⟩,HSN8.out,Bool.true_and])
      have HVR:=hid hvr
      clear hd hok hfn hvr hL
      simp only[]
      go_upto_region 16 with fail
      obtain⟨w6,hw6⟩: ∃w6,w6=(w5.setCell ⟨t6,0,none⟩ (.int .u64 B.epoch)).setCell ⟨t6,1,none⟩ (.slice a5 L.length c5):=⟨_,rfl⟩
      rw[←hw6]
      obtain⟨p1,p2,p3,p4,p5,p6,p7⟩:=did_at HNE.out.2.2 (HUW.out.trans HU5.out) HX65.out HVR.out HUW.out.size HC5.out hw6
      have HX66:=hid p1;have HV66:=hid p2;have HC66:=hid p3;have HU66:=hid p4;have H64:=hid p6;have H65:=hid p7
      have HUW6:=hid (show Upd (fun k=>k=t6) w w6 from HUWR.out.trans (((HU04.out.trans HU5.out).mono (F:=fun _=>False) (fun _ _ e=>e.elim)).trans p5))
      clear hw6 f0 f1 t0 t1 p1 p2 p3 p4 p5 p6 p7 HVR
      go_wp2
      go_roundg (txs.length - (k+1))
      case measure=>omega
      case rel=>
       refine⟨k+1,by omega,rfl,congrArg _ (by omega),?_,?_,HUW6.out⟩
       ·rw[HF2.out,HSN.out]
        exact⟨⟨_,a5,c5,HX66.out,HV66.out,HC66.out,H64.out,HFR.out,H65.out⟩,HLF.out,HEVB.out,HU66.out,HNE.out.2.2⟩
       ·rw[HF2.out,HSN.out]
   ·obtain rfl:k=txs.length:=by omega
    rw[List.take_length] at hst hsn
    obtain⟨C9,a9,c9,hx6,hv6,hc6,h64,h65⟩:=hst.out
    have H64:=hid h64;have H65:=hid h65
    clear h64 h65
    have hfo:txs.foldl playN (snapS p0)=foundN p0 txs:=rfl
    rw[hfo] at hx6 hv6 hsn
    obtain⟨s9,hs9⟩: ∃s,s=foundN p0 txs:=⟨_,rfl⟩
    have hfi:=hst.fine
    rw[hfo] at hfi
    rw[←hs9] at hx6 hv6 hsn hfi
    obtain⟨⟨ev,l⟩,ok⟩:=s9
    simp only at hx6 hv6 hsn hfi
    have HS9:=hid hs9;have HFI:=hid hfi;have HUE:=hid hst.upd
    obtain⟨t0,t1⟩:=cells2_of hx6
    have HX6:=hid hx6;have HV6:=hid hv6;have HC6:=hid hc6;have HSNE:=hid hsn
    have frs0:wr.frozen? ⟨res,0,none⟩=false:=frozen_of_heap hrs
    have frs1:wr.frozen? ⟨res,1,none⟩=false:=frozen_of_heap hrs
    obtain⟨s0,s1⟩:=cells2_of hrs
    clear hst hsn huw hrs hx6 hv6 hc6 hfo hs9 hfi
    go_wp2
    obtain⟨w9,hw9⟩: ∃w9,w9=(wr.setCell ⟨res,0,none⟩ (.int .u64 ev)).setCell ⟨res,1,none⟩ (.slice a9 l.length c9):=⟨_,rfl⟩
    rw[←hw9]
    have hu9:Upd (fun j=>j=res) wr w9:=by rw[hw9];exact(upd_own wr res 0 _).trans (upd_own _ res 1 _)
    have hx9:w9.heap[res]?=some (.cells #[.int .u64 ev,.slice a9 l.length c9] 62 (0,0)):=by
     rw[hw9]
     have:=blk_set (i:=1) (v:=.slice a9 l.length c9) (blk_set (i:=0) (v:=.int .u64 ev) HRSR.out)
     simpa using this
    have hl9:=run_loadVar_mid (P:=Tryz.prog) w9 res 0 62 [.int .u64 ev,.slice a9 l.length c9] _ (rangeAt_block hx9) Tryz.underlying62 rfl (by rw[size62];rfl)
    refine bodyPost_ret (results_cell_tmp Tryz.results121 rfl hl9) rfl ?_
    unfold RefFoundAns
    rw[←HS9.out]
    have hval:=HV6.out
    refine⟨HUE.out.step hu9 (fun j hj e=>by have:=HNE.out;omega),.inr ⟨HSNE.out,HFI.out,C9,a9,c9,rfl,fun i p hp=>?_,fun k hk=>?_,fun g o e=>?_,H65.out.1,H65.out.2⟩⟩
    ·obtain⟨g,v,e1,e2,e3,e4⟩:=hval i p hp
     have hne:g≠res:=fun e=>by
      obtain⟨ds,q⟩:=H64.out g 0 e1
      rw[e,HRSR.out] at q
      injection q with q
      injection q with _ q
      exact absurd q (by decide)
     exact⟨g,v,e1,cell_keptF hu9 hne e2,cell_keptF hu9 hne e3,e4.kept hu9 (fun j hj e=>by
      obtain⟨ds,q⟩:=HC6.out j hj
      rw[e,HRSR.out] at q
      injection q with q
      injection q with _ q
      exact absurd q (by decide))⟩
    ·obtain⟨ds,q⟩:=HC6.out k hk
     refine⟨ds,(hu9.block _ (lt_of_heap q) (fun e=>?_)).trans q⟩
     rw[e,HRSR.out] at q
     injection q with q
     injection q with _ q
     exact absurd q (by decide)
    ·obtain⟨ds,q⟩:=H64.out g o e
     refine⟨ds,(hu9.block _ (lt_of_heap q) (fun e=>?_)).trans q⟩
     rw[e,HRSR.out] at q
     injection q with q
     injection q with _ q
     exact absurd q (by decide)
theorem openL_err {hd:Hd}{ps:List (List Int)}{D:Dk}(h:(openL hd ps D).1=none):(openL hd ps D).2.1≠0:=by
 unfold openL at h ⊢
 split at h
 ·cases h
 ·rename_i h1
  rw[if_neg h1]
  exact h1
theorem openL_some {hd:Hd}{ps:List (List Int)}{D:Dk}{X:Lg}(h:(openL hd ps D).1=some X):X.parts=ps∧X.broken=false:=by
 unfold openL at h
 split at h
 ·injection h with h
  subst h
  exact⟨rfl,rfl⟩
 ·cases h
theorem openP_err {hd:Hd}{R:List (List Int)×Int×Dk}(h:(openP hd R).1=none):(openP hd R).2.1≠0:=by
 unfold openP at h ⊢
 split at h
 ·rename_i h1
  rw[if_pos h1]
  split at h
  ·rename_i h2
   rw[if_pos h2]
   show(140:Int)≠0
   decide
  ·rename_i h2
   rw[if_neg h2]
   exact openL_err h
 ·rename_i h1
  rw[if_neg h1]
  exact h1
theorem openP_some {hd:Hd}{R:List (List Int)×Int×Dk}{X:Lg}(h:(openP hd R).1=some X):X.parts≠[]∧X.broken=false:=by
 unfold openP at h
 split at h
 ·split at h
  ·cases h
  ·rename_i h2
   obtain⟨h3,h4⟩:=openL_some h
   exact⟨by rw[h3];exact fun e=>h2 (.inl e),h4⟩
 ·cases h
theorem openH_err {c:Hd×Bool}{D:Dk}(h:(openH c D).1=none):(openH c D).2.1≠0:=by
 unfold openH at h ⊢
 split at h
 ·rename_i h1
  rw[if_pos h1]
  show(140:Int)≠0
  decide
 ·rename_i h1
  rw[if_neg h1]
  exact openP_err h
theorem openH_some {c:Hd×Bool}{D:Dk}{X:Lg}(h:(openH c D).1=some X):X.parts≠[]∧X.broken=false:=by
 unfold openH at h
 split at h
 ·cases h
 ·exact openP_some h
theorem openD_err {D:Dk}(h:(openD D).1=none):(openD D).2.1≠0:=by
 unfold openD at h ⊢
 split at h
 ·rename_i h1
  rw[if_pos h1]
  split at h
  ·rename_i h2
   rw[if_pos h2]
   exact openH_err h
  ·rename_i h2
   rw[if_neg h2]
   exact h2
 ·rename_i h1
  rw[if_neg h1]
  exact h1
theorem openD_some {D:Dk}{X:Lg}(h:(openD D).1=some X):X.parts≠[]∧X.broken=false:=by
 unfold openD at h
 split at h
 ·split at h
  ·exact openH_some h
  ·cases h
 ·cases h
def RFound (w:World)(p:Nat)(X:Lg)(D':Dk)(F':Nat→Prop)(p0:List Int)(txs:List (List Int))(e:Ending)(w':World):Prop:=
 ∃r q b n C G',e=.returned (.tuple #[.pointer (some ⟨r,0,none⟩),.int .i64 0])∧RegMem w' r q p (foundN p0 txs).1.1 b n C (foundN p0 txs).1.2 (areaN (X.h.area - X.used) X.parts) X D' G' F'∧(foundN p0 txs).1.2.Fine∧
  (0≤(foundN p0 txs).1.1∧(foundN p0 txs).1.1≤4611686018427387904)∧n≤48+48 * X.parts.length∧(∀k,G' k→w.heap.size≤k)∧w.heap.size≤r∧w.heap.size≤b∧(∀k,C k→w.heap.size≤k)
def ROpenAns (w:World)(p K:Nat)(F:Nat→Prop)(R:Option Lg×Int×Dk)(e:Ending)(w':World):Prop:=
 ∃F',Dsk w' p R.2.2 F'∧(∀k,F' k→F k∨w.heap.size≤k)∧Upd F w w'∧R.2.2.Ok (K+1002000)∧match R.1 with
 |none=>e=.returned (.tuple #[.pointer none,.int .i64 R.2.1])
 |some X=>X.Ok∧X.broken=false∧ ∃p0 txs,X.parts=p0 :: txs∧(((foundN p0 txs).2=false∧e=.returned (.tuple #[.pointer none,.int .i64 302]))∨((foundN p0 txs).2=true∧RFound w p X R.2.2 F' p0 txs e w'))
theorem ropen_any {p K:Nat}{D:Dk}{F:Nat→Prop}(w:World)(hD:Dsk w p D F)(hok:D.Ok K)(hK:K≤1000000000):
  Calls Tryz.prog 35 #[.pointer (some ⟨p,0,none⟩)] w (ROpenAns w p K F (openD D)):=by
 have hop:=open_any w hD hok (by omega)
 have h1:=openD_err (D:=D)
 have h2:=fun X=>openD_some (D:=D) (X:=X)
 obtain⟨R,hR⟩: ∃R,R=openD D:=⟨_,rfl⟩
 rw[←hR] at hop h1 ⊢
 simp only[←hR] at h2
 obtain⟨o,E,D'⟩:=R
 clear hR hD hok hK
 have HC:=hid hop
 clear hop
 cases o with
 |none=>
  have hE:E≠0:=h1 rfl
  clear h1 h2
  go_enter Tryz.func35,Tryz.ntmps35
  go_wp2_with (go_at_call 61;fail)
  refine HC.out.mono ?_
  rintro e w1 ⟨F',k1,k2,k3,k4,rfl⟩
  have HK:=hid (show ROpenAns w p K F (none,E,D') (.returned (.tuple #[.pointer none,.int .i64 E])) w1 from⟨F',k1,k2,k3,k4,rfl⟩)
  clear k1 k2 k3 k4 HC
  simp only[]
  go_wp2
  go_returns
  exact HK.out
 |some X=>
  obtain⟨hne,hbr⟩:=h2 X rfl
  obtain⟨p0,txs,hp⟩: ∃p0 txs,X.parts=p0 :: txs:=by
   cases e:X.parts with
   |nil=>exact absurd e hne
   |cons a b=>exact⟨a,b,rfl⟩
  clear h1 h2 hne
  have HBR:=hid hbr;have HP:=hid hp
  clear hbr hp
  go_enter Tryz.func35,Tryz.ntmps35
  go_wp2_with (go_at_call 61;fail)
  refine HC.out.mono ?_
  rintro e w1 ⟨F',k1,k2,k3,k4,q,G',rfl,k5,k6,k7,k8⟩
  have H1:=hid k1;have H2:=hid k2;have H3:=hid k3;have H4:=hid k4;have H5:=hid k5;have H6:=hid k6;have H7:=hid k7;have H8:=hid k8
  clear k1 k2 k3 k4 k5 k6 k7 k8 HC
  simp only[]
  go_wp2_with (go_at_call 100;fail)
  refine(rfound_any w1 H5.out H8.out HP.out).mono ?_
  rintro e w2 ⟨b,n,C,rfl,hm,hf,hev,hn,hb,hc,hu⟩
  obtain⟨s9,hs9⟩: ∃s,s=foundN p0 txs:=⟨_,rfl⟩
  obtain⟨ar9,har9⟩: ∃x,x=areaN (X.h.area - X.used) X.parts:=⟨_,rfl⟩
  rw[←hs9] at hm hf hev
  rw[←hs9,←har9]
  have HS9:=hid hs9;have HAR:=hid har9
  obtain⟨⟨ev9,l9⟩,ok9⟩:=s9
  simp only at hm hf hev
  have HM:=hid hm;have HF:=hid hf;have HEV:=hid hev;have HN:=hid hn;have HB:=hid hb;have HC:=hid hc;have HU:=hid hu
  clear hm hf hev hn hb hc hu hs9 har9
  cases ok9 with
  |false=>
   simp only[]
   go_wp2
   go_returns
   have hu2:=HU.out.trans ((Upd.refl (fun _=>False) w2).alloc (.cells #[.int .u64 ev9,.map (some b)] 167))
   refine⟨F',H1.out.kept hu2 (fun _ _ e=>e),H2.out,H3.out.trans (hu2.mono (F:=fun _=>False) (fun _ _ e=>e.elim)),H4.out,H8.out,HBR.out,p0,txs,HP.out,.inl ⟨?_,rfl⟩⟩
   rw[←HS9.out]
  |true=>
   simp only[]
   obtain⟨w3,hw3⟩: ∃w3,w3=(w2.alloc (.cells #[.int .u64 ev9,.map (some b)] 167)).alloc (.cells #[.pointer (some ⟨q,0,none⟩),.int .u64 ev9,.map (some b),.int .i64 ar9] 172):=⟨_,rfl⟩
   have hu3:Upd (fun _=>False) w2 w3:=by rw[hw3];exact((Upd.refl _ w2).alloc _).alloc _
   have hr3:RegAt w3 (w2.heap.size+1) (.pointer (some ⟨q,0,none⟩)) ev9 (.map (some b)) ar9:=by
    unfold RegAt
    rw[hw3]
    exact alloc_at (by simp)
   have HW3:=hid hw3;have HU3:=hid hu3;have HR3:=hid hr3
   clear hw3 hu3 hr3
   go_wp2
   go_returns
   rw[←HW3.out]
   have hsz:=HU.out.size
   have hu13:=HU.out.trans HU3.out
   have hGl:=H5.out.lt
   have hFl:=H1.out.lt
   have hws:=H3.out.size
   refine⟨F',H1.out.kept hu13 (fun _ _ e=>e),H2.out,H3.out.trans (hu13.mono (F:=fun _=>False) (fun _ _ e=>e.elim)),H4.out,H8.out,HBR.out,p0,txs,HP.out,.inr ⟨by rw[←HS9.out],?_⟩⟩
   unfold RFound
   rw[←HS9.out,←HAR.out]
   exact⟨w2.heap.size+1,q,b,n,C,G',rfl,⟨HR3.out,HM.out.kept0 HU3.out,⟨H5.out.kept' hu13,H1.out.kept hu13 (fun _ _ e=>e),H7.out⟩,⟨fun e=>by have:=hGl _ e;omega,fun e=>by have:=hFl _ e;omega⟩,⟨fun e=>by have:=hGl _ e;have:=HB.out;omega,fun e=>by have:=hFl _ e;have:=HB.out;omega⟩,fun k hk=>⟨fun e=>by have:=hGl _ e;have:=HC.out k hk;omega,fun e=>by have:=hFl _ e;have:=HC.out k hk;omega⟩⟩,
    HF.out,HEV.out,HN.out,H6.out,by omega,by have:=HB.out;omega,fun k hk=>by have:=HC.out k hk;omega⟩
end
end Go.Proofs.YtbimkhdiplnbfaaGreat
