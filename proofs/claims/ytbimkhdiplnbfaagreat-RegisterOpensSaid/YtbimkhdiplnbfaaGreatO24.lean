/- Walks: the reference's Decode. -/
import Derived.Test.YtbimkhdiplnbfaaGreatO20
import Derived.Test.YtbimkhdiplnbfaaGreatO23
import Derived.Test.YtbimkhdiplnbfaaGreatO26
import Derived.Deep.CutBlock
open Go.Lib (hid)
set_option linter.unusedVariables false
set_option linter.unusedSimpArgs false
namespace Go.Proofs.YtbimkhdiplnbfaaGreat
set_option maxRecDepth 1000000
set_option maxHeartbeats 16000000
section
open Go.RowKit Go.Shelf
structure TcAt (w:World) (tb ob:Nat) (ev:Int) (fl:Bool) (st:Option (List Int)) (bad:Bool) (l:List SetV) (W:World):Prop where
 tk:TkS w W tb st bad
 out: ∃(C:Nat→Prop) (a:Option Addr) (c:Nat),W.heap[ob]?=some (.cells #[.int .u64 ev,.bool fl,.slice a l.length c] 56 (0,0))∧SetRow W (ob+1) C (.slice a l.length c) l∧RowC W C∧ ∀k,C k→ob<k
 res:W.heap[w.heap.size]?=some (.cells #[.int .u64 0,.bool false,.slice none 0 0] 56 (0,0))
theorem raw_T' {tb:Nat}(n:Nat)(hn:n≤1000000)(w:World)(W:World)(b:Bool)(st:Option (List Int))(h:TkS w W tb st b):
  Calls Tryz.prog 86 #[.pointer (some ⟨tb,0,none⟩),.int .i64 n] W fun e w'=> ∃u,e=.returned u∧BytesIn w' u (takeT n st).1∧TkS w w' tb (takeS n st).2 b∧Upd (fun k=>k=tb) W w':=by
 refine(raw_T w W h hn).mono ?_
 rintro e w' ⟨u,h1,h2,h3,h4⟩
 rw[takeT_st] at h3
 exact⟨u,h1,h2,h3,h4⟩
theorem SetRow.block73 {w:World}{B:Nat}{C:Nat→Prop}{sv:Value}{l:List SetV}(h:SetRow w B C sv l){k:Nat}(hk:sv.ownBlock=some k): ∃cs,w.heap[k]?=some (.cells cs 73 (0,0)):=by
 obtain⟨L,_,h1,_⟩:=h
 rcases h1.2 with ⟨h4,_⟩ | ⟨g,cap,cur,e,hb,hg,_⟩
 ·rw[h4] at hk;simp[Value.ownBlock] at hk
 ·rw[e] at hk
  simp only[Value.ownBlock] at hk
  injection hk with hk
  subst hk
  exact⟨_,hg⟩
theorem SetRow.apart {w:World}{B:Nat}{C D:Nat→Prop}{sv:Value}{l:List SetV}(h:SetRow w B C sv l)(hd:RowC w D): ∀k,D k→ ¬sv.ownBlock=some k:=fun k hk e=>by
 obtain⟨cs,h1⟩:=h.block73 e
 obtain⟨ds,h2⟩:=hd k hk
 rw[h1] at h2
 injection h2 with h2
 injection h2 with _ h2
 cases h2
theorem maybeTb_fine {st:Option (List Int)}(h: ∀bs,st=some bs→Bytes bs):(maybeTb st).length≤65535∧Bytes (maybeTb st):=by
 have h1: ∀bs,(numS 1 st).2=some bs→Bytes bs:=takeS_bytes h
 have h2: ∀bs,(numS 2 (numS 1 st).2).2=some bs→Bytes bs:=takeS_bytes h1
 have hb:=numS_bound (n:=2) h1
 refine⟨?_,takeT_by h2⟩
 unfold maybeTb
 rw[takeT_len]
 omega
theorem takeS_past {n:Nat}{st:Option (List Int)}{r:List Int}(h:(takeS n st).2=some r): ∃q,st=some q:=by
 cases st with
 |none=>simp[takeS] at h
 |some q=>exact⟨q,rfl⟩
theorem maybeS_past {st:Option (List Int)}{bad:Bool}{r:List Int}(h:(maybeS st bad).2.2.1=some r): ∃q,st=some q:=by
 obtain⟨_,h⟩:=takeS_past h
 obtain⟨_,h⟩:=takeS_past h
 exact takeS_past h
theorem refDecode_any {va:Option Addr}{vc:Nat}{bs:List Int}(w:World)(hv:BytesIn w (.slice va bs.length vc) bs)(hB:Bytes bs)(hl:bs.length≤1099511627776):
  Calls Tryz.prog 26 #[.slice va bs.length vc] w (DecAns w bs):=by
 obtain⟨tb,htb⟩: ∃tb,tb=w.heap.size+1:=⟨_,rfl⟩
 obtain⟨n0,hn0⟩: ∃n0,n0=bs.length:=⟨_,rfl⟩
 have hT0:TkS w ((w.alloc (.cells #[.int .u64 0,.bool false,.slice none 0 0] 56)).alloc (.cells #[.slice va n0 vc,.bool false,.bool false] 152)) tb (some bs) false:=by
  refine⟨⟨by omega,((Upd.refl _ w).alloc _).alloc _⟩,_,alloc_at (by rw[htb];simp),?_,hB⟩
  rw[hn0];exact hv
 have hres:((w.alloc (.cells #[.int .u64 0,.bool false,.slice none 0 0] 56)).alloc (.cells #[.slice va n0 vc,.bool false,.bool false] 152)).heap[w.heap.size]?=some (.cells #[.int .u64 0,.bool false,.slice none 0 0] 56 (0,0)):=by
  rw[alloc_lt (by simp)]
  exact alloc_at rfl
 have HR:=hid hres;have HT0:=hid hT0;have HTB:=hid htb
 have HRAW8:RowKit.Hid (∀W b st,TkS w W tb st b→Calls Tryz.prog 86 #[.pointer (some ⟨tb,0,none⟩),.int .i64 8] W fun e w'=> ∃u,e=.returned u∧BytesIn w' u (takeT 8 st).1∧TkS w w' tb (takeS 8 st).2 b∧Upd (fun k=>k=tb) W w'):=hid (raw_T' 8 (by omega) w)
 have HRAW1:RowKit.Hid (∀W b st,TkS w W tb st b→Calls Tryz.prog 86 #[.pointer (some ⟨tb,0,none⟩),.int .i64 1] W fun e w'=> ∃u,e=.returned u∧BytesIn w' u [(numS 1 st).1]∧TkS w w' tb (numS 1 st).2 b∧Upd (fun k=>k=tb) W w'):=hid (by
  intro W b st h
  rw[←takeT_one]
  exact raw_T' 1 (by omega) w W b st h)
 obtain⟨ev,hev⟩: ∃ev,ev=(numS 8 (some bs)).1:=⟨_,rfl⟩
 have HNUM:RowKit.Hid (∀W v,BytesIn W v (takeT 8 (some bs)).1→Calls Tryz.prog 85 #[v] W fun e w'=>e=.returned (.int .u64 ev)∧W=w'):=hid (by
  intro W v hv
  have q:=number_any W hv (takeT_by (fun b e=>by injection e with e;rw[←e];exact hB)) (by rw[takeT_len];omega)
  rw[takeT_num,←hev] at q
  exact q)
 rw[←hn0]
 have HN0:=hid hn0;have HEV:=hid hev
 clear hv hB hT0 hres htb hn0 hev
 go_enter Tryz.func26,Tryz.ntmps26
 go_wp2_with (go_at_call 86;fail)
 rw[←HTB.out]
 generalize ((w.alloc (.cells #[.int .u64 0,.bool false,.slice none 0 0] 56)).alloc (.cells #[.slice va n0 vc,.bool false,.bool false] 152))=w1 at HR HT0 ⊢
 refine(HRAW8.out w1 false (some bs) HT0.out).mono ?_
 rintro e w2 ⟨u,rfl,g1,g2,g3⟩
 obtain⟨ua,uc,rfl,_,_⟩:=g1.shape'
 have HG:=hid g1;have HS:=hid g2
 have HR:=hid ((g3.block _ (lt_of_heap HR.out) (by have:=HTB.out;omega)).trans HR.out)
 clear g1 g2 g3
 simp only[]
 go_wp2_with (go_at_call 85;fail)
 refine(HNUM.out w2 _ HG.out).mono ?_
 rintro e w5 ⟨rfl,rfl⟩
 simp only[]
 go_upto_region 3 with fail
 obtain⟨ob,hob⟩: ∃ob,ob=w2.heap.size:=⟨_,rfl⟩
 obtain⟨w3,hw3⟩: ∃w3,w3=w2.alloc (.cells #[.int .u64 ev,.bool false,.slice none 0 0] 56):=⟨_,rfl⟩
 rw[←hw3,←hob]
 have hu3:Upd (fun _=>False) w2 w3:=by rw[hw3];exact(Upd.refl _ w2).alloc _
 have hout:w3.heap[ob]?=some (.cells #[.int .u64 ev,.bool false,.slice none 0 0] 56 (0,0)):=by rw[hw3];exact alloc_at hob
 have htbo:tb<ob:=by rw[hob];exact HS.out.lt
 have htbw:w.heap.size<tb:=by have:=HTB.out;omega
 obtain⟨s1,hs1⟩: ∃s1,s1=(takeS 8 (some bs)).2:=⟨_,rfl⟩
 have hs3:=HS.out.kept hu3 (fun e=>e) (fun _ _ e=>e)
 rw[←hs1] at hs3
 have HS:=hid hs3
 have HR:=hid ((hu3.block _ (lt_of_heap HR.out) (fun e=>e)).trans HR.out)
 have HO:=hid hout
 have HS1:=hid hs1
 clear hob hw3 hu3 hout hs1 hs3 HNUM HG HT0 HRAW8
 go_wp2_with (go_at_call 86;fail)
 obtain⟨f1,hf1⟩: ∃f1,f1=(numS 1 s1).1:=⟨_,rfl⟩
 obtain⟨s2,hs2⟩: ∃s2,s2=(numS 1 s1).2:=⟨_,rfl⟩
 have hc:=HRAW1.out w3 false s1 HS.out
 rw[←hf1,←hs2] at hc
 refine hc.mono ?_
 rintro e w4 ⟨u,rfl,g1,g2,g3⟩
 obtain⟨a1,c1,rfl,q1⟩:=g1.one
 obtain⟨v1,k1⟩:=g2.cells
 have hout:=(g3.block _ (lt_of_heap HO.out) (by omega)).trans HO.out
 have HR:=hid ((g3.block _ (lt_of_heap HR.out) (by omega)).trans HR.out)
 obtain⟨z0,z1,z2⟩:=cells3_of k1
 obtain⟨y0,y1,y2⟩:=cells3_of hout
 have fr1:w4.frozen? ⟨tb,2,none⟩=false:=frozen_of_heap k1
 have fr2:w4.frozen? ⟨ob,1,none⟩=false:=frozen_of_heap hout
 have HS:=hid g2;have HO:=hid hout;have HF1:=hid hf1;have HS2:=hid hs2
 clear g1 g2 g3 k1 hout hf1 hs2 hc
 simp only[]
 go_upto_region 5 with fail
 obtain⟨fl,hfl⟩: ∃fl,fl=(f1 == 1):=⟨_,rfl⟩
 obtain⟨bd0,hbd0⟩: ∃bd0,bd0=decide (1<f1):=⟨_,rfl⟩
 obtain⟨w5,hw5⟩: ∃w5,w5=(w4.setCell ⟨ob,1,none⟩ (.bool fl)).setCell ⟨tb,2,none⟩ (.bool bd0):=⟨_,rfl⟩
 rw[←hfl,←hbd0,←hw5]
 have u1:Upd (fun k=>k=ob) w4 (w4.setCell ⟨ob,1,none⟩ (.bool fl)):=upd_own w4 ob 1 _
 have u2:Upd (fun k=>k=tb) (w4.setCell ⟨ob,1,none⟩ (.bool fl)) w5:=by rw[hw5];exact upd_own _ tb 2 _
 have t1:=HS.out.kept u1 (by omega) (fun k hk e=>by omega)
 have t2:=t1.setBad bd0
 rw[←hw5] at t2
 have o1:(w4.setCell ⟨ob,1,none⟩ (.bool fl)).heap[ob]?=some (.cells #[.int .u64 ev,.bool fl,.slice none 0 0] 56 (0,0)):=by
  have:=blk_set (i:=1) (v:=.bool fl) HO.out
  simpa using this
 have o2:=(u2.block _ (lt_of_heap o1) (by omega)).trans o1
 have r2:=(u2.block _ (by have:=lt_of_heap HR.out;have:=u1.size;omega) (by omega)).trans ((u1.block _ (lt_of_heap HR.out) (by omega)).trans HR.out)
 have HS:=hid t2;have HO:=hid o2;have HR:=hid r2;have HFL:=hid hfl;have HBD:=hid hbd0
 clear hw5 u1 u2 t1 t2 o1 o2 r2 z0 z1 z2 y0 y1 y2 fr1 fr2 hfl hbd0 q1
 go_wp2_with (go_at_call 86;fail)
 obtain⟨cn,hcn⟩: ∃cn,cn=(numS 1 s2).1:=⟨_,rfl⟩
 obtain⟨st0,hst0⟩: ∃st0,st0=(numS 1 s2).2:=⟨_,rfl⟩
 have hcb:=numS_bound (n:=1) HS.out.bytes
 have hc:=HRAW1.out w5 bd0 s2 HS.out
 rw[←hcn] at hcb
 rw[←hcn,←hst0] at hc
 refine hc.mono ?_
 rintro e w6 ⟨u,rfl,g1,g2,g3⟩
 obtain⟨a1,c1,rfl,q1⟩:=g1.one
 have HALL:RowKit.Hid (readAll bs=(⟨ev,fl,(setsS cn.toNat st0 bd0).1⟩,(setsS cn.toNat st0 bd0).2.1,(setsS cn.toNat st0 bd0).2.2)):=hid (by
  have e1:(numS 8 (some bs)).2=s1:=HS1.out.symm
  simp only[readAll]
  rw[e1,←HF1.out,←HS2.out,←hcn,←hst0,←HEV.out,←HFL.out,←HBD.out])
 have hD:TcAt w tb ob ev fl st0 bd0 [] w6:=⟨g2,⟨fun _=>False,none,0,(g3.block _ (lt_of_heap HO.out) (by omega)).trans HO.out,SetRow.nil _ _ _,fun k hk=>hk.elim,fun k hk=>hk.elim⟩,(g3.block _ (lt_of_heap HR.out) (by omega)).trans HR.out⟩
 have HD:=hid hD
 have hci:cn≤255:=by omega
 have hci0:0≤cn:=hcb.1
 have hcv:IntKind.i64.wrap cn=cn:=by rw[IntKind.wrap_i64];omega
 clear g1 g2 g3 hD hcb hc hcn hst0 HS HO HR
 simp only[]
 go_upto_region 6 with fail
 clear q1 hcv
 obtain⟨cnt,rfl⟩: ∃cnt:Nat,cn=cnt:=⟨cn.toNat,by omega⟩
 rw[show((cnt:Int)).toNat=cnt by omega] at HALL
 go_loopg [32] cnt (fun gk i wr=> ∃k:Nat,k≤cnt∧gk=cnt - k∧i=.int .i64 k∧ ∃l,l.length=k∧(∀r,(setsS k st0 bd0).2.1=some r→l=(setsS k st0 bd0).1)∧TcAt w tb ob ev fl (setsS k st0 bd0).2.1 (setsS k st0 bd0).2.2 l wr)
 case atStart=>exact⟨0,Nat.zero_le _,rfl,rfl,[],rfl,fun _ _=>rfl,HD.out⟩
 case round=>
  obtain⟨k,hk,rfl,rfl,l,hll,hle,hd⟩:=hrel
  have HD:=hid hd;have HLE:=hid hle;have HLL:=hid hll
  clear hd hle hll
  by_cases hkn:k<cnt
  ·have hkni:(k:Int)<cnt:=by omega
   obtain⟨st,hst⟩: ∃st,st=(setsS k st0 bd0).2.1:=⟨_,rfl⟩
   obtain⟨bad,hbad⟩: ∃bad,bad=(setsS k st0 bd0).2.2:=⟨_,rfl⟩
   have hsn:=setsS_snoc k st0 bd0
   rw[←hst,←hbad] at HD hsn
   have hby:=HD.out.tk.bytes
   obtain⟨n1,hn1⟩: ∃n1,n1=(numS 1 st).1:=⟨_,rfl⟩
   obtain⟨s1',hs1'⟩: ∃s1',s1'=(numS 1 st).2:=⟨_,rfl⟩
   obtain⟨nmb,hnmb⟩: ∃nmb,nmb=(takeT n1.toNat s1').1:=⟨_,rfl⟩
   obtain⟨s2',hs2'⟩: ∃s2',s2'=(takeS n1.toNat s1').2:=⟨_,rfl⟩
   obtain⟨m3,hm3⟩: ∃m3,m3=maybeS s2' bad:=⟨_,rfl⟩
   obtain⟨m4,hm4⟩: ∃m4,m4=maybeS m3.2.2.1 m3.2.2.2:=⟨_,rfl⟩
   obtain⟨ob3,hob3⟩: ∃ob3,ob3=maybeTb s2':=⟨_,rfl⟩
   obtain⟨ob4,hob4⟩: ∃ob4,ob4=maybeTb m3.2.2.1:=⟨_,rfl⟩
   have hn1b:=numS_bound (n:=1) hby
   rw[←hn1] at hn1b
   have hby1: ∀bs,s1'=some bs→Bytes bs:=by rw[hs1'];exact takeS_bytes hby
   have hby2: ∀bs,s2'=some bs→Bytes bs:=by rw[hs2'];exact takeS_bytes hby1
   have hby3: ∀bs,m3.2.2.1=some bs→Bytes bs:=by rw[hm3];exact(maybeS_fine hby2 bad).2.2
   have hnn:((n1.toNat:Nat):Int)=n1:=by omega
   have HC1:RowKit.Hid (∀W,TkS w W tb st bad→Calls Tryz.prog 86 #[.pointer (some ⟨tb,0,none⟩),.int .i64 1] W fun e w'=> ∃u,e=.returned u∧BytesIn w' u [n1]∧TkS w w' tb s1' bad∧Upd (fun k=>k=tb) W w'):=hid (by
    intro W hW
    rw[hn1,hs1']
    exact HRAW1.out W bad st hW)
   have HC2:RowKit.Hid (∀W,TkS w W tb s1' bad→Calls Tryz.prog 86 #[.pointer (some ⟨tb,0,none⟩),.int .i64 n1] W fun e w'=> ∃u,e=.returned u∧BytesIn w' u nmb∧TkS w w' tb s2' bad∧Upd (fun k=>k=tb) W w'):=hid (by
    intro W hW
    have q:=raw_T' n1.toNat (by omega) w W bad s1' hW
    rw[hnn,←hnmb,←hs2'] at q
    exact q)
   have HM3:RowKit.Hid (∀W,TkS w W tb s2' bad→Calls Tryz.prog 87 #[.pointer (some ⟨tb,0,none⟩)] W fun e w'=> ∃u,e=.returned (.tuple #[.bool m3.1,u])∧OwnB w' W.heap.size u ob3∧TkS w w' tb m3.2.2.1 m3.2.2.2∧Upd (fun k=>k=tb) W w'):=hid (by
    intro W hW
    have q:=maybe_T w W hW
    rw[←hm3,←hob3] at q
    exact q)
   have HM4:RowKit.Hid (∀W,TkS w W tb m3.2.2.1 m3.2.2.2→Calls Tryz.prog 87 #[.pointer (some ⟨tb,0,none⟩)] W fun e w'=> ∃u,e=.returned (.tuple #[.bool m4.1,u])∧OwnB w' W.heap.size u ob4∧TkS w w' tb m4.2.2.1 m4.2.2.2∧Upd (fun k=>k=tb) W w'):=hid (by
    intro W hW
    have q:=maybe_T w W hW
    rw[←hm4,←hob4] at q
    exact q)
   obtain⟨x,hx⟩: ∃x:SetV,x=⟨strOfNums nmb,m3.1,m4.1,ob3,ob4⟩:=⟨_,rfl⟩
   have hxf:x.fine:=by
    obtain⟨p1,p2⟩:=maybeTb_fine hby2
    obtain⟨p3,p4⟩:=maybeTb_fine hby3
    have p5:=takeT_len n1.toNat s1'
    rw[hx]
    refine⟨?_,by simp only[hob3];omega,by simp only[hob4];omega,by simp only[hob3];exact p2,by simp only[hob4];exact p4⟩
    simp only[strOfNums_size,hnmb]
    omega
   have hst2:(setS st bad).2=(m4.2.2.1,m4.2.2.2):=by
    simp only[setS,←hn1,←hs1',←hs2',←hm3,←hm4]
   have hxe: ∀r,m4.2.2.1=some r→(∃q,st=some q)∧x=(setS st bad).1:=by
    intro r hr
    have e4:=maybeTb_some (hm4 ▸ hr:(maybeS m3.2.2.1 m3.2.2.2).2.2.1=some r)
    obtain⟨q3,hq3⟩:=maybeS_past (hm4 ▸ hr:(maybeS m3.2.2.1 m3.2.2.2).2.2.1=some r)
    have e3:=maybeTb_some (hm3 ▸ hq3:(maybeS s2' bad).2.2.1=some q3)
    obtain⟨q2,hq2⟩:=maybeS_past (hm3 ▸ hq3:(maybeS s2' bad).2.2.1=some q3)
    have e2:=takeT_some (hs2' ▸ hq2:(takeS n1.toNat s1').2=some q2)
    obtain⟨q1,hq1⟩:=takeS_past (hs2' ▸ hq2:(takeS n1.toNat s1').2=some q2)
    refine⟨takeS_past (hs1' ▸ hq1:(takeS 1 st).2=some q1),?_⟩
    rw[hx,hnmb,e2,hob3,e3,hob4,e4]
    simp only[setS,←hn1,←hs1',←hs2',←hm3,←hm4]
   have hnext:(setsS (k+1) st0 bd0).2=(m4.2.2.1,m4.2.2.2)∧ ∀r,m4.2.2.1=some r→l++[x]=(setsS (k+1) st0 bd0).1:=by
    rw[hsn]
    refine⟨hst2,fun r hr=>?_⟩
    obtain⟨⟨q,hq⟩,e⟩:=hxe r hr
    rw[e,HLE.out q (hst ▸ hq)]
   have HNEXT:=hid hnext;have HXF:=hid hxf;have HX0:=hid hx
   have hcv:IntKind.i64.wrap n1=n1:=by rw[IntKind.wrap_i64];omega
   have hcv2:IntKind.i64.wrap ((k:Int)+1)=(k:Int)+1:=by rw[IntKind.wrap_i64];omega
   clear hst hbad hsn hby hn1 hs1' hnmb hs2' hm3 hm4 hob3 hob4 hn1b hby1 hby2 hby3 hnn hx hxf hst2 hxe hnext HALL HLE
   go_upto_region 8 with fail
   obtain⟨b6,hb6⟩: ∃b6,b6=wr.heap.size:=⟨_,rfl⟩
   obtain⟨w8,hw8⟩: ∃w8,w8=wr.alloc (.cells #[.string ⟨#[]⟩,.bool false,.bool false,.slice none 0 0,.slice none 0 0] 73):=⟨_,rfl⟩
   rw[←hw8,←hb6]
   have hu8:Upd (fun _=>False) wr w8:=by rw[hw8];exact(Upd.refl _ wr).alloc _
   have hx8:w8.heap[b6]?=some (.cells #[.string ⟨#[]⟩,.bool false,.bool false,.slice none 0 0,.slice none 0 0] 73 (0,0)):=by rw[hw8];exact alloc_at hb6
   have htb6:tb<b6:=by rw[hb6];exact HD.out.tk.lt
   have hs8:=HD.out.tk.kept hu8 (fun e=>e) (fun _ _ e=>e)
   have HS:=hid hs8;have HX:=hid hx8;have HU:=hid (hu8.mono (G:=fun k=>k=tb) (fun _ _ e=>e.elim));have HB6:=hid hb6
   clear hw8 hu8 hx8 hs8 hb6
   go_wp2_with (go_at_call 86;fail)
   refine(HC1.out _ HS.out).mono ?_
   rintro e w9 ⟨u,rfl,g1,g2,g3⟩
   obtain⟨a1,c1,rfl,q1⟩:=g1.one
   have HS:=hid g2;have HX:=hid ((g3.block _ (lt_of_heap HX.out) (by omega)).trans HX.out);have HU:=hid (HU.out.trans g3)
   clear g1 g2 g3 HC1
   simp only[]
   go_wp2_with (go_at_call 86;fail)
   refine(HC2.out _ HS.out).mono ?_
   rintro e w10 ⟨u,rfl,g1,g2,g3⟩
   obtain⟨a2,c2,rfl,_,_⟩:=g1.shape'
   have hcs:=conv_str g1
   have hx:=(g3.block _ (lt_of_heap HX.out) (by omega)).trans HX.out
   obtain⟨x0,x1,x2,x3,x4⟩:=cells5_of hx
   have f0:w10.frozen? ⟨b6,0,none⟩=false:=frozen_of_heap hx
   have HS:=hid g2;have HX:=hid hx;have HU:=hid (HU.out.trans g3)
   clear g1 g2 g3 hx HC2 q1
   simp only[]
   go_upto_region 9 with fail
   clear hcs x0 x1 x2 x3 x4 f0
   obtain⟨w11,hw11⟩: ∃w11,w11=w10.setCell ⟨b6,0,none⟩ (.string (strOfNums nmb)):=⟨_,rfl⟩
   rw[←hw11]
   have hu11:Upd (fun k=>k=b6) w10 w11:=by rw[hw11];exact upd_own w10 b6 0 _
   have hx11:w11.heap[b6]?=some (.cells #[.string (strOfNums nmb),.bool false,.bool false,.slice none 0 0,.slice none 0 0] 73 (0,0)):=by
    rw[hw11]
    have:=blk_set (i:=0) (v:=.string (strOfNums nmb)) HX.out
    simpa using this
   have htbw:w.heap.size<tb:=htbw
   have HS:=hid (HS.out.kept hu11 (by omega) (fun k hk e=>by omega))
   have HU:=hid (HU.out.step (F:=fun k=>k=tb) hu11 (fun k hk e=>by have:=HB6.out;omega))
   have HX:=hid hx11
   clear hw11 hu11 hx11
   go_wp2_with (go_at_call 87;fail)
   refine(HM3.out _ HS.out).mono ?_
   rintro e w12 ⟨u,rfl,g1,g2,g3⟩
   obtain⟨m1,rc1,lb1⟩:=g1.bytesAt
   obtain⟨ua,um,uc,rfl⟩:=m1.slice'
   have hx:=(g3.block _ (lt_of_heap HX.out) (by omega)).trans HX.out
   have lb1: ∀k,(Value.slice ua um uc).ownBlock=some k→b6<k:=fun k hk=>by have:=lb1 k hk;have:=lt_of_heap HX.out;omega
   obtain⟨x0,x1,x2,x3,x4⟩:=cells5_of hx
   have fr1:w12.frozen? ⟨b6,1,none⟩=false:=frozen_of_heap hx
   have fr3:w12.frozen? ⟨b6,3,none⟩=false:=frozen_of_heap hx
   have HX:=hid hx;have HU:=hid (HU.out.trans g3);have HS:=hid g2;have M1:=hid m1;have RC1:=hid rc1;have LB1:=hid lb1
   clear hx g1 g2 g3 m1 rc1 lb1 HM3
   simp only[]
   go_wp2_with (go_at_call 87;fail)
   obtain⟨w13,hw13⟩: ∃w13,w13=(w12.setCell ⟨b6,1,none⟩ (.bool m3.1)).setCell ⟨b6,3,none⟩ (.slice ua um uc):=⟨_,rfl⟩
   rw[←hw13]
   have hu13:Upd (fun k=>k=b6) w12 w13:=by rw[hw13];exact(upd_own w12 b6 1 _).trans (upd_own _ b6 3 _)
   have hx13:w13.heap[b6]?=some (.cells #[.string (strOfNums nmb),.bool m3.1,.bool false,.slice ua um uc,.slice none 0 0] 73 (0,0)):=by
    rw[hw13]
    have:=blk_set (i:=3) (v:=.slice ua um uc) (blk_set (i:=1) (v:=.bool m3.1) HX.out)
    simpa using this
   have HS:=hid (HS.out.kept hu13 (by omega) (fun k hk e=>by omega))
   have HU:=hid (HU.out.step (F:=fun k=>k=tb) hu13 (fun k hk e=>by have:=HB6.out;omega))
   have hq: ∀k,(Value.slice ua um uc).ownBlock=some k→ ¬k=b6:=fun k hk e=>by have:=LB1.out k hk;omega
   have HX:=hid hx13;have M1:=hid (M1.out.kept hu13 hq);have RC1:=hid (RC1.out.kept hu13 hq)
   clear hw13 hu13 hx13 hq x0 x1 x2 x3 x4 fr1 fr3
   refine(HM4.out _ HS.out).mono ?_
   rintro e w14 ⟨u,rfl,g1,g2,g3⟩
   obtain⟨m2,rc2,lb2⟩:=g1.bytesAt
   obtain⟨oa4,om4,oc4,rfl⟩:=m2.slice'
   have hx:=(g3.block _ (lt_of_heap HX.out) (by omega)).trans HX.out
   have lb2: ∀k,(Value.slice oa4 om4 oc4).ownBlock=some k→b6<k:=fun k hk=>by have:=lb2 k hk;have:=lt_of_heap HX.out;omega
   obtain⟨x0,x1,x2,x3,x4⟩:=cells5_of hx
   have fr1:w14.frozen? ⟨b6,2,none⟩=false:=frozen_of_heap hx
   have fr3:w14.frozen? ⟨b6,4,none⟩=false:=frozen_of_heap hx
   have hq: ∀k,(Value.slice ua um uc).ownBlock=some k→ ¬k=tb:=fun k hk e=>by have:=LB1.out k hk;omega
   have HX:=hid hx;have HU:=hid (HU.out.trans g3);have HS:=hid g2;have M2:=hid m2;have RC2:=hid rc2;have LB2:=hid lb2
   have M1:=hid (M1.out.kept g3 hq);have RC1:=hid (RC1.out.kept g3 hq)
   clear hx g1 g2 g3 m2 rc2 lb2 HM4 hq
   simp only[]
   go_upto_region 11 with fail
   obtain⟨w15,hw15⟩: ∃w15,w15=(w14.setCell ⟨b6,2,none⟩ (.bool m4.1)).setCell ⟨b6,4,none⟩ (.slice oa4 om4 oc4):=⟨_,rfl⟩
   rw[←hw15]
   have hu15:Upd (fun k=>k=b6) w14 w15:=by rw[hw15];exact(upd_own w14 b6 2 _).trans (upd_own _ b6 4 _)
   have hx15:w15.heap[b6]?=some (.cells #[.string (strOfNums nmb),.bool m3.1,.bool m4.1,.slice ua um uc,.slice oa4 om4 oc4] 73 (0,0)):=by
    rw[hw15]
    have:=blk_set (i:=4) (v:=.slice oa4 om4 oc4) (blk_set (i:=2) (v:=.bool m4.1) HX.out)
    simpa using this
   have hs:=HS.out.kept hu15 (by omega) (fun k hk e=>by omega)
   have hu:=HU.out.step (F:=fun k=>k=tb) hu15 (fun k hk e=>by have:=HB6.out;omega)
   have hq: ∀k,(Value.slice ua um uc).ownBlock=some k→ ¬k=b6:=fun k hk e=>by have:=LB1.out k hk;omega
   have hq2: ∀k,(Value.slice oa4 om4 oc4).ownBlock=some k→ ¬k=b6:=fun k hk e=>by have:=LB2.out k hk;omega
   have M1:=hid (M1.out.kept hu15 hq);have RC1:=hid (RC1.out.kept hu15 hq)
   have M2:=hid (M2.out.kept hu15 hq2);have RC2:=hid (RC2.out.kept hu15 hq2)
   obtain⟨C,oa,oc,ho1,ho2,ho3,ho4⟩:=HD.out.out
   have hob6:ob<b6:=by rw[HB6.out];exact lt_of_heap ho1
   have hc6: ∀k,C k→k<b6:=fun k hk=>by rw[HB6.out];exact ho3.lt k hk
   have hob9:=(hu.block _ (lt_of_heap ho1) (by omega)).trans ho1
   have hrow9:=ho2.kept hu (fun k hk=>by
    obtain⟨L,_,q,_⟩:=ho2
    have:=q.lt k hk
    intro e
    omega) (fun k hk e=>by have:=ho4 k hk;omega)
   have hrc9:=ho3.kept hu (fun k hk e=>by have:=ho4 k hk;omega)
   obtain⟨x0,x1,x2,x3,x4⟩:=cells5_of hx15
   have y2:=(cells3_of hob9).2.2
   have HOB:=hid hob9;have HROW:=hid hrow9;have HRC:=hid hrc9;have HC4:=hid ho4;have HC6:=hid hc6
   have HS:=hid hs;have HU:=hid hu;have HX:=hid hx15
   clear ho1 ho2 ho3 ho4 hob9 hrow9 hrc9 hw15 hu15 hx15 hq hq2 fr1 fr3 hs hu hc6
   iterate 13 go_step
   obtain⟨L,hLm,hLo,hLb,hLf⟩:=HROW.out
   have hLl:=hLo.lt
   have hkl:=HLL.out
   have hz9:ob<w15.heap.size:=lt_of_heap HOB.out
   have hel:elC (x,.slice ua um uc,.slice oa4 om4 oc4)=[.string (strOfNums nmb),.bool m3.1,.bool m4.1,.slice ua um uc,.slice oa4 om4 oc4]:=by rw[HX0.out];rfl
   obtain⟨i0,hi0,hz0,hz1,hz2⟩:=info_parts Tryz.info73p
   refine wpList_append_lies _ rfl (.tmp 58) (.tmp 60) 54 rfl (ob+1) 73 i0 _ 5 72 Tryz.underlying54 hi0 hz0 hz1 hz2 rfl (by omega) (.slice oa l.length oc) _ _ rfl (hLo.alloc _) ⟨w15.heap.size,0,none⟩ 1 1 (elC (x,.slice ua um uc,.slice oa4 om4 oc4)) rfl
    rfl (World.news_of_block (cs:=(elC (x,.slice ua um uc,.slice oa4 om4 oc4)).toArray) (t:=73) (fr:=(0,0)) (by rw[hel];exact heap_alloc_new _ _)) (by rw[hel];simp[Value.oneCell']) (by omega) (by unfold maxLen;omega) (by omega) (by simp;omega) (w15.heap.size+1) (by simp) ?_
   intro g cap w16 hown hgrow hat hlt
   have hu16:Upd (fun k=>(Value.slice oa l.length oc).ownBlock=some k) w15 w16:=((Upd.refl _ w15).alloc _).trans (Upd.of_grown hgrow (fun k hk=>hk))
   have hob10:=(hu16.block _ hz9 (fun e=>by have:=hLl ob e;omega)).trans HOB.out
   have hgob:ob<g:=by
    rcases hat with e | e
    ·have:=hLl g e;omega
    ·omega
   have y2:=(cells3_of hob10).2.2
   have g2:w16.frozen? ⟨ob,2,none⟩=false:=frozen_of_heap hob10
   have hcu:=HROW.out.apart HRC.out
   have hcu1:=HROW.out.apart RC1.out
   have hcu2:=HROW.out.apart RC2.out
   obtain⟨C',hC'⟩: ∃C':Nat→Prop,C'=fun k=>C k∨(Value.slice ua um uc).ownBlock=some k∨(Value.slice oa4 om4 oc4).ownBlock=some k:=⟨_,rfl⟩
   have hc1: ∀k,C k→C' k:=fun k hk=>by rw[hC'];exact .inl hk
   have hc2: ∀k,(Value.slice ua um uc).ownBlock=some k→C' k:=fun k hk=>by rw[hC'];exact .inr (.inl hk)
   have hc3: ∀k,(Value.slice oa4 om4 oc4).ownBlock=some k→C' k:=fun k hk=>by rw[hC'];exact .inr (.inr hk)
   have hrc:RowC w15 C':=fun k hk=>by
    rw[hC'] at hk
    rcases hk with hk | hk | hk
    ·exact HRC.out k hk
    ·exact RC1.out k hk
    ·exact RC2.out k hk
   have hcob: ∀k,C' k→ob<k:=fun k hk=>by
    rw[hC'] at hk
    rcases hk with hk | hk | hk
    ·exact HC4.out k hk
    ·have:=LB1.out k hk;omega
    ·have:=LB2.out k hk;omega
   have hcu':=HROW.out.apart hrc
   have hnew:SetRow w16 (ob+1) C' (.slice (some ⟨g,0,none⟩) (l.length+1) cap) (l++[x]):=by
    refine⟨L++[(x,.slice ua um uc,.slice oa4 om4 oc4)],by rw[List.map_append,hLm];rfl,?_,fun y hy=>?_,fun y hy=>?_⟩
    ·rw[List.flatMap_append,List.length_append]
     simpa using hown
    ·rw[List.mem_append] at hy
     rcases hy with hy | hy
     ·exact⟨((hLb y hy).1.kept hu16 hcu).mono hc1,((hLb y hy).2.kept hu16 hcu).mono hc1⟩
     ·simp only[List.mem_singleton] at hy
      subst hy
      refine⟨?_,?_⟩
      ·have:=(M1.out.kept hu16 hcu1).mono hc2;rw[HX0.out];exact this
      ·have:=(M2.out.kept hu16 hcu2).mono hc3;rw[HX0.out];exact this
    ·rw[List.mem_append] at hy
     rcases hy with hy | hy
     ·exact hLf y hy
     ·simp only[List.mem_singleton] at hy
      subst hy
      exact HXF.out
   have hrc16:RowC w16 C':=hrc.kept hu16 hcu'
   have HNEW:=hid hnew;have HOB10:=hid hob10;have HU16:=hid hu16;have HLLT:=hid hLl;have HKL:=hid hkl;have HRC16:=hid hrc16;have HCOB:=hid hcob
   clear hnew hob10 hu16 hcu hcu1 hcu2 hcu' hown hgrow hat hi0 hz0 hz1 hz2 hLm hLo hLb hLf hLl hel x0 x1 x2 x3 x4 hkl hC' hc1 hc2 hc3 hrc hrc16 hcob
   go_wp2
   obtain⟨w17,hw17⟩: ∃w17,w17=w16.setCell ⟨ob,2,none⟩ (.slice (some ⟨g,0,none⟩) (l.length+1) cap):=⟨_,rfl⟩
   rw[←hw17]
   have hu17:Upd (fun k=>k=ob) w16 w17:=by rw[hw17];exact upd_own w16 ob 2 _
   have hob17:w17.heap[ob]?=some (.cells #[.int .u64 ev,.bool fl,.slice (some ⟨g,0,none⟩) (l.length+1) cap] 56 (0,0)):=by
    rw[hw17]
    have:=blk_set (i:=2) (v:=.slice (some ⟨g,0,none⟩) (l.length+1) cap) HOB10.out
    simpa using this
   have hll1:(l++[x]).length=l.length+1:=by simp
   have n1: ∀j,j≤ob→ ¬(Value.slice oa l.length oc).ownBlock=some j:=fun j hj e=>by have:=HLLT.out j e;omega
   have hdc:TcAt w tb ob ev fl (setsS (k+1) st0 bd0).2.1 (setsS (k+1) st0 bd0).2.2 (l++[x]) w17:=by
    rw[HNEXT.out.1]
    refine⟨(HS.out.kept HU16.out (n1 tb (by omega)) (fun j hj=>n1 j (by omega))).kept hu17 (by omega) (fun j hj e=>by omega),⟨C',_,_,by rw[hll1];exact hob17,by rw[hll1];exact HNEW.out.kept hu17 (fun j hj e=>by simp[Value.ownBlock] at hj;omega) (fun j hj e=>by have:=HCOB.out j hj;omega),HRC16.out.kept hu17 (fun j hj e=>by have:=HCOB.out j hj;omega),HCOB.out⟩,?_⟩
    have r1:=(HU.out.block _ (lt_of_heap HD.out.res) (by omega)).trans HD.out.res
    have r2:=(HU16.out.block _ (lt_of_heap r1) (n1 _ (by omega))).trans r1
    exact(hu17.block _ (lt_of_heap r2) (by omega)).trans r2
   go_roundg (cnt - (k+1))
   case measure=>omega
   case rel=>exact⟨k+1,by omega,rfl,congrArg _ (by omega),l++[x],by rw[hll1,HLL.out],fun r hr=>HNEXT.out.2 r (by rw[HNEXT.out.1] at hr;exact hr),hdc⟩
  ·obtain rfl:k=cnt:=by omega
   obtain⟨st,hst⟩: ∃st,st=(setsS k st0 bd0).2.1:=⟨_,rfl⟩
   obtain⟨bad,hbad⟩: ∃bad,bad=(setsS k st0 bd0).2.2:=⟨_,rfl⟩
   have hall:=HALL.out
   rw[←hst,←hbad] at HD hall
   rw[←hst] at HLE
   have HALL:=hid hall
   have hll:l.length≤255:=by rw[HLL.out];omega
   have HRES:=hid HD.out.res
   have HUU:=hid HD.out.tk.1.2
   clear hst hbad hall HRAW1 HN0 HEV HS1 HF1 HS2 HFL HBD HLL hci hci0 hk hkn
   cases st with
   |none=>
    obtain⟨ta,tn,tc,ht1⟩:=HD.out.tk.2
    obtain⟨z0,z1,z2⟩:=cells3_of ht1
    have HDEC:=hid (dec_err7 HALL.out)
    clear ht1
    go_upto_region 14 with fail
    iterate 4 go_step
    refine wpList_store_mid rfl 56 (.tmp 2) (.tmp 69) rfl w.heap.size 0 #[.int .u64 0,.bool false,.slice none 0 0] rfl rfl (by have q:=there_block HRES.out;exact q) size56 (by simp[Value.oneCell']) ?_
    have hb2:=heap_setCells_whole (vs:=[.int .u64 0,.bool false,.slice none 0 0]) HRES.out rfl
    have hu2:=Upd.setCells (F:=fun k=>k=w.heap.size) (b:=w.heap.size) rfl [.int .u64 0,.bool false,.slice none 0 0] 0 (Upd.refl _ wr)
    have hl3:=run_loadVar_mid (P:=Tryz.prog) (wr.setCells w.heap.size 0 [.int .u64 0,.bool false,.slice none 0 0]) w.heap.size 0 56 [.int .u64 0,.bool false,.slice none 0 0] _ (rangeAt_block hb2) Tryz.underlying56 rfl size56
    have HL3:=hid hl3;have HU2:=hid hu2
    clear hb2 hu2 hl3
    go_wp2
    refine bodyPost_ret (results_cell_tmp Tryz.results26 rfl HL3.out) rfl (ans_zero HDEC.out (HUU.out.step HU2.out (fun j hj e=>by omega)))
   |some r4=>
    obtain⟨tv,ht1,ht2,ht3⟩:=HD.out.tk.2
    obtain⟨ta,tc,rfl,_,_⟩:=ht2.shape'
    obtain⟨z0,z1,z2⟩:=cells3_of ht1
    have hle:=HLE.out r4 rfl
    rw[←hle] at HALL
    clear ht1 ht2 ht3 hle HLE
    cases bad with
    |true=>
     have HDEC:=hid (dec_err2 HALL.out rfl)
     go_upto_region 16 with fail
     iterate 4 go_step
     refine wpList_store_mid rfl 56 (.tmp 2) (.tmp 88) rfl w.heap.size 0 #[.int .u64 0,.bool false,.slice none 0 0] rfl rfl (by have q:=there_block HRES.out;exact q) size56 (by simp[Value.oneCell']) ?_
     have hb2:=heap_setCells_whole (vs:=[.int .u64 0,.bool false,.slice none 0 0]) HRES.out rfl
     have hu2:=Upd.setCells (F:=fun k=>k=w.heap.size) (b:=w.heap.size) rfl [.int .u64 0,.bool false,.slice none 0 0] 0 (Upd.refl _ wr)
     have hl3:=run_loadVar_mid (P:=Tryz.prog) (wr.setCells w.heap.size 0 [.int .u64 0,.bool false,.slice none 0 0]) w.heap.size 0 56 [.int .u64 0,.bool false,.slice none 0 0] _ (rangeAt_block hb2) Tryz.underlying56 rfl size56
     have HL3:=hid hl3;have HU2:=hid hu2
     clear hb2 hu2 hl3
     go_wp2
     refine bodyPost_ret (results_cell_tmp Tryz.results26 rfl HL3.out) rfl (ans_zero HDEC.out (HUU.out.step HU2.out (fun j hj e=>by omega)))
    |false=>
     by_cases hr4:0<r4.length
     ·have HDEC:=hid (dec_err2 HALL.out (by simp[hr4]))
      have hr4':(r4.length:Int) > 0:=by omega
      go_upto_region 16 with fail
      iterate 4 go_step
      refine wpList_store_mid rfl 56 (.tmp 2) (.tmp 88) rfl w.heap.size 0 #[.int .u64 0,.bool false,.slice none 0 0] rfl rfl (by have q:=there_block HRES.out;exact q) size56 (by simp[Value.oneCell']) ?_
      have hb2:=heap_setCells_whole (vs:=[.int .u64 0,.bool false,.slice none 0 0]) HRES.out rfl
      have hu2:=Upd.setCells (F:=fun k=>k=w.heap.size) (b:=w.heap.size) rfl [.int .u64 0,.bool false,.slice none 0 0] 0 (Upd.refl _ wr)
      have hl3:=run_loadVar_mid (P:=Tryz.prog) (wr.setCells w.heap.size 0 [.int .u64 0,.bool false,.slice none 0 0]) w.heap.size 0 56 [.int .u64 0,.bool false,.slice none 0 0] _ (rangeAt_block hb2) Tryz.underlying56 rfl size56
      have HL3:=hid hl3;have HU2:=hid hu2
      clear hb2 hu2 hl3
      go_wp2
      refine bodyPost_ret (results_cell_tmp Tryz.results26 rfl HL3.out) rfl (ans_zero HDEC.out (HUU.out.step HU2.out (fun j hj e=>by omega)))
     ·have hr4': ¬((r4.length:Int) > 0):=by omega
      have HR4:=hid hr4
      obtain⟨C,oa,oc,ho1,ho2,ho3,ho4⟩:=HD.out.out
      obtain⟨y0,y1,y2⟩:=cells3_of ho1
      have hs:=ho2.setsAt.setsIn
      have hcap:l.length≤oc:=by
       obtain⟨L,_,q,_⟩:=ho2
       rcases q.2 with ⟨e,_⟩ | ⟨g,cap,cur,e,_,_,m1,_⟩
       ·injection e with _ e;omega
       ·injection e with _ _ e;omega
      have HCK:=hid (refRight_any (B:=⟨ev,fl,l⟩) (c:=oc) wr hs (by simp only;omega) hcap)
      unfold batchV at HCK
      obtain⟨rg,hrg⟩: ∃rg,rg=(⟨ev,fl,l⟩:BatchV).right:=⟨_,rfl⟩
      rw[←hrg] at HCK
      have HRG:=hid hrg
      have HOB:=hid ho1;have HROW:=hid ho2;have HRC:=hid ho3;have HC4:=hid ho4
      clear hrg hs hcap ho1 ho2 ho3 ho4
      go_wp2_with (go_at_call 22;fail)
      refine HCK.out.mono ?_
      rintro e w13 ⟨rfl,hu⟩
      have HRES:=hid ((hu.block _ (lt_of_heap HRES.out) (fun e=>e)).trans HRES.out)
      have HUU:=hid (HUU.out.trans hu)
      have hob:=(hu.block _ (lt_of_heap HOB.out) (fun e=>e)).trans HOB.out
      have hrow:=HROW.out.kept hu (fun _ _ e=>e) (fun _ _ e=>e)
      have hrc:=HRC.out.kept hu (fun _ _ e=>e)
      obtain⟨y0,y1,y2⟩:=cells3_of hob
      have HOB:=hid hob;have HROW:=hid hrow;have HRC:=hid hrc
      clear hu hob hrow hrc HCK z0 z1 z2
      simp only[]
      cases rg with
      |false=>
       have HDEC:=hid (dec_err2 HALL.out (by rw[←HRG.out];simp))
       go_upto_region 16 with fail
       iterate 4 go_step
       refine wpList_store_mid rfl 56 (.tmp 2) (.tmp 88) rfl w.heap.size 0 #[.int .u64 0,.bool false,.slice none 0 0] rfl rfl (by have q:=there_block HRES.out;exact q) size56 (by simp[Value.oneCell']) ?_
       have hb2:=heap_setCells_whole (vs:=[.int .u64 0,.bool false,.slice none 0 0]) HRES.out rfl
       have hu2:=Upd.setCells (F:=fun k=>k=w.heap.size) (b:=w.heap.size) rfl [.int .u64 0,.bool false,.slice none 0 0] 0 (Upd.refl _ w13)
       have hl3:=run_loadVar_mid (P:=Tryz.prog) (w13.setCells w.heap.size 0 [.int .u64 0,.bool false,.slice none 0 0]) w.heap.size 0 56 [.int .u64 0,.bool false,.slice none 0 0] _ (rangeAt_block hb2) Tryz.underlying56 rfl size56
       have HL3:=hid hl3;have HU2:=hid hu2
       clear hb2 hu2 hl3
       go_wp2
       refine bodyPost_ret (results_cell_tmp Tryz.results26 rfl HL3.out) rfl (ans_zero HDEC.out (HUU.out.step HU2.out (fun j hj e=>by omega)))
      |true=>
       have hdec:=dec_ok HALL.out (by rw[←HRG.out,decide_eq_false HR4.out];rfl)
       have HDEC:=hid hdec
       clear hdec
       go_upto_region 17 with fail
       iterate 4 go_step
       refine wpList_store_mid rfl 56 (.tmp 2) (.tmp 89) rfl w.heap.size 0 #[.int .u64 ev,.bool fl,.slice oa l.length oc] rfl rfl (by have q:=there_block HRES.out;exact q) size56 (by simp[Value.oneCell']) ?_
       have hb2:=heap_setCells_whole (vs:=[.int .u64 ev,.bool fl,.slice oa l.length oc]) HRES.out rfl
       have hu2:=Upd.setCells (F:=fun k=>k=w.heap.size) (b:=w.heap.size) rfl [.int .u64 ev,.bool fl,.slice oa l.length oc] 0 (Upd.refl _ w13)
       have hl3:=run_loadVar_mid (P:=Tryz.prog) (w13.setCells w.heap.size 0 [.int .u64 ev,.bool fl,.slice oa l.length oc]) w.heap.size 0 56 [.int .u64 ev,.bool fl,.slice oa l.length oc] _ (rangeAt_block hb2) Tryz.underlying56 rfl size56
       have HL3:=hid hl3;have HU2:=hid hu2
       clear hb2 hu2 hl3
       go_wp2
       refine bodyPost_ret (results_cell_tmp Tryz.results26 rfl HL3.out) rfl ?_
       have hrow:=HROW.out.kept HU2.out (fun j hj e=>by
        obtain⟨L,_,q,_⟩:=HROW.out
        have:=(q.lt j hj).1
        omega) (fun j hj e=>by have:=HC4.out j hj;omega)
       have hcr:=HRC.out.kept HU2.out (fun j hj e=>by have:=HC4.out j hj;omega)
       unfold DecAns
       rw[HDEC.out]
       refine⟨oa,oc,rfl,⟨C,?_,hcr,fun j hj=>by have:=HC4.out j hj;omega,fun b o e hk=>by
        obtain⟨L,_,q,_⟩:=hrow
        obtain⟨cs,hcs⟩:=hcr b hk
        rcases q.2 with ⟨e1,_⟩ | ⟨g,cap,cur,e1,_,hg,_⟩
        ·injection e1 with e1;rw[e1] at e;cases e
        ·injection e1 with e1;rw[e1] at e;injection e with e;injection e with e;subst e;rw[hg] at hcs;injection hcs with hcs;injection hcs with _ hcs;exact absurd hcs (by decide)⟩,?_,fun b o e=>by have:=hrow.addr b o e;exact⟨by omega,this.2⟩,HUU.out.step HU2.out (fun j hj e=>by omega)⟩
       ·intro i x hx
        obtain⟨a1,a2,a3,b,o,e,h4,h5⟩:=hrow.setsAt i x hx
        exact⟨a1,a2,a3,b,o,e,by omega,h5⟩
       ·obtain⟨L,_,_,_,q⟩:=hrow
        exact q
end
section
open Go.RowKit
theorem snap_any {q p:Nat}{X:Lg}{G:Nat→Prop}{b:List Int}(w:World)(h:Log w q p X G)(hok:X.Ok)(hb:X.parts[0]?=some b):
  Calls Tryz.prog 71 #[.pointer (some ⟨q,0,none⟩)] w fun e w'=> ∃u,e=.returned u∧OwnB w' w.heap.size u b∧Upd (fun _=>False) w w':=by
 obtain⟨PV,vs,h1,_⟩:=h
 have hl:0<X.parts.length:=(List.getElem?_eq_some_iff.1 hb).1
 have hvl:=h1.vslen
 have hlb:=(hok.bytes b (List.mem_of_getElem? hb)).2
 obtain⟨v,hv⟩: ∃v,vs[0]?=some v:=⟨vs[0],List.getElem?_eq_getElem (by omega)⟩
 have hp:=h1.parts 0 v b hv hb
 obtain⟨c0,c1,c2,c3,c4,c5,c6,c7⟩:=cells8_of h1.main
 rcases h1.row.2 with ⟨_,h3⟩ | ⟨g,cap,cur,rfl,_⟩
 ·omega
 have d0:w.cell? ⟨g,0,none⟩=some v:=World.ownsRow.cells h1.row rfl 0 v hv
 have HC:=hid (clone_any w (by omega) hp.bytesIn)
 obtain⟨n,hn⟩: ∃n,n=X.parts.length:=⟨_,rfl⟩
 rw[←hn] at c5 hl
 have hln:(0:Int)<n:=by omega
 clear h1 c0 c1 c2 c3 c4 c6 c7 hp hv hvl hb hok hn
 go_enter Tryz.func71,Tryz.ntmps71
 go_wp2_with (go_at_call 99;fail)
 refine HC.out.mono ?_
 rintro e w1 ⟨u,rfl,ho,_,hu⟩
 have HO:=hid ho;have HU:=hid hu
 clear ho hu HC
 simp only[]
 go_wp2
 go_ret
 exact⟨_,rfl,HO.out,HU.out⟩
theorem get_any {q p bx:Nat}{X:Lg}{G F:Nat→Prop}{D:Dk}{place:Int}(w:World)(h:Log w q p X G)(hok:X.Ok)(hbx:w.heap[bx]?=some (.cells #[.pointer (some ⟨q,0,none⟩)] 38 (0,0)))(hD:Dsk w p D F)(hdok:D.Ok 1099511627774)
  (hFG: ∀k,G k→ ¬F k) (hFb: ¬F bx) (hp:0≤place∧place≤1099511627776):
  Calls Tryz.prog 171 #[.int .i64 place,.pointer (some ⟨bx,0,none⟩)] w fun e w'=>e=.returned (.tuple #[.agg (bcells (D.reads (atF X.h.area place))).toArray,.int .i64 (D.callE (atF X.h.area place) false)])∧Dsk w' p (D.callD (atF X.h.area place) false) F∧Upd F w w':=by
 have hq:=h.mem
 obtain⟨PV,vs,h1,_⟩:=h
 have hm:=h1.main
 have ha:=hok.area
 have hrl:(D.reads (atF X.h.area place)).length=64:=(reads_blk hdok _).1
 obtain⟨i,hi⟩: ∃i,i=atF X.h.area place:=⟨_,rfl⟩
 have har:1≤X.h.area∧X.h.area≤1000:=by omega
 have hat: ∀W,Calls Tryz.prog 161 #[X.h.val,.int .i64 place] W fun e w'=>e=.returned (.int .i64 i)∧Upd (fun _=>False) W w':=fun W=>by rw[hi];exact at_any X.h place W har hp
 rw[←hi] at hrl ⊢
 have HRL:RowKit.Hid ((bcells (D.reads i)).length=64):=hid (by simp[bcells,hrl])
 have HRS:RowKit.Hid ((bcells (D.reads i)).toArray.size=64):=hid (by simp[bcells,hrl])
 have HZ:RowKit.Hid ((bcells zblk).toArray.size=64):=hid (by simp[bcells,zblk])
 have HIR:RowKit.Hid ((Tryz.prog.info? 48).map (·.size)=some (bcells (D.reads i)).toArray.size):=hid (by rw[Tryz.info56p];simp[bcells,hrl])
 have HIL:RowKit.Hid ((Tryz.prog.info? 48).map (·.size)=some (bcells (D.reads i)).length):=hid (by rw[Tryz.info56p];simp[bcells,hrl])
 have HR1:=hid (all_oneCell_toArray (bcells_one (D.reads i)))
 have HI:=hid hi;have HAT:=hid hat;have HD:=hid hD;have HOK:=hid hdok;have HFB:=hid hFb;have HFQ:=hid (hFG q hq);have HQL:=hid (lt_of_heap hm);have HFL:=hid hD.lt;have HBX:=hid hbx
 have HFW:RowKit.Hid (¬F w.heap.size):=hid (fun e=>by have:=hD.lt _ e;omega)
 have hu1:Upd (fun _=>False) w (w.alloc (.cells (bcells zblk).toArray 48)):=(Upd.refl _ w).alloc _
 have hb1:(w.alloc (.cells (bcells zblk).toArray 48)).heap[w.heap.size]?=some (.cells (bcells zblk).toArray 48 (0,0)):=alloc_at rfl
 have hbx1:=(hu1.block _ (lt_of_heap hbx) (fun e=>e)).trans hbx
 have hm1:=(hu1.block _ (lt_of_heap hm) (fun e=>e)).trans hm
 have hd1:=hD.kept hu1 (fun _ _ e=>e)
 clear hm h1 hq hok ha hrl hi har hat hp hD hdok hFb hFG hbx HI
 go_enter Tryz.func171,Tryz.ntmps171
 go_upto_region 1 with fail
 refine(?_:Code.wp _ _ _ _ (w.alloc (.cells (bcells zblk).toArray 48)))
 obtain⟨w1,hw1⟩: ∃w1,w1=w.alloc (.cells (bcells zblk).toArray 48):=⟨_,rfl⟩
 rw[←hw1] at hu1 hb1 hbx1 hm1 hd1 ⊢
 have HU1:=hid hu1;have HB1:=hid hb1;have HBX1:=hid hbx1;have HM1:=hid hm1;have HD:=hid hd1
 clear hu1 hb1 hbx1 hm1 hd1 hw1
 have hA:Upd (fun k=>F k∨k=w.heap.size) w1 w1.drew:=(Upd.refl _ w1).drew
 refine wp_region_G 14 (fun W=>Upd (fun k=>F k∨k=w.heap.size) w1 W) [false,false,false,false,false,false,false,false,false,false,false,false,false,false,false] rfl (by kernel_rfl) ?_
 refine tqZ 0 (.pointer (some ⟨q,0,none⟩)) [12,10,3,2,1] hA (fun w5 q1=>?_) ?_
 ·have cc:w5.cell? ⟨bx,0,none⟩=some (.pointer (some ⟨q,0,none⟩)):=by simp[World.cell?,(q1.block _ (lt_of_heap HBX1.out) (fun e=>e.elim HFB.out (fun e=>by have:=lt_of_heap HBX.out;omega))).trans HBX1.out]
  go_simp
 simp only[pZ,nZ,bZ,List.set]
 refine tqZ 1 (.pointer (some ⟨q,0,none⟩)) [12,10,3,2] hA (fun w5 q1=>?_) ?_
 ·go_simp
 simp only[pZ,nZ,bZ,List.set]
 refine tqZ 2 (.pointer (some ⟨q,4,none⟩)) [12,10,3] hA (fun w5 q1=>?_) ?_
 ·go_simp
 simp only[pZ,nZ,bZ,List.set]
 refine tqZ 3 (.pointer (some ⟨p,0,none⟩)) [12,10] hA (fun w5 q1=>?_) ?_
 ·have cc:w5.cell? ⟨q,4,none⟩=some (.pointer (some ⟨p,0,none⟩)):=by simp[World.cell?,(q1.block _ (lt_of_heap HM1.out) (fun e=>e.elim HFQ.out (fun e=>by have:=HQL.out;omega))).trans HM1.out,Lg.cells]
  go_simp
 simp only[pZ,nZ,bZ,List.set]
 refine tqZ 4 (.pointer (some ⟨q,0,none⟩)) [12,10,9,7,6,5] hA (fun w5 q1=>?_) ?_
 ·have cc:w5.cell? ⟨bx,0,none⟩=some (.pointer (some ⟨q,0,none⟩)):=by simp[World.cell?,(q1.block _ (lt_of_heap HBX1.out) (fun e=>e.elim HFB.out (fun e=>by have:=lt_of_heap HBX.out;omega))).trans HBX1.out]
  go_simp
 simp only[pZ,nZ,bZ,List.set]
 refine tqZ 5 (.pointer (some ⟨q,0,none⟩)) [12,10,9,7,6] hA (fun w5 q1=>?_) ?_
 ·go_simp
 simp only[pZ,nZ,bZ,List.set]
 refine tqZ 6 (.pointer (some ⟨q,0,none⟩)) [12,10,9,7] hA (fun w5 q1=>?_) ?_
 ·go_simp
 simp only[pZ,nZ,bZ,List.set]
 refine tqZ 7 (X.h.val) [12,10,9] hA (fun w5 q1=>?_) ?_
 ·refine run_load_mid' rfl rfl [.int .i64 X.h.turn,.int .i64 X.h.area,.int .i64 X.h.place,.int .i64 X.h.number] (fun j v hj=>?_) Tryz.underlying184 rfl Tryz.size107r
  have hm:=(q1.block _ (lt_of_heap HM1.out) (fun e=>e.elim HFQ.out (fun e=>by have:=HQL.out;omega))).trans HM1.out
  match j,hj with
  | 0,hj=>simp at hj;subst hj;simp[World.cell?,hm,Lg.cells]
  | 1,hj=>simp at hj;subst hj;simp[World.cell?,hm,Lg.cells]
  | 2,hj=>simp at hj;subst hj;simp[World.cell?,hm,Lg.cells]
  | 3,hj=>simp at hj;subst hj;simp[World.cell?,hm,Lg.cells]
  |j+4,hj=>simp at hj
 simp only[pZ,nZ,bZ,List.set]
 refine tqZ 8 (.int .i64 place) [12,10,9] hA (fun w5 q1=>?_) ?_
 ·go_simp
 simp only[pZ,nZ,bZ,List.set]
 refine wpG_doIf (i:=9) rfl (by kernel_rfl) rfl (fun K hK=>?_)
 have HKK:=hid hK
 clear hK
 go_step
 refine(HAT.out _).mono ?_
 rintro e w2 ⟨rfl,hu2⟩
 have hA2:Upd (fun k=>F k∨k=w.heap.size) w1 w2:=hA.trans (hu2.mono (fun _ _ e=>e.elim))
 have HU2:=hid (((Upd.refl (fun _=>False) w1).drew).trans hu2)
 clear hA hu2
 simp only[]
 refine HKK.out _ _ hA2 ?_
 clear HKK
 simp only[List.setIfInBounds_toArray,List.set]
 refine wpG_doIf (i:=10) rfl (by kernel_rfl) rfl (fun K hK=>?_)
 have HKK:=hid hK
 clear hK
 go_step
 refine(read_any i w2 (HD.out.kept HU2.out (fun _ _ e=>e)) HOK.out).mono ?_
 rintro e w3 ⟨rfl,hd3,hu3⟩
 have hA:Upd (fun k=>F k∨k=w.heap.size) w1 w3:=hA2.trans (hu3.mono (fun _ _ e=>.inl e))
 have hb3:w3.heap[w.heap.size]?=some (.cells (bcells zblk).toArray 48 (0,0)):=(hu3.block _ (lt_of_heap ((HU2.out.block _ (lt_of_heap HB1.out) (fun e=>e)).trans HB1.out)) HFW.out).trans ((HU2.out.block _ (lt_of_heap HB1.out) (fun e=>e)).trans HB1.out)
 have HD3:=hid hd3;have HU3:=hid (HU2.out.mono (F:=fun _=>False) (G:=F) (fun _ _ e=>e.elim) |>.trans hu3);have HB3:=hid hb3
 clear hA2 hd3 hu3 hb3
 generalize hrv:bcells (D.reads i)=rv at *
 have HRV:=hid hrv
 clear hrv
 simp only[]
 refine HKK.out _ _ hA ?_
 clear HKK
 simp only[List.setIfInBounds_toArray,List.set]
 refine tqZ 11 (.agg rv.toArray) [13] hA (fun w5 q1=>?_) ?_
 ·go_simp
 simp only[pZ,nZ,bZ,List.set]
 refine tqZ 12 (.int .i64 (D.callE i false)) [] hA (fun w5 q1=>?_) ?_
 ·go_simp
 simp only[pZ,nZ,bZ,List.set]
 refine wpG_do (i:=13) rfl (by kernel_rfl) rfl (fun K hK=>?_)
 refine wp_store_mid 48 (.tmp 3) (.tmp 16) rfl w.heap.size 0 rv.toArray rfl rfl (by have q:=there_block HB3.out;rw[HZ.out] at q;rw[HRS.out];exact q) HIR.out HR1.out ?_
 have hAv:=Upd.setCells (b:=w.heap.size) (F:=fun k=>F k∨k=w.heap.size) (.inr rfl) rv 0 hA
 have hAw:=Upd.setCells (b:=w.heap.size) (F:=fun k=>k=w.heap.size) rfl rv 0 (Upd.refl _ w3)
 have hAc:=heap_setCells_whole (vs:=rv) HB3.out (by rw[HZ.out,HRL.out])
 have HAW:=hid hAw;have HAC:=hid hAc
 clear hAw hAc
 refine hK _ _ hAv ?_
 clear hK hAv hA
 simp only[pZ,nZ,bZ,List.set]
 refine wpG_tail_lit (k:=14) rfl rfl (by kernel_rfl) ?_
 simp only[List.drop]
 go_wp2
 have hl3:=run_loadVar_mid (P:=Tryz.prog) _ w.heap.size 0 48 rv _ (rangeAt_block HAC.out) Tryz.underlying48 rfl HIL.out
 refine bodyPost_ret (results_cell_tmp Tryz.results171 rfl hl3) rfl ⟨by rw[HRV.out];rfl,HD3.out.kept HAW.out (fun k hk e=>by have:=HFL.out k hk;omega),(HU1.out.mono (F:=fun _=>False) (G:=F) (fun _ _ e=>e.elim) |>.trans HU3.out).step HAW.out (fun k hk e=>by omega)⟩
end
section
open Go.RowKit Go.Shelf
def WholeAns (w:World)(p:Nat)(F:Nat→Prop)(R:Option (List Int)×Int×Dk)(e:Ending)(w':World):Prop:=
 Dsk w' p R.2.2 F∧Upd F w w'∧match R.1 with
 |none=>e=.returned (.tuple #[.slice none 0 0,.bool false,.int .i64 R.2.1])
 |some b=> ∃v,e=.returned (.tuple #[v,.bool true,.int .i64 0])∧OwnB w' w.heap.size v b∧Bytes b∧b.length≤40000
structure WhAt (w:World) (p:Nat) (hd:Hd) (F:Nat→Prop) (D:Dk) (W:World):Prop where
 dsk:Dsk W p D F
 upd:Upd F w W
 box:W.heap[w.heap.size]?=some (.cells #[.int .i64 hd.turn,.int .i64 hd.area,.int .i64 hd.place,.int .i64 hd.number] 184 (0,0))
theorem WhAt.kept {w W W':World}{p:Nat}{hd:Hd}{F G:Nat→Prop}{D:Dk}(h:WhAt w p hd F D W)(hu:Upd G W W')(hG: ∀k,G k→w.heap.size<k)(hF: ∀k,F k→k<w.heap.size):WhAt w p hd F D W':=
 ⟨h.dsk.kept hu (fun k h1 h2=>by have:=hG k h2;have:=hF k h1;omega),h.upd.step hu (fun k h1 h2=>by have:=hG k h2;omega),(hu.block _ (lt_of_heap h.box) (fun e=>by have:=hG _ e;omega)).trans h.box⟩
theorem WhAt.read {w W W':World}{p:Nat}{hd:Hd}{F:Nat→Prop}{D D':Dk}(h:WhAt w p hd F D W)(hd':Dsk W' p D' F)(hu:Upd F W W')(hF: ∀k,F k→k<w.heap.size):WhAt w p hd F D' W':=
 ⟨hd',h.upd.step hu (fun k _ h2=>h2),(hu.block _ (lt_of_heap h.box) (fun e=>by have:=hF _ e;omega)).trans h.box⟩
structure BufAt (w W:World) (g n:Nat) (bs:List Int):Prop where
 len:bs.length=n
 short:n≤40000
 byte:Bytes bs
 blk:W.heap[g]?=some (.cells (bcells bs).toArray 5 (0,0))
 gt:w.heap.size<g
theorem BufAt.kept {w W W':World}{g n:Nat}{bs:List Int}{G:Nat→Prop}(h:BufAt w W g n bs)(hu:Upd G W W')(hg: ¬G g):BufAt w W' g n bs:=
 ⟨h.len,h.short,h.byte,(hu.block _ (lt_of_heap h.blk) hg).trans h.blk,h.gt⟩
theorem bytes_over {b:List Int}{off:Nat}{src:List Int}(h1:Bytes b)(h2:Bytes src):Bytes (overF b off src):=by
 intro x hx
 unfold overF at hx
 rcases List.mem_append.1 hx with hx | hx
 ·exact h1 x (List.mem_of_mem_take hx)
 ·rcases List.mem_append.1 hx with hx | hx
  ·exact h2 x (List.mem_of_mem_take hx)
  ·exact h1 x (List.mem_of_mem_drop hx)
theorem bytes_drop {b:List Int}{o:Nat}(h:Bytes b):Bytes (b.drop o):=fun x hx=>h x (List.mem_of_mem_drop hx)
def LoopR (w:World)(R:Option (List Int)×Int×Dk)(hd:Hd)(number place left:Int)(snap:Bool)(kk:Nat)(b turn many:Value)(W:World)(D:Dk):Prop:=
 (kk=0∧b=.slice none 0 0∧turn=.int .i64 0∧many=.int .i64 1∧R=wholeD hd number place snap left D)∨
 (1≤kk∧ ∃(t:Int) (n:Nat) (bs:List Int) (g:Nat),b=.slice (some ⟨g,0,none⟩) n n∧turn=.int .i64 t∧many=.int .i64 (secsN n)∧kk≤secsN n∧(1≤t∧t≤4294967295)∧R=goD hd number place t snap (secsN n - kk) kk bs D∧BufAt w W g n bs)
theorem LoopR.more {w:World}{R:Option (List Int)×Int×Dk}{hd:Hd}{number place left:Int}{snap:Bool}{kk:Nat}{b turn many:Value}{W:World}{D:Dk}(h:LoopR w R hd number place left snap kk b turn many W D): ∃m:Int,many=.int .i64 m∧((kk:Int)<m∨((kk:Int)=m∧ ∃bs g n,b=.slice (some ⟨g,0,none⟩) n n∧R=(some bs,0,D)∧BufAt w W g n bs))∧m≤1000:=by
 rcases h with ⟨rfl,_,_,rfl,_⟩ | ⟨_,t,n,bs,g,rfl,rfl,rfl,h3,_,h4,h5⟩
 ·exact⟨1,rfl,.inl (by omega),by omega⟩
 ·refine⟨secsN n,rfl,?_,by have:=h5.short;unfold secsN;omega⟩
  by_cases h6:kk<secsN n
  ·exact .inl (by omega)
  ·refine .inr ⟨by omega,bs,g,n,rfl,?_,h5⟩
   rw[h4,show secsN n - kk=0 by omega]
   rfl
def Cont (R:Option (List Int)×Int×Dk)(hd:Hd)(number place _left:Int)(snap:Bool)(kk:Nat)(t:Int)(n:Nat)(bs s:List Int)(o:Nat)(D':Dk):Prop:=
 (overF bs (48 * kk - 4) (s.drop o)).length=n∧(cutF t number snap (overF bs (48 * kk - 4) (s.drop o)) kk=s→R=goD hd number place t snap (secsN n - (kk+1)) (kk+1) (overF bs (48 * kk - 4) (s.drop o)) D')∧
 (cutF t number snap (overF bs (48 * kk - 4) (s.drop o)) kk≠s→R=(none,0,D'))
theorem goD_step {hd:Hd}{number place t:Int}{snap:Bool}{m k:Nat}{b:List Int}{D:Dk}(he:D.callE (atF hd.area (place+k)) false≠0):goD hd number place t snap (m+1) k b D=(none,D.callE (atF hd.area (place+k)) false,D.callD (atF hd.area (place+k)) false):=by
 unfold goD;rw[if_neg he]
theorem LoopR.fails {w:World}{R:Option (List Int)×Int×Dk}{hd:Hd}{number place left:Int}{snap:Bool}{kk:Nat}{b turn many:Value}{W:World}{D:Dk}{m:Int}(h:LoopR w R hd number place left snap kk b turn many W D)(hm:many=.int .i64 m)(hk:(kk:Int)<m)(hl:left≠0)
  (he:D.callE (atF hd.area (place+kk)) false≠0):R=(none,D.callE (atF hd.area (place+kk)) false,D.callD (atF hd.area (place+kk)) false):=by
 rcases h with ⟨rfl,_,_,_,h4⟩ | ⟨_,t,n,bs,g,rfl,rfl,h2,h3,_,h4,h5⟩
 ·rw[h4]
  rw[show place+((0:Nat):Int)=place by omega] at he ⊢
  unfold wholeD
  rw[if_neg hl,if_neg he]
 ·rw[hm] at h2
  obtain rfl:m=secsN n:=by injection h2
  rw[h4,show secsN n - kk=(secsN n - (kk+1))+1 by omega]
  exact goD_step he
theorem LoopR.cont {w:World}{R:Option (List Int)×Int×Dk}{hd:Hd}{number place left:Int}{snap:Bool}{kk:Nat}{b turn many:Value}{W:World}{D:Dk}{m:Int}(h:LoopR w R hd number place left snap kk b turn many W D)(hm:many=.int .i64 m)(hk:(kk:Int)<m)(h1:1≤kk)
  (he:D.callE (atF hd.area (place+kk)) false=0): ∃(t:Int) (n:Nat) (bs:List Int) (g:Nat),b=.slice (some ⟨g,0,none⟩) n n∧turn=.int .i64 t∧m=secsN n∧(1≤t∧t≤4294967295)∧BufAt w W g n bs∧Cont R hd number place left snap kk t n bs (D.reads (atF hd.area (place+kk))) 16 (D.callD (atF hd.area (place+kk)) false):=by
 rcases h with ⟨rfl,_⟩ | ⟨_,t,n,bs,g,rfl,rfl,h2,h3,ht,h4,h5⟩
 ·omega
 ·rw[hm] at h2
  obtain rfl:m=secsN n:=by injection h2
  have hl:(overF bs (48 * kk - 4) ((D.reads (atF hd.area (place+kk))).drop 16)).length=n:=by
   rw[overF_length _ _ _ (by have:=h5.len;have hk':kk<secsN n:=by omega
                             unfold secsN at hk';omega),h5.len]
  refine⟨t,n,bs,g,rfl,rfl,rfl,ht,h5,hl,fun hc=>?_,fun hc=>?_⟩
  ·rw[h4,show secsN n - kk=(secsN n - (kk+1))+1 by omega]
   rw (occs:=.pos [1]) [goD]
   rw[if_pos he,if_pos hc]
  ·rw[h4,show secsN n - kk=(secsN n - (kk+1))+1 by omega]
   rw (occs:=.pos [1]) [goD]
   rw[if_pos he,if_neg hc]
theorem cont_zero {R:Option (List Int)×Int×Dk}{hd:Hd}{number place left:Int}{snap:Bool}{D:Dk}(hR:R=wholeD hd number place snap left D)(hl:left≠0)(he:D.callE (atF hd.area place) false=0):
  (¬Starts hd left (D.reads (atF hd.area place))→R=(none,0,D.callD (atF hd.area place) false))∧
  (Starts hd left (D.reads (atF hd.area place))→Cont R hd number place left snap 0 (startT (D.reads (atF hd.area place))) (startN (D.reads (atF hd.area place))).toNat (List.replicate (startN (D.reads (atF hd.area place))).toNat 0) (D.reads (atF hd.area place)) 20 (D.callD (atF hd.area place) false)):=by
 have hu: ∀s,overF (List.replicate (startN s).toNat 0) (48 * 0 - 4) (s.drop 20)=startB s:=fun s=>rfl
 refine⟨fun hs=>?_,fun hs=>⟨by rw[overF_length _ _ _ (by omega)];simp,fun hc=>?_,fun hc=>?_⟩⟩
 ·rw[hR];unfold wholeD
  rw[if_neg hl,if_pos he,if_neg hs]
 ·rw[hu] at hc ⊢
  rw[hR];unfold wholeD
  rw[if_neg hl,if_pos he,if_pos hs,if_pos hc]
 ·rw[hu] at hc
  rw[hR];unfold wholeD
  rw[if_neg hl,if_pos he,if_pos hs,if_neg hc]
theorem arr56:Tryz.prog.underlying 48=some (.array (Tryz.prog.arrayLen 48) (Tryz.prog.elem 48)):=by kernel_rfl
theorem size56e (W:World):(sizeOf (Tryz.prog.elem 48)).run Tryz.prog W=.ok 1 W:=by kernel_rfl
theorem len56:Tryz.prog.arrayLen 48=64:=by kernel_rfl
theorem slice_16 (g:Nat)(W:World):(Instr.sliceAt 48 (.pointer (some ⟨g,0,none⟩)) (some (.int .i64 16)) none none).run Tryz.prog W=.ok (.slice (some ⟨g,16,none⟩) 48 48) W:=by
 rw[run_sliceAt_array_l W 48 _ arr56 .i64 16 (by omega) (by rw[len56];omega),size56e,len56]
 rfl
theorem slice_all (g:Nat)(W:World):(Instr.sliceAt 48 (.pointer (some ⟨g,0,none⟩)) none none none).run Tryz.prog W=.ok (.slice (some ⟨g,0,none⟩) 64 64) W:=by
 rw[run_sliceAt_array_all W 48 _ arr56,size56e,len56]
 rfl
theorem slice_own4 (g:Nat)(W:World):(Instr.slice 39 (.slice (some ⟨g,16,none⟩) 48 48) (some (.int .i64 4)) none none).run Tryz.prog W=.ok (.slice (some ⟨g,20,none⟩) 44 44) W:=by
 rw[run_slice_l W 39 _ 48 48 elem28 .i64 4 (by omega) (by omega),size28e]
 rfl
theorem slice_from (g n c off:Nat)(h1:off≤n)(_h2:n≤c)(h3:off=0∨off<c)(W:World):(Instr.slice 39 (.slice (some ⟨g,0,none⟩) n c) (some (.int .i64 off)) none none).run Tryz.prog W=.ok (.slice (some ⟨g,off,none⟩) (n - off) (c - off)) W:=by
 rw[run_slice_l W 39 _ n c elem28 .i64 off (by omega) (by omega),size28e]
 simp only[Result.andThen,sliced,Int.toNat_natCast]
 rcases h3 with rfl | h3
 ·simp[Addr.add]
 ·rw[if_neg (by omega)]
  simp[Addr.add]
  omega
theorem made_bytes (n:Nat):madeCells #[.int .u8 0] n=(bcells (List.replicate n 0)).toArray:=by
 apply Array.ext
 ·simp[madeCells,bcells]
 ·intro i h1 h2
  simp[madeCells,bcells,Nat.mod_one]
theorem split4 {s:List Int}(h:4≤s.length): ∃a0 a1 a2 a3 r,s=a0 :: a1 :: a2 :: a3 :: r∧be s=be4 a0 a1 a2 a3 4:=by
 match s,h with
 |a0 :: a1 :: a2 :: a3 :: r,_=>exact⟨a0,a1,a2,a3,r,rfl,rfl⟩
theorem bytesIn_arr {W:World}{gs:Nat}{s:List Int}(o:Nat)(hl:s.length=64)(ho:o≤64)(hb:W.heap[gs]?=some (.cells (bcells s).toArray 48 (0,0))):BytesIn W (.slice (some ⟨gs,o,none⟩) (64 - o) (64 - o)) (s.drop o):=by
 refine .inr ⟨⟨gs,o,none⟩,64 - o,by simp[hl],by simp[hl],by unfold maxLen;omega,fun i u hi=>?_⟩
 rw[Addr.add_mid,cell_of_heap hb]
 have e:bcells (s.drop o)=(bcells s).drop o:=by simp[bcells]
 rw[e,List.getElem?_drop] at hi
 rw[List.getElem?_toArray,hi]
theorem splice_over {bs s:List Int}{off o:Nat}(h1:off≤bs.length):splice (bcells bs) off (bcells ((s.drop o).take (bs.length - off)))=bcells (overF bs off (s.drop o)):=by
 unfold splice overF
 simp only[bcells,List.map_append,List.map_take,List.map_drop]
 congr 2
 apply List.ext_getElem?
 intro j
 rw[List.getElem?_drop,List.getElem?_drop]
 by_cases h:(s.drop o).length≤bs.length - off
 ·congr 1
  simp at h ⊢
  omega
 ·rw[List.getElem?_eq_none,List.getElem?_eq_none]
  ·simp at h ⊢;omega
  ·simp at h ⊢;omega
theorem wpList_copy_upd {P:Program}{w:World}{ops:Array Oper}{rest:List Oper}{o:Oper}{a:Act}{Q:Exit→Act→World→Prop}(hgd:o.guard=none)(d s:Operand)(dT sT:TypeId)
  (ho:o.op=.call {callee:=.builtin .copy,args:=#[d,s],argTypes:=#[dT,sT]}) (elem:TypeId) (hu:P.underlying dT=some (.slice elem)) (hsz:(P.info? elem).map (·.size)=some 1)
  (dLen dCap sLen sCap:Nat) (g off:Nat) (ad:Addr) (hd:a.eval d=.slice (some ⟨g,off,none⟩) dLen dCap) (hs:a.eval s=.slice (some ad) sLen sCap)
  (cur:List Value) (t:TypeId) (hg:w.heap[g]?=some (.cells cur.toArray t (0,0))) (cs:List Value) (hn:cs.length=Nat.min sLen dLen)
  (hsrc: ∀j v,cs[j]?=some v→w.cell? (ad.add j)=some v)
  (hfit:off+cs.length≤cur.length) (h1: ∀v∈cs,v.oneCell'=true)
  (h: ∀w',w'.heap[g]?=some (.cells (splice cur off cs).toArray t (0,0))→Upd (fun k=>k=g) w w'→wpList P ops Q rest (a.put o.dst (goInt cs.length)) w'):
  wpList P ops Q (o :: rest) a w:=by
 refine wpList_copy_own hgd d s dT sT ho elem hu hsz g off dLen dCap ad sLen sCap hd hs cur.toArray t hg cs hn hsrc (by simpa using hfit) h1 ?_
 refine h _ (show _=_ by simpa [splice] using setRow_heap w g _ _ t _ hg) ⟨rfl,rfl,rfl,by simp[World.setRow],fun k hk hgk=>setRow_other w g k _ hgk⟩
theorem neqV (xs ys:List Int)(hx:xs.length=64)(hy:ys.length=64)(W:World):(binOp .neq 48 (.agg (bcells xs).toArray) (.agg (bcells ys).toArray)).run Tryz.prog W=.ok (.bool (!(xs == ys))) W:=neq_bytes W hx hy
theorem own_buf {w W:World}{g n:Nat}{bs:List Int}(h:BufAt w W g n bs):OwnB W w.heap.size (.slice (some ⟨g,0,none⟩) n n) bs:=by
 obtain⟨h1,h2,h3,h4,h5⟩:=h
 subst h1
 refine⟨by simp[bcells],.inr ⟨g,bs.length,(bcells bs).toArray,rfl,by omega,h4,Nat.le_refl _,by unfold maxLen;omega,by simp[bcells],by rw[List.take_of_length_le (by simp[bcells])]⟩⟩
theorem whole_any {q p bx:Nat}{X:Lg}{G F:Nat→Prop}{D:Dk}{N:Nat}{number place left:Int}{snap:Bool}(w:World)(hlg:Log w q p X G)(hok:X.Ok)(hbx:w.heap[bx]?=some (.cells #[.pointer (some ⟨q,0,none⟩)] 38 (0,0)))(hD:Dsk w p D F)(hdok:D.Ok N)(hN:N≤1099511620000)
  (hFG: ∀k,G k→ ¬F k) (hFb: ¬F bx) (hp:0≤place∧place≤1000000) (hnum:0≤number∧number≤4294967295) (hl:0≤left∧left≤1000):
  Calls Tryz.prog 172 #[X.h.val,.int .i64 number,.int .i64 place,.bool snap,.int .i64 left,.func (.func 171) #[] #[.pointer (some ⟨bx,0,none⟩)]] w fun e w'=>WholeAns w p F (wholeD X.h number place snap left D) e w':=by
 have hFL:=hD.lt
 have hturn:=hok.turn
 have hbxl:=lt_of_heap hbx
 obtain⟨R,hR⟩: ∃R,R=wholeD X.h number place snap left D:=⟨_,rfl⟩
 rw[←hR]
 have hu1:Upd (fun _=>False) w (w.alloc (.cells #[.int .i64 X.h.turn,.int .i64 X.h.area,.int .i64 X.h.place,.int .i64 X.h.number] 184)):=(Upd.refl _ w).alloc _
 have hat1:WhAt w p X.h F D (w.alloc (.cells #[.int .i64 X.h.turn,.int .i64 X.h.area,.int .i64 X.h.place,.int .i64 X.h.number] 184)):=⟨hD.kept hu1 (fun _ _ e=>e),hu1.mono (fun _ _ e=>e.elim),alloc_at rfl⟩
 by_cases hl0:left=0
 ·subst hl0
  have hR':R=(none,0,D):=by rw[hR];unfold wholeD;rw[if_pos rfl]
  have HR:=hid hR';have HAT:=hid hat1
  clear hlg hok hbx hD hdok hN hFG hFb hFL hturn hbxl hR hu1 hat1 hR'
  go_enter Tryz.func172,Tryz.ntmps172
  go_upto_region 1 with fail
  refine(?_:Code.wp _ _ _ _ (w.alloc (.cells #[.int .i64 X.h.turn,.int .i64 X.h.area,.int .i64 X.h.place,.int .i64 X.h.number] 184)))
  go_wp2
  go_ret3
  rw[HR.out]
  exact⟨HAT.out.dsk,HAT.out.upd,rfl⟩
 ·have HGET:RowKit.Hid (∀W D' pl,WhAt w p X.h F D' W→D'.Ok 1099511627774→0≤pl∧pl≤1099511627776→Calls Tryz.prog 171 #[.int .i64 pl,.pointer (some ⟨bx,0,none⟩)] W fun e w'=>e=.returned (.tuple #[.agg (bcells (D'.reads (atF X.h.area pl))).toArray,.int .i64 (D'.callE (atF X.h.area pl) false)])∧WhAt w p X.h F (D'.callD (atF X.h.area pl) false) w'∧Upd F W w'):=hid (fun W D' pl hat hdk hpl=>
   (get_any W (hlg.kept hat.upd (fun k hk=>hFG k hk)) hok ((hat.upd.block _ hbxl hFb).trans hbx) hat.dsk hdk (fun k hk=>hFG k hk) hFb hpl).mono (by
    rintro e w' ⟨rfl,h1,h2⟩
    exact⟨rfl,hat.read h1 h2 hFL,h2⟩))
  have HR:=hid hR;have HAT:=hid hat1;have HOK:=hid hdok;have HFL:=hid hFL;have HL0:=hid hl0
  obtain⟨w1,hw1⟩: ∃w1,w1=w.alloc (.cells #[.int .i64 X.h.turn,.int .i64 X.h.area,.int .i64 X.h.place,.int .i64 X.h.number] 184):=⟨_,rfl⟩
  rw[←hw1] at HAT
  have hne0:(left == 0)=false:=by simpa using hl0
  clear hlg hok hbx hD hdok hFG hFb hFL hbxl hR hu1 hat1
  go_enter Tryz.func172,Tryz.ntmps172
  go_upto_region 1 with fail
  refine(?_:Code.wp _ _ _ _ (w.alloc (.cells #[.int .i64 X.h.turn,.int .i64 X.h.area,.int .i64 X.h.place,.int .i64 X.h.number] 184)))
  rw[←hw1]
  clear hw1
  go_upto_region 6 with fail
  go_loopg [15,16,17,18] 1001 (fun gk b turn many kv wr=> ∃(kk:Nat) (Dc:Dk),kk≤1000∧gk=1001 - kk∧kv=.int .i64 kk∧Dc.Ok (N+kk)∧WhAt w p X.h F Dc wr∧LoopR w R X.h number place left snap kk b turn many wr Dc)
  case atStart=>exact⟨0,D,by omega,rfl,rfl,HOK.out,HAT.out,.inl ⟨rfl,rfl,rfl,rfl,HR.out⟩⟩
  case round=>
   obtain⟨kk,Dc,hkk,rfl,rfl,hdc,hat,hlr⟩:=hrel
   obtain⟨m,rfl,hmore,hm1⟩:=hlr.more
   have HLR:=hid hlr;have HA:=hid hat;have HDC:=hid hdc
   clear hlr hat hdc HAT HOK HR
   rcases hmore with hlt | ⟨heq,bs,g,n,rfl,hRe,hbuf⟩
   rotate_left
   ·have hnl: ¬(kk:Int)<m:=by omega
    have HRE:=hid hRe;have HBUF:=hid hbuf
    clear hRe hbuf heq
    go_wp2
    go_ret3
    rw[HRE.out]
    have hb:=HBUF.out
    refine⟨HA.out.dsk,HA.out.upd,_,rfl,?_,hb.byte,by rw[hb.len];exact hb.short⟩
    exact own_buf hb
   ·go_wp2_with (go_at_call 171;fail)
    refine(HGET.out _ Dc (place+kk) HA.out (HDC.out.mono (by omega)) (by omega)).mono ?_
    rintro e w3 ⟨rfl,hat3,hu3⟩
    have hsb:=reads_blk (HDC.out.mono (show N+kk≤1099511627774 by omega)) (atF X.h.area (place+kk))
    have hcz:kk=0→LoopR w R X.h number place left snap 0 u15 u16 (.int .i64 m) wr Dc:=fun e=>by have:=HLR.out;rw[e] at this;exact this
    have hfail:=fun he=>HLR.out.fails rfl hlt HL0.out he
    have hcont:=fun h1 he=>HLR.out.cont rfl hlt h1 he
    obtain⟨s,hs⟩: ∃s,s=Dc.reads (atF X.h.area (place+kk)):=⟨_,rfl⟩
    obtain⟨E,hE⟩: ∃E,E=Dc.callE (atF X.h.area (place+kk)) false:=⟨_,rfl⟩
    obtain⟨D2,hD2⟩: ∃D2,D2=Dc.callD (atF X.h.area (place+kk)) false:=⟨_,rfl⟩
    have hd2:D2.Ok (N+(kk+1)):=by rw[hD2];exact Dk.Ok.mono (HDC.out.callD _ _) (by omega)
    rw[←hs] at hsb hcont ⊢
    rw[←hE] at hfail hcont ⊢
    rw[←hD2] at hfail hcont hat3
    have hsl:=hsb.1
    obtain⟨f1,f2,f3⟩:=fresh56 w3 s hsl
    have HIS:RowKit.Hid ((Tryz.prog.info? 48).map (·.size)=some (bcells s).length):=hid (by rw[Tryz.info56p];simp[bcells,hsl])
    have H1B:=hid (all_oneCell_toArray (bcells_one s))
    have F1:=hid f1;have HSB:=hid f2;have HU3:=hid hu3;have HSL:=hid hsb;have HFAIL:=hid hfail;have HCONT:=hid hcont;have HCZ:=hid hcz;have HD2:=hid hd2
    have HE:=hid hE;have HS:=hid hs;have HDD:=hid hD2
    have HBX3:=hid hat3.box
    have HU34:=hid (hu3.trans (f3.mono (fun _ _ e=>e.elim)))
    have HA4:=hid (hat3.kept f3 (fun _ e=>e.elim) HFL.out)
    clear f1 f2 f3 hsl hsb hu3 hfail hcont hcz hd2 hE hs hD2 hat3 HLR HDC HA
    simp only[]
    iterate 13 go_step
    refine(?_:wpList _ _ _ _ _ (w3.alloc (.cells (bcells zblk).toArray 48)))
    refine wpList_store_mid rfl 48 (.tmp 19) (.tmp 37) rfl w3.heap.size 0 (bcells s).toArray rfl rfl F1.out (by rw[HIS.out];simp) H1B.out ?_
    obtain⟨w4,hw4⟩: ∃w4,w4=(w3.alloc (.cells (bcells zblk).toArray 48)).setCells w3.heap.size 0 (bcells s):=⟨_,rfl⟩
    rw[←hw4] at HA4 HSB HU34
    rw[show(bcells s).toArray.toList=bcells s from rfl,←hw4]
    clear hw4 F1 H1B
    obtain⟨gs,hgs⟩: ∃gs,gs=w3.heap.size:=⟨_,rfl⟩
    rw[←hgs] at HSB ⊢
    have hgw:w.heap.size<gs:=by rw[hgs];exact Nat.lt_of_lt_of_le (lt_of_heap HBX3.out) (Nat.le_refl _)
    have HGR:RowKit.Hid (wr.heap.size≤gs):=hid (by rw[hgs];exact HU3.out.size)
    clear hgs
    by_cases hE0:E=0
    rotate_left
    ·have hEb:(E !=0)=true:=by simpa using hE0
     have HRE:=hid (HFAIL.out (by simpa using hE0))
     clear hE0
     go_wp2
     go_ret3
     rw[HRE.out]
     exact⟨HA4.out.dsk,HA4.out.upd,rfl⟩
    ·subst hE0
     have h16:=slice_16 gs
     go_upto_if 44 with fail
     go_cut [15,16,17,21,22,23] from 26 to 94 (fun b turn many own _ _ wx=> ∃(t:Int) (n:Nat) (bs:List Int) (g o ml:Nat),b=.slice (some ⟨g,0,none⟩) n n∧turn=.int .i64 t∧many=.int .i64 (secsN n)∧own=.slice (some ⟨gs,o,none⟩) ml ml∧(o+ml=64∧o≤20)∧(1≤t∧t≤4294967295)∧kk<secsN n∧BufAt w wx g n bs∧g≠gs∧wx.heap[gs]?=some (.cells (bcells s).toArray 48 (0,0))∧WhAt w p X.h F D2 wx∧Cont R X.h number place left snap kk t n bs s o D2)
     case first=>
      rcases Nat.eq_zero_or_pos kk with hk0 | hk1
      ·subst hk0
       rcases HCZ.out rfl with ⟨_,rfl,rfl,hm1',hRw⟩ | ⟨hx,_⟩
       rotate_left
       ·omega
       obtain rfl:m=1:=by injection hm1'
       have e0:place+((0:Nat):Int)=place:=by omega
       have hE':Dc.callE (atF X.h.area place) false=0:=by have:=HE.out;rw[e0] at this;exact this.symm
       have hS':Dc.reads (atF X.h.area place)=s:=by have:=HS.out;rw[e0] at this;exact this.symm
       have hD':Dc.callD (atF X.h.area place) false=D2:=by have:=HDD.out;rw[e0] at this;exact this.symm
       obtain⟨hno,hyes⟩:=cont_zero hRw HL0.out hE'
       rw[hS',hD'] at hno hyes
       have hsl:=HSL.out.1
       obtain⟨a0,a1,a2,a3,r0,hs4,hbe⟩:=split4 (s:=s) (by omega)
       obtain⟨n0,n1,n2,n3,r1,hn4,hbn⟩:=split4 (s:=s.drop 16) (by simp;omega)
       have hBs:Bytes s:=HSL.out.2
       have hB0:Bytes [a0,a1,a2,a3]:=fun x hx=>hBs x (by rw[hs4];simp at hx;rcases hx with rfl | rfl | rfl | rfl<;> simp)
       have hB1:Bytes [n0,n1,n2,n3]:=fun x hx=>hBs x (List.mem_of_mem_drop (i:=16) (by rw[hn4];simp at hx;rcases hx with rfl | rfl | rfl | rfl<;> simp))
       have hTb:=be4_bound hB0;have hZb:=be4_bound hB1
       have hK0: ∀W rr,Rd W rr s→Calls Tryz.prog 193 #[.pointer (some ⟨rr,0,none⟩)] W fun e w'=>e=.returned (.int .u32 (startT s))∧Upd (fun k=>k=rr) W w':=fun W rr hr=>by
        rw[show startT s=be4 a0 a1 a2 a3 4 from hbe]
        refine(u32_any W (by rw[hs4] at hr;exact hr) hB0).mono ?_
        rintro e w' ⟨rfl,_,h2⟩
        exact⟨rfl,h2⟩
       have hK1: ∀W rr,Rd W rr (s.drop 16)→Calls Tryz.prog 193 #[.pointer (some ⟨rr,0,none⟩)] W fun e w'=>e=.returned (.int .u32 (startN s))∧Upd (fun k=>k=rr) W w':=fun W rr hr=>by
        rw[show startN s=be4 n0 n1 n2 n3 4 from hbn]
        refine(u32_any W (by rw[hn4] at hr;exact hr) hB1).mono ?_
        rintro e w' ⟨rfl,_,h2⟩
        exact⟨rfl,h2⟩
       rw[←show startT s=be4 a0 a1 a2 a3 4 from hbe] at hTb
       rw[←show startN s=be4 n0 n1 n2 n3 4 from hbn] at hZb
       unfold Starts at hno hyes
       have hin0:BytesIn w4 (.slice (some ⟨gs,0,none⟩) 64 64) s:=by simpa using bytesIn_arr 0 hsl (by omega) HSB.out
       have hin1:BytesIn w4 (.slice (some ⟨gs,16,none⟩) 48 48) (s.drop 16):=bytesIn_arr 16 hsl (by omega) HSB.out
       obtain⟨T,hT⟩: ∃T,T=startT s:=⟨_,rfl⟩
       rw[←hT] at hno hyes hK0 hTb
       obtain⟨Zn,hZ⟩:=Int.eq_ofNat_of_zero_le hZb.1
       rw[hZ] at hno hyes hK1 hZb
       simp only[Int.toNat_natCast] at hno hyes
       have hne1:s.drop 16≠[]:=by intro e;have:=congrArg List.length e;simp at this;omega
       have hne0':s≠[]:=by rintro rfl;simp at hsl
       have v0:IntKind.i64.wrap T=T:=by rw[IntKind.wrap_i64];omega
       have v1:IntKind.i64.wrap (Zn:Int)=Zn:=by rw[IntKind.wrap_i64];omega
       have hall:=slice_all gs
       have HNO:=hid hno;have HYES:=hid hyes;have HK0:=hid hK0;have HK1:=hid hK1;have HIN0:=hid hin0;have HIN1:=hid hin1;have HNE1:=hid hne1;have HNE0:=hid hne0';have HSN:=hid hsl
       clear hno hyes hK0 hK1 hin0 hin1 hne1 hne0' hsl hs4 hn4 hbe hbn hB0 hB1 hBs hT hZ hE' hS' hD' hRw e0 hm1' HCZ HCONT HFAIL HS HE HDD
       go_wp2_with (go_at_call 88;fail)
       refine(oread_any w4 HIN0.out HNE0.out (by have:=HSN.out;omega)).mono ?_
       rintro e w5 ⟨rfl,hr5,hu5⟩
       have HR5:=hid hr5;have HU5:=hid hu5
       clear hr5 hu5 hall
       simp only[]
       go_wp2_with (go_at_call 193;fail)
       refine(HK0.out _ _ HR5.out).mono ?_
       rintro e w6 ⟨rfl,hu6⟩
       have HU6:RowKit.Hid (Upd (fun _=>False) w4 w6):=hid (HU5.out.step hu6 (fun k hk e=>by omega))
       clear hu6 HR5 HU5
       simp only[]
       go_wp2_with (go_at_call 88;fail)
       refine(oread_any w6 (HIN1.out.kept HU6.out) HNE1.out (by have:=HSN.out;simp;omega)).mono ?_
       rintro e w7 ⟨rfl,hr7,hu7⟩
       have HR7:=hid hr7;have HU7:=hid hu7
       clear hr7 hu7
       simp only[]
       go_wp2_with (go_at_call 193;fail)
       refine(HK1.out _ _ HR7.out).mono ?_
       rintro e w8 ⟨rfl,hu8⟩
       have HU8:RowKit.Hid (Upd (fun _=>False) w4 w8):=hid ((HU6.out.trans HU7.out).step hu8 (fun k hk e=>by have:=HU6.out.size;omega))
       have HA8:=hid (HA4.out.kept HU8.out (fun _ e=>e.elim) HFL.out)
       have HSB8:=hid ((HU8.out.block _ (lt_of_heap HSB.out) (fun e=>e)).trans HSB.out)
       clear hu8 HR7 HU7 HU6 HK0 HK1 HIN0 HIN1 HNE0 HNE1 HSB HA4
       simp only[]
       have cc:w8.cell? ⟨w.heap.size,0,none⟩=some (.int .i64 X.h.turn):=by simp[World.cell?,HA8.out.box]
       go_upto_region 16 with fail
       by_cases h1:T<1
       ·have HRE:=hid (HNO.out (fun q=>by omega))
        go_wp2
        go_ret3
        rw[HRE.out]
        exact⟨HA8.out.dsk,HA8.out.upd,rfl⟩
       ·by_cases h2:T > X.h.turn
        ·have HRE:=hid (HNO.out (fun q=>by omega))
         go_wp2
         go_ret3
         rw[HRE.out]
         exact⟨HA8.out.dsk,HA8.out.upd,rfl⟩
        ·by_cases h3:(Zn:Int) > 40000
         ·have HRE:=hid (HNO.out (fun q=>by omega))
          go_wp2
          go_ret3
          rw[HRE.out]
          exact⟨HA8.out.dsk,HA8.out.upd,rfl⟩
         ·have HSEC:=hid (secsI_nat (n:=Zn) (by omega))
          by_cases h4:(secsN Zn:Int) > left
          ·have HRE:=hid (HNO.out (fun q=>by omega))
           go_wp2_with (go_at_call 113;refine(sectors_any _ _).mono ?_;rintro e w9 ⟨rfl,rfl⟩;rw[HSEC.out])
           go_ret3
           rw[HRE.out]
           exact⟨HA8.out.dsk,HA8.out.upd,rfl⟩
          ·have HYE:=hid (HYES.out ⟨by omega,by omega,by omega,by omega⟩)
           clear HYES HNO
           have HYES:=HYE
           clear HYE
           have HSP:RowKit.Hid (0<secsN Zn):=hid (by have:=secsN_pos Zn;omega)
           have hu8s:w.heap.size<w8.heap.size:=lt_of_heap HA8.out.box
           have hg8:gs<w8.heap.size:=lt_of_heap HSB8.out
           have hT1:1≤T∧T≤4294967295:=by omega
           have hZ4:Zn≤40000:=by omega
           have hmk: ∀W,(Instr.makeSlice 39 (.int .u32 (Zn:Int)) (.int .u32 (Zn:Int))).run Tryz.prog W=.ok (.slice (some ⟨W.heap.size,0,none⟩) Zn Zn) (W.alloc (.cells (madeCells #[.int .u8 0] Zn) 5)):=fun W=>run_make_row' (P:=Tryz.prog) 39 5 (.int .u8 0) 1 Tryz.underlying39 Tryz.info5p rfl .u32 .u32 Zn (by omega) (by omega) W
           have h20:=slice_own4 gs
           have hA:Upd (fun _=>False) w8 w8.drew:=(Upd.refl _ w8).drew
           go_wp2_with (first | (go_at_call 113;refine(sectors_any _ _).mono ?_;rintro e w9 ⟨rfl,rfl⟩;rw[HSEC.out]))
           refine wp_region_G 9 (fun W=>Upd (fun _=>False) w8 W) [false,false,false,false,false,false,false,false,false,false] rfl (by kernel_rfl) ?_
           refine tqZ 0 (.int .u32 Zn) [8,7,1] hA (fun w5 q1=>?_) ?_
           ·go_simp
           simp only[pZ,nZ,bZ,List.set]
           refine tqZ 2 (.int .u32 Zn) [8,4,3] hA (fun w5 q1=>?_) ?_
           ·go_simp
           simp only[pZ,nZ,bZ,List.set]
           refine tqZ 3 (.int .i64 Zn) [8,4] hA (fun w5 q1=>?_) ?_
           ·go_simp
           simp only[pZ,nZ,bZ,List.set]
           refine tqZ 5 (.slice (some ⟨gs,16,none⟩) 48 48) [6] hA (fun w5 q1=>?_) ?_
           ·go_simp
           simp only[pZ,nZ,bZ,List.set]
           refine tqZ 6 (.slice (some ⟨gs,20,none⟩) 44 44) [] hA (fun w5 q1=>?_) ?_
           ·go_simp
           simp only[pZ,nZ,bZ,List.set]
           refine wpG_do2 (i:=1) (j:=4) rfl rfl (by kernel_rfl) rfl rfl (fun K hK=>?_) (fun K hK=>?_)
           ·have HKK:=hid hK
            clear hK
            go_step
            have hA9:Upd (fun _=>False) w8 (w8.drew.alloc (.cells (madeCells #[.int .u8 0] Zn) 5)):=hA.alloc _
            refine HKK.out _ _ hA9 ?_
            clear HKK
            simp only[List.setIfInBounds_toArray,List.set]
            refine wpG_do (i:=4) rfl (by kernel_rfl) rfl (fun K hK=>?_)
            have HKK:=hid hK
            clear hK
            go_step
            refine(sectors_any _ _).mono ?_
            rintro e wz ⟨rfl,rfl⟩
            rw[HSEC.out]
            simp only[]
            refine HKK.out _ _ hA9 ?_
            clear HKK
            simp only[List.setIfInBounds_toArray,List.set]
            refine wpG_do (i:=7) rfl (by kernel_rfl) rfl (fun K hK=>?_)
            have HKK:=hid hK
            clear hK
            go_step
            refine HKK.out _ _ hA9 ?_
            clear HKK
            simp only[List.setIfInBounds_toArray,List.set]
            refine wpG_do (i:=8) rfl (by kernel_rfl) rfl (fun K hK=>?_)
            have HKK:=hid hK
            clear hK
            go_step
            refine HKK.out _ _ hA9 ?_
            clear HKK
            simp only[List.setIfInBounds_toArray,List.set]
            refine wpG_tail_lit (k:=9) rfl rfl (by kernel_rfl) ?_
            simp only[List.drop]
            have HB9:RowKit.Hid ((w8.drew.alloc (.cells (madeCells #[.int .u8 0] Zn) 5)).heap[w8.heap.size]?=some (.cells (bcells (List.replicate Zn 0)).toArray 5 (0,0))):=hid (by rw[←made_bytes];exact alloc_at rfl)
            go_wp2
            go_meet
            case rel=>
             have hu9:=hA9
             exact⟨T,Zn,List.replicate Zn 0,_,20,44,rfl,rfl,rfl,rfl,⟨rfl,by omega⟩,hT1,HSP.out,⟨by simp,hZ4,Bytes.zeros _,HB9.out,by have:=hu8s;omega⟩,by have:=hg8;omega,(hu9.block _ (lt_of_heap HSB8.out) (fun e=>e)).trans HSB8.out,HA8.out.kept hu9 (fun _ e=>e.elim) HFL.out,HYES.out⟩
           ·have HKK:=hid hK
            clear hK
            go_step
            refine(sectors_any _ _).mono ?_
            rintro e wz ⟨rfl,rfl⟩
            rw[HSEC.out]
            simp only[]
            refine HKK.out _ _ hA ?_
            clear HKK
            simp only[List.setIfInBounds_toArray,List.set]
            refine wpG_do (i:=1) rfl (by kernel_rfl) rfl (fun K hK=>?_)
            have HKK:=hid hK
            clear hK
            go_step
            have hA9:Upd (fun _=>False) w8 (w8.drew.alloc (.cells (madeCells #[.int .u8 0] Zn) 5)):=hA.alloc _
            refine HKK.out _ _ hA9 ?_
            clear HKK
            simp only[List.setIfInBounds_toArray,List.set]
            refine wpG_do (i:=7) rfl (by kernel_rfl) rfl (fun K hK=>?_)
            have HKK:=hid hK
            clear hK
            go_step
            refine HKK.out _ _ hA9 ?_
            clear HKK
            simp only[List.setIfInBounds_toArray,List.set]
            refine wpG_do (i:=8) rfl (by kernel_rfl) rfl (fun K hK=>?_)
            have HKK:=hid hK
            clear hK
            go_step
            refine HKK.out _ _ hA9 ?_
            clear HKK
            simp only[List.setIfInBounds_toArray,List.set]
            refine wpG_tail_lit (k:=9) rfl rfl (by kernel_rfl) ?_
            simp only[List.drop]
            have HB9:RowKit.Hid ((w8.drew.alloc (.cells (madeCells #[.int .u8 0] Zn) 5)).heap[w8.heap.size]?=some (.cells (bcells (List.replicate Zn 0)).toArray 5 (0,0))):=hid (by rw[←made_bytes];exact alloc_at rfl)
            go_wp2
            go_meet
            case rel=>
             have hu9:=hA9
             exact⟨T,Zn,List.replicate Zn 0,_,20,44,rfl,rfl,rfl,rfl,⟨rfl,by omega⟩,hT1,HSP.out,⟨by simp,hZ4,Bytes.zeros _,HB9.out,by have:=hu8s;omega⟩,by have:=hg8;omega,(hu9.block _ (lt_of_heap HSB8.out) (fun e=>e)).trans HSB8.out,HA8.out.kept hu9 (fun _ e=>e.elim) HFL.out,HYES.out⟩
      ·have hkb:((kk:Int) == 0)=false:=by simp;omega
       obtain⟨t,n,bs,g,rfl,rfl,hmn,ht,hbuf,hc⟩:=HCONT.out hk1 rfl
       have hgg:g≠gs:=by have:=lt_of_heap hbuf.blk;have:=HGR.out;omega
       have HMN:=hid hmn;have HBUF:=hid hbuf;have HC:=hid hc
       clear hmn hbuf hc
       go_wp2
       go_meet
       case rel=>exact⟨t,n,bs,g,16,48,rfl,rfl,by rw[HMN.out],rfl,⟨rfl,by omega⟩,ht,by have:=HMN.out;omega,HBUF.out.kept HU34.out (fun e=>by have:=HFL.out _ e;have:=HBUF.out.gt;omega),hgg,HSB.out,HA4.out,HC.out⟩
     case rest=>
      obtain⟨t,n,bs,g,o,ml,rfl,rfl,rfl,rfl,⟨homl,ho20⟩,ht,hks,hbuf,hgg,hsb,hatx,hc⟩:=hcut
      have HBUF:=hid hbuf;have HSBX:=hid hsb;have HAX:=hid hatx;have HC:=hid hc;have HGG:=hid hgg
      have hn4:n≤40000:=hbuf.short
      have hofn:48 * kk - 4≤n:=by unfold secsN at hks;omega
      have hof3:48 * kk - 4=0∨48 * kk - 4<n:=by unfold secsN at hks;omega
      clear hbuf hsb hatx hc hgg HBX3 HCZ HCONT HFAIL HS HE HDD HSB HA4 HU34 HU3 h16
      obtain⟨off,hoff⟩: ∃off,off=48 * kk - 4:=⟨_,rfl⟩
      rw[←hoff] at hofn hof3
      have HOFF:=hid hoff
      have hlen48:((s.drop o).take (n - off)).length=Nat.min ml (n - off):=by have:=HSL.out.1;simp only[List.length_take,List.length_drop];rw[show s.length - o=ml by omega];exact Nat.min_comm _ _
      have hcs: ∀j v,(bcells ((s.drop o).take (n - off)))[j]?=some v→wc.cell? ((⟨gs,o,none⟩:Addr).add j)=some v:=by
       intro j v hj
       rw[Addr.add_mid,cell_of_heap HSBX.out,List.getElem?_toArray]
       have e:bcells ((s.drop o).take (n - off))=((bcells s).drop o).take (n - off):=by simp[bcells]
       rw[e] at hj
       have hj2:j<n - off:=by
        have:=(List.getElem?_eq_some_iff.1 hj).1
        simp only[List.length_take] at this
        omega
       rw[List.getElem?_take_of_lt hj2,List.getElem?_drop] at hj
       exact hj
      have hfit:off+(bcells ((s.drop o).take (n - off))).length≤(bcells bs).length:=by
       rw[bcells_length,bcells_length,hlen48,HBUF.out.len]
       have h5:Nat.min ml (n - off)≤n - off:=Nat.min_le_right ml (n - off)
       show off+Nat.min ml (n - off)≤n
       omega
      have hone: ∀v∈bcells ((s.drop o).take (n - off)),v.oneCell'=true:=bcells_one _
      obtain⟨cs,hcs0⟩: ∃cs,cs=bcells ((s.drop o).take (n - off)):=⟨_,rfl⟩
      have hsp:splice (bcells bs) off cs=bcells (overF bs off (s.drop o)):=by
       rw[hcs0,←HBUF.out.len];exact splice_over (by rw[HBUF.out.len];exact hofn)
      have hcl:cs.length=Nat.min ml (n - off):=by rw[hcs0,bcells_length];exact hlen48
      rw[←hcs0] at hcs hfit hone
      have HCS:=hid hcs;have HFIT:=hid hfit;have HONE:=hid hone;have HSPL:=hid hsp;have HCL:=hid hcl
      clear hcs hfit hone hsp hcl hcs0 hlen48 hoff
      have hsf:=slice_from g n n off hofn (Nat.le_refl _) hof3
      iterate 18 go_step
      rw[show max (48 * (kk:Int) - 4) 0=(off:Int) by rw[HOFF.out];omega]
      iterate 6 go_step
      refine wpList_copy_upd rfl (.tmp 84) (.tmp 85) 39 39 rfl 5 Tryz.underlying39 (by kernel_rfl) (n - off) (n - off) ml ml g off ⟨gs,o,none⟩ rfl rfl (bcells bs) 5 HBUF.out.blk cs HCL.out HCS.out HFIT.out HONE.out ?_
      intro wd hwd hud
      rw[HSPL.out] at hwd
      have hnb:Bytes (overF bs off (s.drop o)):=bytes_over HBUF.out.byte (bytes_drop HSL.out.2)
      have hc:=HC.out
      unfold Cont at hc
      rw[←HOFF.out] at hc
      obtain⟨nb,hnb0⟩: ∃nb,nb=overF bs off (s.drop o):=⟨_,rfl⟩
      rw[←hnb0] at hc hnb hwd
      obtain⟨hc0,hc1,hc2⟩:=hc
      have hbd:BufAt w wd g n nb:=⟨hc0,hn4,hnb,hwd,HBUF.out.gt⟩
      have HBD:=hid hbd;have HC1:=hid hc1;have HC2:=hid hc2
      have HSBD:=hid ((hud.block _ (lt_of_heap HSBX.out) (fun e=>HGG.out e.symm)).trans HSBX.out)
      have HAD:=hid (HAX.out.kept hud (fun k e=>by rw[e];exact HBUF.out.gt) HFL.out)
      have hbi:BytesIn wd (.slice (some ⟨g,0,none⟩) n n) nb:=(own_buf hbd).bytesIn
      have HBI:=hid hbi
      have HSP2:RowKit.Hid ((Nat.min ml (n - off))=cs.length):=hid HCL.out.symm
      have hnl:kk<secsN nb.length:=by rw[hc0];exact hks
      have hnl4:nb.length≤40000:=by rw[hc0];exact hn4
      have HNL:=hid hnl
      clear hwd hud hnb hnb0 hc0 hc1 hc2 hbd hbi hnl HBUF HSBX HAX HC HCS HFIT HONE HSPL hsf HGG HCL
      go_upto_region 20 with fail
      have hA:Upd (fun _=>False) wd wd.drew:=(Upd.refl _ wd).drew
      refine wp_region_G 7 (fun W=>Upd (fun _=>False) wd W) [false,false,false,false,false,false,false,false] rfl (by kernel_rfl) ?_
      refine tqZ 0 (.int .i64 t) [5] hA (fun w5 q1=>?_) ?_
      ·go_simp
      simp only[pZ,nZ,bZ,List.set]
      refine tqZ 1 (.int .i64 number) [5] hA (fun w5 q1=>?_) ?_
      ·go_simp
      simp only[pZ,nZ,bZ,List.set]
      refine tqZ 2 (.bool snap) [5] hA (fun w5 q1=>?_) ?_
      ·go_simp
      simp only[pZ,nZ,bZ,List.set]
      refine tqZ 3 (.slice (some ⟨g,0,none⟩) n n) [5] hA (fun w5 q1=>?_) ?_
      ·go_simp
      simp only[pZ,nZ,bZ,List.set]
      refine tqZ 4 (.int .i64 kk) [5] hA (fun w5 q1=>?_) ?_
      ·go_simp
      simp only[pZ,nZ,bZ,List.set]
      refine tqZ 6 (.agg (bcells s).toArray) [] hA (fun w5 q1=>?_) ?_
      ·refine run_load_mid' rfl rfl (bcells s) ?_ Tryz.underlying48 rfl HIS.out
       exact rangeAt_block ((q1.block _ (lt_of_heap HSBD.out) (fun e=>e)).trans HSBD.out)
      simp only[pZ,nZ,bZ,List.set]
      refine wpG_doIf (i:=5) rfl (by kernel_rfl) rfl (fun K hK=>?_)
      have HKK:=hid hK
      clear hK
      go_step
      refine(cut_any (b:=nb) (k:=kk) _ (by omega) hnum (HBI.out.kept hA) HBD.out.byte hnl4 HNL.out).mono ?_
      rintro e w9 ⟨rfl,hu9⟩
      have hA2:Upd (fun _=>False) wd w9:=hA.trans hu9
      clear hA hu9
      simp only[]
      refine HKK.out _ _ hA2 ?_
      clear HKK
      simp only[List.setIfInBounds_toArray,List.set]
      refine wpG_tail_lit (k:=7) rfl rfl (by kernel_rfl) ?_
      simp only[List.drop]
      refine wpList_exec rfl (run_exec_neq rfl rfl rfl (neqV _ _ (by rw[cutF_length,allF_len48]) HSL.out.1 _)) ?_
      by_cases hcs:cutF t number snap nb kk=s
      ·have HRE:=hid (HC1.out hcs)
       have hq:(!(cutF t number snap nb kk == s))=false:=by simp[hcs]
       rw[hq]
       clear hcs hq
       go_wp2
       go_roundg (1001 - (kk+1))
       case measure=>omega
       case rel=>exact⟨kk+1,D2,by omega,rfl,congrArg _ (by omega),HD2.out,HAD.out.kept hA2 (fun _ e=>e.elim) HFL.out,.inr ⟨by omega,t,n,nb,g,rfl,rfl,rfl,by omega,ht,HRE.out,HBD.out.kept hA2 (fun e=>e)⟩⟩
      ·have HRE:=hid (HC2.out hcs)
       have hq:(!(cutF t number snap nb kk == s))=true:=by simp[hcs]
       rw[hq]
       have HAE:=hid (HAD.out.kept hA2 (fun _ e=>e.elim) HFL.out)
       clear hcs hq
       go_wp2
       go_ret3
       rw[HRE.out]
       exact⟨HAE.out.dsk,HAE.out.upd,rfl⟩
theorem goD_some {hd:Hd}{number place t:Int}{snap:Bool}{b:List Int}: ∀(m k:Nat) (c:List Int) (D:Dk),0<k→k+m=secsN c.length→(goD hd number place t snap m k c D).1=some b→b.length=c.length∧(goD hd number place t snap m k c D).2.1=0
 | 0,k,c,D,_,_,hf=>by
  unfold goD at hf ⊢
  injection hf with hf
  subst hf
  exact⟨rfl,rfl⟩
 |m+1,k,c,D,hk,hm,hf=>by
  have hoff:48 * k - 4≤c.length:=by unfold secsN at hm;omega
  have hlen:=overF_length c (48 * k - 4) ((D.reads (atF hd.area (place+k))).drop 16) hoff
  unfold goD at hf ⊢
  split at hf
  ·rename_i h1
   split at hf
   ·rename_i h2
    rw[if_pos h1,if_pos h2]
    have:=goD_some m (k+1) _ _ (by omega) (by rw[hlen];omega) hf
    rw[hlen] at this
    exact this
   ·cases hf
  ·cases hf
theorem goD_ok {hd:Hd}{number place t:Int}{snap:Bool}: ∀(m k:Nat) (c:List Int) (D:Dk) (K:Nat),D.Ok K→(goD hd number place t snap m k c D).2.2.Ok (K+m)
 | 0,_,_,_,_,h=>h
 |m+1,k,c,D,K,h=>by
  unfold goD
  split
  ·split
   ·exact Dk.Ok.mono (goD_ok m (k+1) _ _ _ (h.callD _ _)) (by omega)
   ·exact Dk.Ok.mono (h.callD _ _) (by omega)
  ·exact Dk.Ok.mono (h.callD _ _) (by omega)
theorem wholeD_some {hd:Hd}{number place left:Int}{snap:Bool}{b:List Int}{D:Dk}(hf:(wholeD hd number place snap left D).1=some b):(wholeD hd number place snap left D).2.1=0∧(secsN b.length:Int)≤left∧b.length≤40000:=by
 unfold wholeD at hf ⊢
 split at hf
 ·cases hf
 ·rename_i h0
  split at hf
  ·rename_i h1
   split at hf
   ·rename_i h2
    split at hf
    ·rename_i h3
     rw[if_neg h0,if_pos h1,if_pos h2,if_pos h3]
     have hlen:(startB (D.reads (atF hd.area place))).length=(startN (D.reads (atF hd.area place))).toNat:=by
      unfold startB;rw[overF_length _ _ _ (by omega)];simp
     have hp:=secsN_pos (startN (D.reads (atF hd.area place))).toNat
     obtain⟨g1,g2⟩:=goD_some _ 1 _ _ (by omega) (by rw[hlen];omega) hf
     rw[hlen] at g1
     have g3:=h2.2.2.1;have g4:=h2.2.2.2
     exact⟨g2,by rw[g1];exact g4,by omega⟩
    ·cases hf
   ·cases hf
  ·cases hf
theorem wholeD_ok {hd:Hd}{number place left:Int}{snap:Bool}{D:Dk}{K:Nat}(hl:left≤1000)(h:D.Ok K):(wholeD hd number place snap left D).2.2.Ok (K+1000):=by
 unfold wholeD
 split
 ·exact Dk.Ok.mono h (by omega)
 ·split
  ·split
   ·rename_i h2
    split
    ·have h3:=h2.2.2.2
     exact Dk.Ok.mono (goD_ok _ _ _ _ _ (h.callD _ _)) (by omega)
    ·exact Dk.Ok.mono (h.callD _ _) (by omega)
   ·exact Dk.Ok.mono (h.callD _ _) (by omega)
  ·exact Dk.Ok.mono (h.callD _ _) (by omega)
theorem whole_use {q p bx:Nat}{Y:Lg}{G F:Nat→Prop}{D:Dk}{N:Nat}(w:World)(hlg:Log w q p Y G)(hok:Y.Ok)(hbx:w.heap[bx]?=some (.cells #[.pointer (some ⟨q,0,none⟩)] 38 (0,0)))(hD:Dsk w p D F)(hdok:D.Ok N)(hN:N≤1099511620000)
  (hFG: ∀k,G k→ ¬F k) (hFb: ¬F bx) (hu:0≤Y.used∧Y.used≤Y.h.area):
  Calls Tryz.prog 172 #[Y.h.val,.int .i64 (Y.h.number+Y.parts.length),.int .i64 (Y.h.place+Y.used),.bool (decide (Y.parts=[])),.int .i64 (Y.h.area - Y.used),.func (.func 171) #[] #[.pointer (some ⟨bx,0,none⟩)]] w fun e w'=>
   ∃v,e=.returned (.tuple #[v,.bool (wholeD Y.h (Y.h.number+Y.parts.length) (Y.h.place+Y.used) (decide (Y.parts=[])) (Y.h.area - Y.used) D).1.isSome,.int .i64 (wholeD Y.h (Y.h.number+Y.parts.length) (Y.h.place+Y.used) (decide (Y.parts=[])) (Y.h.area - Y.used) D).2.1])∧
    Log w' q p Y G∧Dsk w' p (wholeD Y.h (Y.h.number+Y.parts.length) (Y.h.place+Y.used) (decide (Y.parts=[])) (Y.h.area - Y.used) D).2.2 F∧Upd F w w'∧
    ∀b,(wholeD Y.h (Y.h.number+Y.parts.length) (Y.h.place+Y.used) (decide (Y.parts=[])) (Y.h.area - Y.used) D).1=some b→OwnB w' w.heap.size v b∧Bytes b:=by
 have h1:=hok.place;have h2:=hok.number;have h3:=hok.len;have h4:=hok.area
 refine(whole_any (number:=Y.h.number+Y.parts.length) (place:=Y.h.place+Y.used) (left:=Y.h.area - Y.used) (snap:=decide (Y.parts=[])) w hlg hok hbx hD hdok hN hFG hFb (by omega) (by omega) (by omega)).mono ?_
 rintro e w' ⟨g1,g2,g3⟩
 have hs:=fun b=>wholeD_some (b:=b) (hd:=Y.h) (number:=Y.h.number+Y.parts.length) (place:=Y.h.place+Y.used) (left:=Y.h.area - Y.used) (snap:=decide (Y.parts=[])) (D:=D)
 generalize wholeD Y.h (Y.h.number+Y.parts.length) (Y.h.place+Y.used) (decide (Y.parts=[])) (Y.h.area - Y.used) D=R at *
 obtain⟨ob,E,D'⟩:=R
 rcases ob with _ | b
 ·exact⟨_,g3,hlg.kept g2 hFG,g1,g2,fun b hb=>by cases hb⟩
 ·obtain⟨v,rfl,hv1,hv2,_⟩:=g3
  have:=(hs b rfl).1
  simp only at this
  subst this
  exact⟨v,rfl,hlg.kept g2 hFG,g1,g2,fun c hc=>by injection hc with hc;subst hc;exact⟨hv1,hv2⟩⟩
structure FndAt (w:World) (q p:Nat) (X Y:Lg) (RES:List (List Int)×Int×Dk) (f:Nat) (Dc:Dk) (G F:Nat→Prop) (N:Nat) (W:World):Prop where
 hd:Y.h=X.h
 brk:Y.broken=X.broken
 ok:Y.Ok
 used:Y.used=usedOf Y.parts
 fits:Y.used≤Y.h.area
 fuel:Y.h.area - Y.used<f∧f≤1001
 cnt:(Y.parts.length:Int)≤Y.used
 res:foundD X.h f Y.parts Y.used Dc=RES
 log: ∃G',Log W q p Y G'∧(∀k,G' k→G k∨w.heap.size<k)
 dsk:Dsk W p Dc F
 dok:Dc.Ok (N+1000 * (1001 - f))
 upd:Upd (fun k=>G k∨F k) w W
 box:W.heap[w.heap.size]?=some (.cells #[.pointer (some ⟨q,0,none⟩)] 38 (0,0))
theorem found_none {hd:Hd}{f:Nat}{ps:List (List Int)}{u:Int}{D:Dk}(hf:0<f)(hw:(wholeD hd (hd.number+ps.length) (hd.place+u) (decide (ps=[])) (hd.area - u) D).1=none):
  foundD hd f ps u D=(ps,(wholeD hd (hd.number+ps.length) (hd.place+u) (decide (ps=[])) (hd.area - u) D).2):=by
 obtain⟨f,rfl⟩: ∃g,f=g+1:=⟨f - 1,by omega⟩
 unfold foundD
 generalize wholeD hd (hd.number+ps.length) (hd.place+u) (decide (ps=[])) (hd.area - u) D=R at *
 obtain⟨ob,E,D'⟩:=R
 simp only at hw
 subst hw
 rfl
theorem found_some {hd:Hd}{f:Nat}{ps:List (List Int)}{u:Int}{D:Dk}{b:List Int}(hw:(wholeD hd (hd.number+ps.length) (hd.place+u) (decide (ps=[])) (hd.area - u) D).1=some b):
  foundD hd (f+1) ps u D=foundD hd f (ps++[b]) (u+secsN b.length) (wholeD hd (hd.number+ps.length) (hd.place+u) (decide (ps=[])) (hd.area - u) D).2.2:=by
 rw (occs:=.pos [1]) [foundD]
 generalize wholeD hd (hd.number+ps.length) (hd.place+u) (decide (ps=[])) (hd.area - u) D=R at *
 obtain⟨ob,E,D'⟩:=R
 simp only at hw
 subst hw
 rfl
theorem FndAt.more {w W W':World}{q p:Nat}{X Y:Lg}{RES:List (List Int)×Int×Dk}{f:Nat}{Dc D':Dk}{G F G2:Nat→Prop}{N:Nat}{b:List Int}(h:FndAt w q p X Y RES f Dc G F N W)
  (hw:wholeD Y.h (Y.h.number+Y.parts.length) (Y.h.place+Y.used) (decide (Y.parts=[])) (Y.h.area - Y.used) Dc=(some b,0,D')) (hb:Bytes b) (hlog:Log W' q p (Y.add b) G2) (hG2: ∀k,G2 k→G k∨w.heap.size<k) (hd:Dsk W' p D' F)
  (hu:Upd (fun k=>G k∨F k) w W') (hbox:W'.heap[w.heap.size]?=some (.cells #[.pointer (some ⟨q,0,none⟩)] 38 (0,0))):FndAt w q p X (Y.add b) RES (f - 1) D' G F N W':=by
 obtain⟨h1,h2,h3⟩:=wholeD_some (b:=b) (by rw[hw])
 have hf:=h.fuel;have hpos:=secsN_pos b.length;have hcnt:=h.cnt;have hok:=h.ok;have hfit:=h.fits;have hus:=hok.used;have har:=hok.area
 have hk:=wholeD_ok (hd:=Y.h) (number:=Y.h.number+Y.parts.length) (place:=Y.h.place+Y.used) (left:=Y.h.area - Y.used) (snap:=decide (Y.parts=[])) (by omega) h.dok
 rw[hw] at hk
 obtain⟨g,rfl⟩: ∃g,f=g+1:=⟨f - 1,by omega⟩
 have hlen:((Y.add b).parts.length:Int)=Y.parts.length+1:=by simp[Lg.add]
 have hus2:(Y.add b).used=Y.used+secsN b.length:=rfl
 refine⟨h.hd,h.brk,⟨hok.turn,hok.area,hok.place,hok.number,by rw[hus2];omega,by omega,fun c hc=>?_⟩,?_,by show Y.used+(secsN b.length:Int)≤Y.h.area;omega,by show Y.h.area - (Y.used+(secsN b.length:Int))<((g+1 - 1:Nat):Int)∧_;omega,by rw[hlen,hus2];omega,?_,⟨G2,hlog,hG2⟩,hd,Dk.Ok.mono hk (by omega),hu,hbox⟩
 ·simp only[Lg.add,List.mem_append,List.mem_singleton] at hc
  rcases hc with hc | rfl
  ·exact hok.bytes c hc
  ·exact⟨hb,h3⟩
 ·show Y.used+(secsN b.length:Int)=usedOf (Y.parts++[b])
  rw[usedOf_append,usedOf_cons,usedOf_nil,h.used];omega
 ·rw[←h.res,←h.hd,found_some (b:=b) (by rw[hw]),hw]
  rfl
theorem found_any {q p:Nat}{X:Lg}{G F:Nat→Prop}{D:Dk}{N:Nat}(w:World)(hlg:Log w q p X G)(hok:X.Ok)(hus:X.used=usedOf X.parts)(hfit:X.used≤X.h.area)(hcnt:(X.parts.length:Int)≤X.used)(hD:Dsk w p D F)(hdok:D.Ok N)(hN:N≤1099510000000)(hFG: ∀k,G k→ ¬F k):
  Calls Tryz.prog 131 #[.pointer (some ⟨q,0,none⟩)] w fun e w'=> ∃Y G' D',e=.returned (.int .i64 (foundD X.h 1001 X.parts X.used D).2.1)∧Y.h=X.h∧Y.broken=X.broken∧Y.parts=(foundD X.h 1001 X.parts X.used D).1∧Y.used=usedOf Y.parts∧Y.used≤Y.h.area∧Y.Ok∧D'=(foundD X.h 1001 X.parts X.used D).2.2∧Log w' q p Y G'∧(∀k,G' k→G k∨w.heap.size≤k)∧Dsk w' p D' F∧D'.Ok (N+1001000)∧Upd (fun k=>G k∨F k) w w':=by
 have hFL:=hD.lt
 have hGL:=hlg.lt
 obtain⟨RES,hRES⟩: ∃RES,RES=foundD X.h 1001 X.parts X.used D:=⟨_,rfl⟩
 have hu1:Upd (fun _=>False) w (w.alloc (.cells #[.pointer (some ⟨q,0,none⟩)] 38)):=(Upd.refl _ w).alloc _
 have hat:FndAt w q p X X RES 1001 D G F N (w.alloc (.cells #[.pointer (some ⟨q,0,none⟩)] 38)):=
  ⟨rfl,rfl,hok,hus,hfit,by have:=hok.area;have:=hok.used;omega,hcnt,hRES.symm,⟨G,hlg.kept hu1 (fun _ _ e=>e),fun k hk=>.inl hk⟩,hD.kept hu1 (fun _ _ e=>e),Dk.Ok.mono hdok (by omega),hu1.mono (fun _ _ e=>e.elim),alloc_at rfl⟩
 rw[←hRES]
 have HAT:=hid hat;have HFL:=hid hFL;have HGL:=hid hGL;have HFG:=hid hFG
 obtain⟨w1,hw1⟩: ∃w1,w1=w.alloc (.cells #[.pointer (some ⟨q,0,none⟩)] 38):=⟨_,rfl⟩
 rw[←hw1] at HAT
 clear hlg hok hus hfit hcnt hD hdok hFG hFL hGL hRES hu1 hat
 go_enter Tryz.func131,Tryz.ntmps131
 go_upto_region 1 with fail
 refine(?_:Code.wp _ _ _ _ (w.alloc (.cells #[.pointer (some ⟨q,0,none⟩)] 38)))
 rw[←hw1]
 clear hw1
 go_upto_region 2 with fail
 go_loopg [4] 1001 (fun gk _ wr=> ∃(Y:Lg) (f:Nat) (Dc:Dk),gk=f∧FndAt w q p X Y RES f Dc G F N wr)
 case atStart=>exact⟨X,1001,D,rfl,HAT.out⟩
 case round=>
  obtain⟨Y,f,Dc,rfl,hat⟩:=hrel
  obtain⟨ws,rfl⟩: ∃ws,ws=wr:=⟨_,rfl⟩
  obtain⟨G',hlg,hG'⟩:=hat.log
  have hgf: ∀k,G' k→ ¬F k:=fun k hk hf=>by
   rcases hG' k hk with hg | hg
   ·exact HFG.out k hg hf
   ·have:=HFL.out k hf;omega
  have hfb: ¬F w.heap.size:=fun e=>by have:=HFL.out _ e;omega
  have hfq: ¬F q:=hgf q hlg.mem
  have hyu:=hat.ok.used;have hya:=hat.ok.area;have hyp:=hat.ok.place;have hyf:=hat.fits;have hyl:=hat.ok.len
  obtain⟨RS,hRS⟩: ∃RS,RS=wholeD Y.h (Y.h.number+Y.parts.length) (Y.h.place+Y.used) (decide (Y.parts=[])) (Y.h.area - Y.used) Dc:=⟨_,rfl⟩
  have hwh: ∀W,Upd (fun _=>False) ws W→Calls Tryz.prog 172 #[Y.h.val,.int .i64 (Y.h.number+Y.parts.length),.int .i64 (Y.h.place+Y.used),.bool (decide (Y.parts=[])),.int .i64 (Y.h.area - Y.used),.func (.func 171) #[] #[.pointer (some ⟨w.heap.size,0,none⟩)]] W fun e w'=>
    ∃v,e=.returned (.tuple #[v,.bool RS.1.isSome,.int .i64 RS.2.1])∧Log w' q p Y G'∧Dsk w' p RS.2.2 F∧Upd F W w'∧ ∀b,RS.1=some b→OwnB w' W.heap.size v b∧Bytes b:=fun W hu=>by
   rw[hRS]
   exact whole_use W (hlg.kept hu (fun _ _ e=>e)) hat.ok ((hu.block _ (lt_of_heap hat.box) (fun e=>e)).trans hat.box) (hat.dsk.kept hu (fun _ _ e=>e)) hat.dok (by have:=hat.fuel;omega) hgf hfb ⟨hyu.1,hyf⟩
  have hz:((Y.parts.length:Int) == 0)=decide (Y.parts=[]):=by
   cases hp:Y.parts<;> simp
   omega
  have hv1:IntKind.i64.wrap (Y.h.place+Y.used)=Y.h.place+Y.used:=by rw[IntKind.wrap_i64];omega
  have hv2:IntKind.i64.wrap (Y.h.area - Y.used)=Y.h.area - Y.used:=by rw[IntKind.wrap_i64];omega
  have hfu:=hat.fuel
  have hlg0:=hlg
  obtain⟨PV,vs,hl1,hl2⟩:=hlg
  obtain⟨pa,pc,rfl⟩:=rowV hl1.row
  have HM:=hid hl1.main;have HAT2:=hid hat;have HLG:=hid hlg0;have HGF:=hid hgf;have HFB:=hid hfb;have HFQ:=hid hfq;have HWH:=hid hwh;have HRS:=hid hRS;have HBX:=hid hat.box;have HYO:=hid hat.ok;have HG':=hid hG'
  have hA:Upd F ws ws.drew:=(Upd.refl _ ws).drew
  clear hat hl1 hl2 hlg0 hgf hfb hfq hwh hRS hG' HAT
  go_upto_region 2 with fail
  refine wp_region_G 40 (fun W=>Upd F ws W) [false,false,false,false,false,false,false,false,false,false,false,false,false,false,false,false,false,false,false,false,false,false,false,false,false,false,false,false,false,false,false,false,false,false,false,false,false,false,false,false,false] rfl (by kernel_rfl) ?_
  refine tqZ 0 (.pointer (some ⟨q,0,none⟩)) [37,34,33,3,2,1] hA (fun w5 q1=>?_) ?_
  ·have cc:w5.cell? ⟨w.heap.size,0,none⟩=some (.pointer (some ⟨q,0,none⟩)):=by simp[World.cell?,(q1.block _ (lt_of_heap HBX.out) HFB.out).trans HBX.out]
   go_simp
  simp only[pZ,nZ,bZ,List.set]
  refine tqZ 1 (.pointer (some ⟨q,0,none⟩)) [37,34,33,3,2] hA (fun w5 q1=>?_) ?_
  ·go_simp
  simp only[pZ,nZ,bZ,List.set]
  refine tqZ 2 (.pointer (some ⟨q,0,none⟩)) [37,34,33,3] hA (fun w5 q1=>?_) ?_
  ·go_simp
  simp only[pZ,nZ,bZ,List.set]
  refine tqZ 3 (Y.h.val) [37,34,33] hA (fun w5 q1=>?_) ?_
  ·refine run_load_mid' rfl rfl [.int .i64 Y.h.turn,.int .i64 Y.h.area,.int .i64 Y.h.place,.int .i64 Y.h.number] (fun j v hj=>?_) Tryz.underlying184 rfl Tryz.size107r
   have hm:=(q1.block _ (lt_of_heap HM.out) HFQ.out).trans HM.out
   match j,hj with
   | 0,hj=>simp at hj;subst hj;simp[World.cell?,hm,Lg.cells]
   | 1,hj=>simp at hj;subst hj;simp[World.cell?,hm,Lg.cells]
   | 2,hj=>simp at hj;subst hj;simp[World.cell?,hm,Lg.cells]
   | 3,hj=>simp at hj;subst hj;simp[World.cell?,hm,Lg.cells]
   |j+4,hj=>simp at hj
  simp only[pZ,nZ,bZ,List.set]
  refine tqZ 4 (.pointer (some ⟨q,0,none⟩)) [37,34,33,5] hA (fun w5 q1=>?_) ?_
  ·have cc:w5.cell? ⟨w.heap.size,0,none⟩=some (.pointer (some ⟨q,0,none⟩)):=by simp[World.cell?,(q1.block _ (lt_of_heap HBX.out) HFB.out).trans HBX.out]
   go_simp
  simp only[pZ,nZ,bZ,List.set]
  refine tqZ 6 (.pointer (some ⟨q,0,none⟩)) [37,34,33,15,10,9,8,7] hA (fun w5 q1=>?_) ?_
  ·have cc:w5.cell? ⟨w.heap.size,0,none⟩=some (.pointer (some ⟨q,0,none⟩)):=by simp[World.cell?,(q1.block _ (lt_of_heap HBX.out) HFB.out).trans HBX.out]
   go_simp
  simp only[pZ,nZ,bZ,List.set]
  refine tqZ 7 (.pointer (some ⟨q,0,none⟩)) [37,34,33,15,10,9,8] hA (fun w5 q1=>?_) ?_
  ·go_simp
  simp only[pZ,nZ,bZ,List.set]
  refine tqZ 8 (.pointer (some ⟨q,0,none⟩)) [37,34,33,15,10,9] hA (fun w5 q1=>?_) ?_
  ·go_simp
  simp only[pZ,nZ,bZ,List.set]
  refine tqZ 9 (.pointer (some ⟨q,2,none⟩)) [37,34,33,15,10] hA (fun w5 q1=>?_) ?_
  ·go_simp
  simp only[pZ,nZ,bZ,List.set]
  refine tqZ 10 (.int .i64 Y.h.place) [37,34,33,15] hA (fun w5 q1=>?_) ?_
  ·have cc:w5.cell? ⟨q,2,none⟩=some (.int .i64 Y.h.place):=by simp[World.cell?,(q1.block _ (lt_of_heap HM.out) HFQ.out).trans HM.out,Lg.cells]
   go_simp
  simp only[pZ,nZ,bZ,List.set]
  refine tqZ 11 (.pointer (some ⟨q,0,none⟩)) [37,34,33,15,14,13,12] hA (fun w5 q1=>?_) ?_
  ·have cc:w5.cell? ⟨w.heap.size,0,none⟩=some (.pointer (some ⟨q,0,none⟩)):=by simp[World.cell?,(q1.block _ (lt_of_heap HBX.out) HFB.out).trans HBX.out]
   go_simp
  simp only[pZ,nZ,bZ,List.set]
  refine tqZ 12 (.pointer (some ⟨q,0,none⟩)) [37,34,33,15,14,13] hA (fun w5 q1=>?_) ?_
  ·go_simp
  simp only[pZ,nZ,bZ,List.set]
  refine tqZ 13 (.pointer (some ⟨q,6,none⟩)) [37,34,33,15,14] hA (fun w5 q1=>?_) ?_
  ·go_simp
  simp only[pZ,nZ,bZ,List.set]
  refine tqZ 14 (.int .i64 Y.used) [37,34,33,15] hA (fun w5 q1=>?_) ?_
  ·have cc:w5.cell? ⟨q,6,none⟩=some (.int .i64 Y.used):=by simp[World.cell?,(q1.block _ (lt_of_heap HM.out) HFQ.out).trans HM.out,Lg.cells]
   go_simp
  simp only[pZ,nZ,bZ,List.set]
  refine tqZ 15 (.int .i64 (Y.h.place+Y.used)) [37,34,33] hA (fun w5 q1=>?_) ?_
  ·go_simp
  simp only[pZ,nZ,bZ,List.set]
  refine tqZ 16 (.pointer (some ⟨q,0,none⟩)) [37,34,33,21,20,19,18,17] hA (fun w5 q1=>?_) ?_
  ·have cc:w5.cell? ⟨w.heap.size,0,none⟩=some (.pointer (some ⟨q,0,none⟩)):=by simp[World.cell?,(q1.block _ (lt_of_heap HBX.out) HFB.out).trans HBX.out]
   go_simp
  simp only[pZ,nZ,bZ,List.set]
  refine tqZ 17 (.pointer (some ⟨q,0,none⟩)) [37,34,33,21,20,19,18] hA (fun w5 q1=>?_) ?_
  ·go_simp
  simp only[pZ,nZ,bZ,List.set]
  refine tqZ 18 (.pointer (some ⟨q,5,none⟩)) [37,34,33,21,20,19] hA (fun w5 q1=>?_) ?_
  ·go_simp
  simp only[pZ,nZ,bZ,List.set]
  refine tqZ 19 (.slice pa Y.parts.length pc) [37,34,33,21,20] hA (fun w5 q1=>?_) ?_
  ·have cc:w5.cell? ⟨q,5,none⟩=some (.slice pa Y.parts.length pc):=by simp[World.cell?,(q1.block _ (lt_of_heap HM.out) HFQ.out).trans HM.out,Lg.cells]
   go_simp
  simp only[pZ,nZ,bZ,List.set]
  refine tqZ 20 (.int .i64 Y.parts.length) [37,34,33,21] hA (fun w5 q1=>?_) ?_
  ·go_simp
  simp only[pZ,nZ,bZ,List.set]
  refine tqZ 21 (.bool (decide (Y.parts=[]))) [37,34,33] hA (fun w5 q1=>?_) ?_
  ·go_simp
  simp only[pZ,nZ,bZ,List.set]
  refine tqZ 22 (.pointer (some ⟨q,0,none⟩)) [37,34,33,31,26,25,24,23] hA (fun w5 q1=>?_) ?_
  ·have cc:w5.cell? ⟨w.heap.size,0,none⟩=some (.pointer (some ⟨q,0,none⟩)):=by simp[World.cell?,(q1.block _ (lt_of_heap HBX.out) HFB.out).trans HBX.out]
   go_simp
  simp only[pZ,nZ,bZ,List.set]
  refine tqZ 23 (.pointer (some ⟨q,0,none⟩)) [37,34,33,31,26,25,24] hA (fun w5 q1=>?_) ?_
  ·go_simp
  simp only[pZ,nZ,bZ,List.set]
  refine tqZ 24 (.pointer (some ⟨q,0,none⟩)) [37,34,33,31,26,25] hA (fun w5 q1=>?_) ?_
  ·go_simp
  simp only[pZ,nZ,bZ,List.set]
  refine tqZ 25 (.pointer (some ⟨q,1,none⟩)) [37,34,33,31,26] hA (fun w5 q1=>?_) ?_
  ·go_simp
  simp only[pZ,nZ,bZ,List.set]
  refine tqZ 26 (.int .i64 Y.h.area) [37,34,33,31] hA (fun w5 q1=>?_) ?_
  ·have cc:w5.cell? ⟨q,1,none⟩=some (.int .i64 Y.h.area):=by simp[World.cell?,(q1.block _ (lt_of_heap HM.out) HFQ.out).trans HM.out,Lg.cells]
   go_simp
  simp only[pZ,nZ,bZ,List.set]
  refine tqZ 27 (.pointer (some ⟨q,0,none⟩)) [37,34,33,31,30,29,28] hA (fun w5 q1=>?_) ?_
  ·have cc:w5.cell? ⟨w.heap.size,0,none⟩=some (.pointer (some ⟨q,0,none⟩)):=by simp[World.cell?,(q1.block _ (lt_of_heap HBX.out) HFB.out).trans HBX.out]
   go_simp
  simp only[pZ,nZ,bZ,List.set]
  refine tqZ 28 (.pointer (some ⟨q,0,none⟩)) [37,34,33,31,30,29] hA (fun w5 q1=>?_) ?_
  ·go_simp
  simp only[pZ,nZ,bZ,List.set]
  refine tqZ 29 (.pointer (some ⟨q,6,none⟩)) [37,34,33,31,30] hA (fun w5 q1=>?_) ?_
  ·go_simp
  simp only[pZ,nZ,bZ,List.set]
  refine tqZ 30 (.int .i64 Y.used) [37,34,33,31] hA (fun w5 q1=>?_) ?_
  ·have cc:w5.cell? ⟨q,6,none⟩=some (.int .i64 Y.used):=by simp[World.cell?,(q1.block _ (lt_of_heap HM.out) HFQ.out).trans HM.out,Lg.cells]
   go_simp
  simp only[pZ,nZ,bZ,List.set]
  refine tqZ 31 (.int .i64 (Y.h.area - Y.used)) [37,34,33] hA (fun w5 q1=>?_) ?_
  ·go_simp
  simp only[pZ,nZ,bZ,List.set]
  refine tqZ 32 (.func (.func 171) #[] #[.pointer (some ⟨w.heap.size,0,none⟩)]) [37,34,33] hA (fun w5 q1=>?_) ?_
  ·go_simp
  simp only[pZ,nZ,bZ,List.set]
  refine wpG_doIf (i:=5) rfl (by kernel_rfl) rfl (fun K hK=>?_)
  have HKK:=hid hK
  clear hK
  go_step
  refine(next_any _ (HLG.out.kept hA HGF.out) HYO.out).mono ?_
  rintro e w6 ⟨rfl,hu6⟩
  have hA2:Upd F ws w6:=hA.trans (hu6.mono (fun _ _ e=>e.elim))
  have HU6:RowKit.Hid (Upd (fun _=>False) ws w6):=hid ((Upd.refl _ ws).drew.trans hu6)
  clear hA hu6
  simp only[]
  refine HKK.out _ _ hA2 ?_
  clear HKK
  simp only[List.setIfInBounds_toArray,List.set]
  refine wpG_doIf (i:=33) rfl (by kernel_rfl) rfl (fun K hK=>?_)
  have HKK:=hid hK
  clear hK
  go_step
  refine(HWH.out _ HU6.out).mono ?_
  rintro e w7 hw7
  obtain⟨v,rfl,hlg7,hd7,hu7,hv7⟩:=hw7
  have hA3:Upd F ws w7:=hA2.trans hu7
  have HLG7:=hid hlg7;have HD7:=hid hd7;have HU7:=hid hu7;have HV7:=hid hv7
  clear hA2 hu7 hlg7 hd7 hv7
  simp only[]
  refine HKK.out _ _ hA3 ?_
  clear HKK
  simp only[List.setIfInBounds_toArray,List.set]
  refine tqZ 34 (.tuple #[v,.bool RS.1.isSome,.int .i64 RS.2.1]) [37] hA3 (fun w5 q1=>?_) ?_
  ·go_simp
  simp only[pZ,nZ,bZ,List.set]
  refine tqZ 35 (v) [39,38] hA3 (fun w5 q1=>?_) ?_
  ·go_simp
  simp only[pZ,nZ,bZ,List.set]
  refine tqZ 36 (.bool RS.1.isSome) [39] hA3 (fun w5 q1=>?_) ?_
  ·go_simp
  simp only[pZ,nZ,bZ,List.set]
  refine tqZ 37 (.int .i64 RS.2.1) [] hA3 (fun w5 q1=>?_) ?_
  ·go_simp
  simp only[pZ,nZ,bZ,List.set]
  refine tqZ 38 (v) [39] hA3 (fun w5 q1=>?_) ?_
  ·go_simp
  simp only[pZ,nZ,bZ,List.set]
  refine tqZ 39 (.bool RS.1.isSome) [] hA3 (fun w5 q1=>?_) ?_
  ·go_simp
  simp only[pZ,nZ,bZ,List.set]
  refine wpG_tail_lit (k:=40) rfl rfl (by kernel_rfl) ?_
  simp only[List.drop]
  have hdk7:=wholeD_ok (hd:=Y.h) (number:=Y.h.number+Y.parts.length) (place:=Y.h.place+Y.used) (left:=Y.h.area - Y.used) (snap:=decide (Y.parts=[])) (by omega) HAT2.out.dok
  rw[←HRS.out] at hdk7
  have HDK7:=hid hdk7;have HA3:=hid hA3
  clear hdk7 hA3 hv1 hv2 hz HM HWH
  rcases hob:RS.1 with _ | b
  ·have hRE:RES=(Y.parts,RS.2):=by
    rw[←HAT2.out.res,←HAT2.out.hd,found_none (by omega) (by rw[←HRS.out];exact hob),←HRS.out]
   have HRE:=hid hRE;have HOB:=hid hob
   clear hRE hob
   have hpost: ∃Y' G'' D',(Ending.returned (.int .i64 RS.2.1))=.returned (.int .i64 RES.2.1)∧Y'.h=X.h∧Y'.broken=X.broken∧Y'.parts=RES.1∧Y'.used=usedOf Y'.parts∧Y'.used≤Y'.h.area∧Y'.Ok∧D'=RES.2.2∧Log w7 q p Y' G''∧(∀k,G'' k→G k∨w.heap.size≤k)∧Dsk w7 p D' F∧D'.Ok (N+1001000)∧Upd (fun k=>G k∨F k) w w7:=by
    have h:=HAT2.out
    refine⟨Y,G',RS.2.2,by rw[HRE.out],h.hd,h.brk,by rw[HRE.out],h.used,h.fits,h.ok,by rw[HRE.out],HLG7.out,fun k hk=>?_,HD7.out,Dk.Ok.mono HDK7.out (by omega),h.upd.step HA3.out (fun k _ e=>.inr e)⟩
    rcases HG'.out k hk with e | e
    ·exact .inl e
    ·exact .inr (by omega)
   have HPO:=hid hpost
   clear hpost
   by_cases hE:RS.2.1=0
   ·have hEb:(RS.2.1 !=0)=false:=by simpa using hE
    simp only[Option.isSome]
    go_wp2
    go_ret
    exact HPO.out
   ·have hEb:(RS.2.1 !=0)=true:=by simpa using hE
    simp only[Option.isSome]
    go_wp2
    go_ret
    exact HPO.out
  ·obtain⟨hE,hsl,hbl⟩:=wholeD_some (b:=b) (by rw[←HRS.out];exact hob)
   rw[←HRS.out] at hE
   obtain⟨hv1,hv2⟩:=HV7.out b hob
   have hRSe:RS=(some b,0,RS.2.2):=by rw[←hob,←hE]
   have HRSE:=hid hRSe;have HV1:=hid hv1;have HV2:=hid hv2
   rw[hE]
   have hsp:=secsN_pos b.length
   have hcn:=HAT2.out.cnt
   have hbx7:=(HA3.out.block _ (lt_of_heap HBX.out) HFB.out).trans HBX.out
   have cc7:w7.cell? ⟨w.heap.size,0,none⟩=some (.pointer (some ⟨q,0,none⟩)):=cells1_of hbx7
   clear hRSe hv1 hv2 hob hE HV7 hbx7
   simp only[Option.isSome]
   go_wp2_with (go_at_call 117;fail)
   refine(adds_any (B:=w6.heap.size) w7 HLG7.out HYO.out (by omega) HV1.out (fun k hk e=>by have:=(World.ownsRow.lt HV1.out k hk).1;have:=HLG.out.lt k e;have:=HU6.out.size;omega) hbl).mono ?_
   rintro e w8 ⟨rfl,⟨G2,hlg8,hG2⟩,hu8⟩
   have hnx:FndAt w q p X (Y.add b) RES (gk - 1) RS.2.2 G F N w8:=by
    have h:=HAT2.out
    refine h.more (G2:=G2) (by rw[←HRS.out];exact HRSE.out) HV2.out hlg8 (fun k hk=>?_) (HD7.out.kept hu8 (fun k hk e=>HGF.out k e hk)) ((h.upd.step HA3.out (fun k _ e=>.inr e)).step hu8 (fun k hk e=>?_)) ((hu8.block _ (lt_of_heap ((HA3.out.block _ (lt_of_heap HBX.out) HFB.out).trans HBX.out)) (fun e=>?_)).trans ((HA3.out.block _ (lt_of_heap HBX.out) HFB.out).trans HBX.out))
    ·have hs1:=lt_of_heap HBX.out;have hs2:=HU6.out.size;have hs3:=HU7.out.size
     rcases hG2 k hk with e | e | e
     ·exact HG'.out k e
     ·have:=(World.ownsRow.lt HV1.out k e).1
      exact .inr (by omega)
     ·exact .inr (by omega)
    ·rcases HG'.out k e with e | e
     ·exact .inl e
     ·omega
    ·rcases HG'.out _ e with e | e
     ·have:=HGL.out _ e;omega
     ·omega
   have HNX:=hid hnx
   clear hlg8 hG2 hu8 hnx
   simp only[]
   go_wp2
   go_roundg (gk - 1)
   case measure=>omega
   case rel=>exact⟨_,_,_,rfl,HNX.out⟩
end
end Go.Proofs.YtbimkhdiplnbfaaGreat
