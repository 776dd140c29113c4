/- Walks. -/
import Derived.Test.YtbimkhdiplnbfaaGreatU23
import Derived.Test.YtbimkhdiplnbfaaGreatU26
set_option linter.unusedVariables false
set_option linter.unusedSimpArgs false
namespace Go.Proofs.YtbimkhdiplnbfaaGreat
set_option maxRecDepth 1000000
set_option maxHeartbeats 16000000
variable {snap:Bool} {D:Dk} {hd:Hd} {left number place t:Int} {X:Lg} {b bs s:List Int} {N bx f kk n p q:Nat} {F G:Nat→Prop} {st:Option (List Int)} {R:Option (List Int)×Int×Dk} {many turn:Value} {W W' w:World}
section
open Go.RowKit Go.Shelf
structure TcAt (w:World) (tb ob:Nat) (ev:Int) (fl:Bool) (st:Option (List Int)) (bad:Bool) (l:List SetV) (W:World):Prop where
 tk:TkS w W tb st bad
 out: ∃(C:Nat→Prop) (a:Option Addr) (c:Nat),W.heap[ob]?=some (.cells #[.int .u64 ev,.bool fl,.slice a l.length c] 56 (0,0))∧SetRow W (ob+1) C (.slice a l.length c) l∧RowC W C∧ ∀k,C k→ob<k
 res:W.heap[w.heap.size]?=some (.cells #[.int .u64 0,.bool false,.slice none 0 0] 56 (0,0))
theorem Zk1 {tb:Nat}(n:Nat)(hn:n≤1000000)(w:World)(W:World)(b:Bool)(st:Option (List Int))(h:TkS w W tb st b):
  Calls Tryz.prog 86 #[.pointer (some ⟨tb,0,none⟩),.int .i64 n] W fun e w'=> ∃u,e=.returned u∧BytesIn w' u (takeT n st).1∧TkS w w' tb (takeS n st).2 b∧Upd (fun k=>k=tb) W w':=by
 refine(Zj6 w W h hn).mono ?_
 rintro e w' ⟨u,h1,h2,h3,h4⟩
 rw[Zee] at h3
 exact⟨u,h1,h2,h3,h4⟩
theorem SetRow.block73 {B:Nat}{C:Nat→Prop}{sv:Value}{l:List SetV}(h:SetRow w B C sv l){k:Nat}(hk:sv.ownBlock=some k): ∃cs,w.heap[k]?=some (.cells cs 73 (0,0)):=by
 obtain⟨L,_,h1,_⟩:=h
 rcases h1.2 with ⟨h4,_⟩ | ⟨g,a1,a0,e,hb,hg,_⟩
 ·rw[h4] at hk;simp[Value.ownBlock] at hk
 ·rw[e] at hk
  simp only[Value.ownBlock] at hk
  injection hk with hk
  subst hk
  exact⟨_,hg⟩
theorem SetRow.apart {B:Nat}{C D:Nat→Prop}{sv:Value}{l:List SetV}(h:SetRow w B C sv l)(hd:RowC w D): ∀k,D k→ ¬sv.ownBlock=some k:=fun k hk e=>by
 obtain⟨cs,h1⟩:=h.block73 e
 obtain⟨ds,h2⟩:=hd k hk
 rw[h1] at h2
 injection h2 with h2
 injection h2 with _ h2
 cases h2
theorem Zfr (h: ∀bs,st=some bs→Bytes bs):(Zbt st).length≤65535∧Bytes (Zbt st):=by
 have h1: ∀bs,(numS 1 st).2=some bs→Bytes bs:=Yr h
 have h2: ∀bs,(numS 2 (numS 1 st).2).2=some bs→Bytes bs:=Yr h1
 have hb:=Ym (n:=2) h1
 refine⟨?_,Zg0 h2⟩
 unfold Zbt
 rw[Zbp]
 omega
theorem Zby {r:List Int}(h:(takeS n st).2=some r): ∃q,st=some q:=by
 cases st with
 |none=>simp[takeS] at h
 |some q=>exact⟨q,rfl⟩
theorem Zgl {bad:Bool}{r:List Int}(h:(Z8 st bad).2.2.1=some r): ∃q,st=some q:=by
 obtain⟨_,h⟩:=Zby h
 obtain⟨_,h⟩:=Zby h
 exact Zby h
theorem Ze2 {va:Option Addr}{vc:Nat}(w:World)(hv:BytesIn w (.slice va bs.length vc) bs)(hB:Bytes bs)(hl:bs.length≤1099511627776):
  Calls Tryz.prog 26 #[.slice va bs.length vc] w (DecAns w bs):=by
 obtain⟨tb,p0⟩: ∃tb,tb=w.heap.size+1:=⟨_,rfl⟩
 obtain⟨n0,n9⟩: ∃n0,n0=bs.length:=⟨_,rfl⟩
 have v7:TkS w ((w.alloc (.cells #[.int .u64 0,.bool false,.slice none 0 0] 56)).alloc (.cells #[.slice va n0 vc,.bool false,.bool false] 152)) tb (some bs) false:=by
  refine⟨⟨by omega,((Upd.refl _ w).alloc _).alloc _⟩,_,Zc (by rw[p0];simp),?_,hB⟩
  rw[n9];exact hv
 have l4:((w.alloc (.cells #[.int .u64 0,.bool false,.slice none 0 0] 56)).alloc (.cells #[.slice va n0 vc,.bool false,.bool false] 152)).heap[w.heap.size]?=some (.cells #[.int .u64 0,.bool false,.slice none 0 0] 56 (0,0)):=by
  rw[Zm (by simp)]
  exact Zc rfl
 have HR:=V l4;have p7:=V v7;have p6:=V p0
 have f4:RowKit.Hid (∀W b st,TkS w W tb st b→Calls Tryz.prog 86 #[.pointer (some ⟨tb,0,none⟩),.int .i64 8] W fun e w'=> ∃u,e=.returned u∧BytesIn w' u (takeT 8 st).1∧TkS w w' tb (takeS 8 st).2 b∧Upd (fun k=>k=tb) W w'):=V (Zk1 8 (by omega) w)
 have c0:RowKit.Hid (∀W b st,TkS w W tb st b→Calls Tryz.prog 86 #[.pointer (some ⟨tb,0,none⟩),.int .i64 1] W fun e w'=> ∃u,e=.returned u∧BytesIn w' u [(numS 1 st).1]∧TkS w w' tb (numS 1 st).2 b∧Upd (fun k=>k=tb) W w'):=V (by
  intro W b st h
  rw[←Zi5]
  exact Zk1 1 (by omega) w W b st h)
 obtain⟨ev,s4⟩: ∃ev,ev=(numS 8 (some bs)).1:=⟨_,rfl⟩
 have l7:RowKit.Hid (∀W v,BytesIn W v (takeT 8 (some bs)).1→Calls Tryz.prog 85 #[v] W fun e w'=>e=.returned (.int .u64 ev)∧W=w'):=V (by
  intro W v hv
  have q:=Zhq W hv (Zg0 (fun b e=>by injection e with e;rw[←e];exact hB)) (by rw[Zbp];omega)
  rw[Ze8,←s4] at q
  exact q)
 rw[←n9]
 have A0:=V n9;have v4:=V s4
 clear hv hB v7 l4 p0 n9 s4
 go_enter Tryz.func26,Tryz.ntmps26
 go_wp2_with (go_at_call 86;fail)
 rw[←p6.o]
 generalize ((w.alloc (.cells #[.int .u64 0,.bool false,.slice none 0 0] 56)).alloc (.cells #[.slice va n0 vc,.bool false,.bool false] 152))=w1 at HR p7 ⊢
 refine(f4.o w1 false (some bs) p7.o).mono ?_
 rintro e w2 ⟨u,rfl,g1,g2,g3⟩
 obtain⟨ua,uc,rfl,_,_⟩:=g1.shape'
 have HG:=V g1;have HS:=V g2
 have HR:=V ((g3.block _ (Za HR.o) (by have:=p6.o;omega)).trans HR.o)
 clear g1 g2 g3
 simp only[]
 go_wp2_with (go_at_call 85;fail)
 refine(l7.o w2 _ HG.o).mono ?_
 rintro e w5 ⟨rfl,rfl⟩
 simp only[]
 go_upto_region 3 with fail
 obtain⟨ob,f3⟩: ∃ob,ob=w2.heap.size:=⟨_,rfl⟩
 obtain⟨w3,n4⟩: ∃w3,w3=w2.alloc (.cells #[.int .u64 ev,.bool false,.slice none 0 0] 56):=⟨_,rfl⟩
 rw[←n4,←f3]
 have q0:U0 w2 w3:=by rw[n4];exact(Upd.refl _ w2).alloc _
 have b3:w3.heap[ob]?=some (.cells #[.int .u64 ev,.bool false,.slice none 0 0] 56 (0,0)):=by rw[n4];exact Zc f3
 have y5:tb<ob:=by rw[f3];exact HS.o.lt
 have j7:w.heap.size<tb:=by have:=p6.o;omega
 obtain⟨s1,q6⟩: ∃s1,s1=(takeS 8 (some bs)).2:=⟨_,rfl⟩
 have o8:=HS.o.kept q0 id n3Z
 rw[←q6] at o8
 have HS:=V o8
 have HR:=V (kb q0 HR.o)
 have HO:=V b3
 have s8:=V q6
 clear f3 n4 q0 b3 q6 o8 l7 HG p7 f4
 go_wp2_with (go_at_call 86;fail)
 obtain⟨f1,s6⟩: ∃f1,f1=(numS 1 s1).1:=⟨_,rfl⟩
 obtain⟨s2,r0⟩: ∃s2,s2=(numS 1 s1).2:=⟨_,rfl⟩
 have hc:=c0.o w3 false s1 HS.o
 rw[←s6,←r0] at hc
 refine hc.mono ?_
 rintro e w4 ⟨u,rfl,g1,g2,g3⟩
 obtain⟨a1,c1,rfl,q1⟩:=g1.one
 obtain⟨v1,k1⟩:=g2.cells
 have b3:=(g3.block _ (Za HO.o) (by omega)).trans HO.o
 have HR:=V ((g3.block _ (Za HR.o) (by omega)).trans HR.o)
 obtain⟨z0,z1,z2⟩:=Zk k1
 obtain⟨y0,y1,y2⟩:=Zk b3
 have l0:w4.frozen? ⟨tb,2,none⟩=false:=Zb k1
 have A2:w4.frozen? ⟨ob,1,none⟩=false:=Zb b3
 have HS:=V g2;have HO:=V b3;have t0:=V s6;have v9:=V r0
 clear g1 g2 g3 k1 b3 s6 r0 hc
 simp only[]
 go_upto_region 5 with fail
 obtain⟨fl,p9⟩: ∃fl,fl=(f1 == 1):=⟨_,rfl⟩
 obtain⟨a4,g4⟩: ∃a4,a4=decide (1<f1):=⟨_,rfl⟩
 obtain⟨w5,n2⟩: ∃w5,w5=(w4.setCell ⟨ob,1,none⟩ (.bool fl)).setCell ⟨tb,2,none⟩ (.bool a4):=⟨_,rfl⟩
 rw[←p9,←g4,←n2]
 have u1:Upd (fun k=>k=ob) w4 (w4.setCell ⟨ob,1,none⟩ (.bool fl)):=Zd w4 ob 1 _
 have u2:Upd (fun k=>k=tb) (w4.setCell ⟨ob,1,none⟩ (.bool fl)) w5:=by rw[n2];exact Zd _ tb 2 _
 have t1:=HS.o.kept u1 (by omega) (fun k hk e=>by omega)
 have t2:=t1.setBad a4
 rw[←n2] at t2
 have o1:(w4.setCell ⟨ob,1,none⟩ (.bool fl)).heap[ob]?=some (.cells #[.int .u64 ev,.bool fl,.slice none 0 0] 56 (0,0)):=by
  have:=Ze (i:=1) (v:=.bool fl) HO.o
  simpa using this
 have o2:=(u2.block _ (Za o1) (by omega)).trans o1
 have r2:=(u2.block _ (by have:=Za HR.o;have:=u1.size;omega) (by omega)).trans ((u1.block _ (Za HR.o) (by omega)).trans HR.o)
 have HS:=V t2;have HO:=V o2;have HR:=V r2;have t9:=V p9;have t7:=V g4
 clear n2 u1 u2 t1 t2 o1 o2 r2 z0 z1 z2 y0 y1 y2 l0 A2 p9 g4 q1
 go_wp2_with (go_at_call 86;fail)
 obtain⟨cn,n6⟩: ∃cn,cn=(numS 1 s2).1:=⟨_,rfl⟩
 obtain⟨a8,g5⟩: ∃a8,a8=(numS 1 s2).2:=⟨_,rfl⟩
 have s3:=Ym (n:=1) HS.o.bytes
 have hc:=c0.o w5 a4 s2 HS.o
 rw[←n6] at s3
 rw[←n6,←g5] at hc
 refine hc.mono ?_
 rintro e w6 ⟨u,rfl,g1,g2,g3⟩
 obtain⟨a1,c1,rfl,q1⟩:=g1.one
 have a6:RowKit.Hid (Zad bs=(⟨ev,fl,(Zw cn.toNat a8 a4).1⟩,(Zw cn.toNat a8 a4).2.1,(Zw cn.toNat a8 a4).2.2)):=V (by
  have e1:(numS 8 (some bs)).2=s1:=s8.o.symm
  simp only[Zad]
  rw[e1,←t0.o,←v9.o,←n6,←g5,←v4.o,←t9.o,←t7.o])
 have hD:TcAt w tb ob ev fl a8 a4 [] w6:=⟨g2,⟨fun _=>False,none,0,(g3.block _ (Za HO.o) (by omega)).trans HO.o,SetRow.nil _ _ _,fun k hk=>hk.elim,fun k hk=>hk.elim⟩,(g3.block _ (Za HR.o) (by omega)).trans HR.o⟩
 have HD:=V hD
 have y9:cn≤255:=by omega
 have o9:0≤cn:=s3.1
 have w7:IntKind.i64.wrap cn=cn:=by rw[IntKind.wrap_i64];omega
 clear g1 g2 g3 hD s3 hc n6 g5 HS HO HR
 simp only[]
 go_upto_region 6 with fail
 clear q1 w7
 obtain⟨c8,rfl⟩: ∃c8:Nat,cn=c8:=⟨cn.toNat,by omega⟩
 rw[show((c8:Int)).toNat=c8 by omega] at a6
 go_loopg [32] c8 (fun gk i wr=> ∃k:Nat,k≤c8∧gk=c8 - k∧i=.int .i64 k∧ ∃l,l.length=k∧(∀r,(Zw k a8 a4).2.1=some r→l=(Zw k a8 a4).1)∧TcAt w tb ob ev fl (Zw k a8 a4).2.1 (Zw k a8 a4).2.2 l wr)
 case atStart=>exact⟨0,Nat.zero_le _,rfl,rfl,[],rfl,fun _ _=>rfl,HD.o⟩
 case round=>
  obtain⟨k,hk,rfl,rfl,l,q7,k9,hd⟩:=hrel
  have HD:=V hd;have l9:=V k9;have o7:=V q7
  clear hd k9 q7
  by_cases z8:k<c8
  ·have A1:(k:Int)<c8:=by omega
   obtain⟨st,g6⟩: ∃st,st=(Zw k a8 a4).2.1:=⟨_,rfl⟩
   obtain⟨a7,d4⟩: ∃a7,a7=(Zw k a8 a4).2.2:=⟨_,rfl⟩
   have r5:=Zcy k a8 a4
   rw[←g6,←d4] at HD r5
   have p8:=HD.o.tk.bytes
   obtain⟨n1,k6⟩: ∃n1,n1=(numS 1 st).1:=⟨_,rfl⟩
   obtain⟨d1,c3⟩: ∃d1,d1=(numS 1 st).2:=⟨_,rfl⟩
   obtain⟨d6,d9⟩: ∃d6,d6=(takeT n1.toNat d1).1:=⟨_,rfl⟩
   obtain⟨d7,b1⟩: ∃d7,d7=(takeS n1.toNat d1).2:=⟨_,rfl⟩
   obtain⟨m3,h9⟩: ∃m3,m3=Z8 d7 a7:=⟨_,rfl⟩
   obtain⟨m4,i6⟩: ∃m4,m4=Z8 m3.2.2.1 m3.2.2.2:=⟨_,rfl⟩
   obtain⟨n8,d2⟩: ∃n8,n8=Zbt d7:=⟨_,rfl⟩
   obtain⟨m8,d3⟩: ∃m8,m8=Zbt m3.2.2.1:=⟨_,rfl⟩
   have j9:=Ym (n:=1) p8
   rw[←k6] at j9
   have i9: ∀bs,d1=some bs→Bytes bs:=by rw[c3];exact Yr p8
   have g8: ∀bs,d7=some bs→Bytes bs:=by rw[b1];exact Yr i9
   have k0: ∀bs,m3.2.2.1=some bs→Bytes bs:=by rw[h9];exact(Zd0 g8 a7).2.2
   have y4:((n1.toNat:Nat):Int)=n1:=by omega
   have t6:RowKit.Hid (∀W,TkS w W tb st a7→Calls Tryz.prog 86 #[.pointer (some ⟨tb,0,none⟩),.int .i64 1] W fun e w'=> ∃u,e=.returned u∧BytesIn w' u [n1]∧TkS w w' tb d1 a7∧Upd (fun k=>k=tb) W w'):=V (by
    intro W hW
    rw[k6,c3]
    exact c0.o W a7 st hW)
   have u0:RowKit.Hid (∀W,TkS w W tb d1 a7→Calls Tryz.prog 86 #[.pointer (some ⟨tb,0,none⟩),.int .i64 n1] W fun e w'=> ∃u,e=.returned u∧BytesIn w' u d6∧TkS w w' tb d7 a7∧Upd (fun k=>k=tb) W w'):=V (by
    intro W hW
    have q:=Zk1 n1.toNat (by omega) w W a7 d1 hW
    rw[y4,←d9,←b1] at q
    exact q)
   have v3:RowKit.Hid (∀W,TkS w W tb d7 a7→Calls Tryz.prog 87 #[.pointer (some ⟨tb,0,none⟩)] W fun e w'=> ∃u,e=.returned (.tuple #[.bool m3.1,u])∧OwnB w' W.heap.size u n8∧TkS w w' tb m3.2.2.1 m3.2.2.2∧Upd (fun k=>k=tb) W w'):=V (by
    intro W hW
    have q:=Zm4 w W hW
    rw[←h9,←d2] at q
    exact q)
   have u5:RowKit.Hid (∀W,TkS w W tb m3.2.2.1 m3.2.2.2→Calls Tryz.prog 87 #[.pointer (some ⟨tb,0,none⟩)] W fun e w'=> ∃u,e=.returned (.tuple #[.bool m4.1,u])∧OwnB w' W.heap.size u m8∧TkS w w' tb m4.2.2.1 m4.2.2.2∧Upd (fun k=>k=tb) W w'):=V (by
    intro W hW
    have q:=Zm4 w W hW
    rw[←i6,←d3] at q
    exact q)
   obtain⟨x,hx⟩: ∃x:SetV,x=⟨strOfNums d6,m3.1,m4.1,n8,m8⟩:=⟨_,rfl⟩
   have u4:x.fine:=by
    obtain⟨p1,p2⟩:=Zfr g8
    obtain⟨p3,p4⟩:=Zfr k0
    have p5:=Zbp n1.toNat d1
    rw[hx]
    refine⟨?_,by simp only[d2];omega,by simp only[d3];omega,by simp only[d2];exact p2,by simp only[d3];exact p4⟩
    simp only[strOfNums_size,d9]
    omega
   have k3:(setS st a7).2=(m4.2.2.1,m4.2.2.2):=by
    simp only[setS,←k6,←c3,←b1,←h9,←i6]
   have t5: ∀r,m4.2.2.1=some r→(∃q,st=some q)∧x=(setS st a7).1:=by
    intro r hr
    have e4:=Zfq (i6 ▸ hr:(Z8 m3.2.2.1 m3.2.2.2).2.2.1=some r)
    obtain⟨q3,s9⟩:=Zgl (i6 ▸ hr:(Z8 m3.2.2.1 m3.2.2.2).2.2.1=some r)
    have e3:=Zfq (h9 ▸ s9:(Z8 d7 a7).2.2.1=some q3)
    obtain⟨q2,i7⟩:=Zgl (h9 ▸ s9:(Z8 d7 a7).2.2.1=some q3)
    have e2:=Zhi (b1 ▸ i7:(takeS n1.toNat d1).2=some q2)
    obtain⟨q1,z3⟩:=Zby (b1 ▸ i7:(takeS n1.toNat d1).2=some q2)
    refine⟨Zby (c3 ▸ z3:(takeS 1 st).2=some q1),?_⟩
    rw[hx,d9,e2,d2,e3,d3,e4]
    simp only[setS,←k6,←c3,←b1,←h9,←i6]
   have e9:(Zw (k+1) a8 a4).2=(m4.2.2.1,m4.2.2.2)∧ ∀r,m4.2.2.1=some r→l++[x]=(Zw (k+1) a8 a4).1:=by
    rw[r5]
    refine⟨k3,fun r hr=>?_⟩
    obtain⟨⟨q,hq⟩,e⟩:=t5 r hr
    rw[e,l9.o q (g6 ▸ hq)]
   have c9:=V e9;have A4:=V u4;have r8:=V hx
   have w7:IntKind.i64.wrap n1=n1:=by rw[IntKind.wrap_i64];omega
   have z4:IntKind.i64.wrap ((k:Int)+1)=(k:Int)+1:=by rw[IntKind.wrap_i64];omega
   clear g6 d4 r5 p8 k6 c3 d9 b1 h9 i6 d2 d3 j9 i9 g8 k0 y4 hx u4 k3 t5 e9 a6 l9
   go_upto_region 8 with fail
   obtain⟨b6,l2⟩: ∃b6,b6=wr.heap.size:=⟨_,rfl⟩
   obtain⟨w8,o0⟩: ∃w8,w8=wr.alloc (.cells #[.string ⟨#[]⟩,.bool false,.bool false,.slice none 0 0,.slice none 0 0] 73):=⟨_,rfl⟩
   rw[←o0,←l2]
   have s0:U0 wr w8:=by rw[o0];exact(Upd.refl _ wr).alloc _
   have u7:w8.heap[b6]?=some (.cells #[.string ⟨#[]⟩,.bool false,.bool false,.slice none 0 0,.slice none 0 0] 73 (0,0)):=by rw[o0];exact Zc l2
   have z5:tb<b6:=by rw[l2];exact HD.o.tk.lt
   have t8:=HD.o.tk.kept s0 id n3Z
   have HS:=V t8;have HX:=V u7;have HU:=V (s0.mono (G:=fun k=>k=tb) (fun _ _ e=>e.elim));have j3:=V l2
   clear o0 s0 u7 t8 l2
   go_wp2_with (go_at_call 86;fail)
   refine(t6.o _ HS.o).mono ?_
   rintro e w9 ⟨u,rfl,g1,g2,g3⟩
   obtain⟨a1,c1,rfl,q1⟩:=g1.one
   have HS:=V g2;have HX:=V ((g3.block _ (Za HX.o) (by omega)).trans HX.o);have HU:=V (HU.o.trans g3)
   clear g1 g2 g3 t6
   simp only[]
   go_wp2_with (go_at_call 86;fail)
   refine(u0.o _ HS.o).mono ?_
   rintro e n5 ⟨u,rfl,g1,g2,g3⟩
   obtain⟨a2,c2,rfl,_,_⟩:=g1.shape'
   have f5:=Yw g1
   have hx:=(g3.block _ (Za HX.o) (by omega)).trans HX.o
   obtain⟨x0,x1,x2,x3,x4⟩:=Zu hx
   have f0:n5.frozen? ⟨b6,0,none⟩=false:=Zb hx
   have HS:=V g2;have HX:=V hx;have HU:=V (HU.o.trans g3)
   clear g1 g2 g3 hx u0 q1
   simp only[]
   go_upto_region 9 with fail
   clear f5 x0 x1 x2 x3 x4 f0
   obtain⟨n3,d8⟩: ∃n3,n3=n5.setCell ⟨b6,0,none⟩ (.string (strOfNums d6)):=⟨_,rfl⟩
   rw[←d8]
   have h7:Upd (fun k=>k=b6) n5 n3:=by rw[d8];exact Zd n5 b6 0 _
   have k2:n3.heap[b6]?=some (.cells #[.string (strOfNums d6),.bool false,.bool false,.slice none 0 0,.slice none 0 0] 73 (0,0)):=by
    rw[d8]
    have:=Ze (i:=0) (v:=.string (strOfNums d6)) HX.o
    simpa using this
   have j7:w.heap.size<tb:=j7
   have HS:=V (HS.o.kept h7 (by omega) (fun k hk e=>by omega))
   have HU:=V (HU.o.step (F:=fun k=>k=tb) h7 (fun k hk e=>by have:=j3.o;omega))
   have HX:=V k2
   clear d8 h7 k2
   go_wp2_with (go_at_call 87;fail)
   refine(v3.o _ HS.o).mono ?_
   rintro e m7 ⟨u,rfl,g1,g2,g3⟩
   obtain⟨m1,x6,o4⟩:=g1.bytesAt
   obtain⟨ua,um,uc,rfl⟩:=m1.slice'
   have hx:=(g3.block _ (Za HX.o) (by omega)).trans HX.o
   have o4: ∀k,(Value.slice ua um uc).ownBlock=some k→b6<k:=fun k hk=>by have:=o4 k hk;have:=Za HX.o;omega
   obtain⟨x0,x1,x2,x3,x4⟩:=Zu hx
   have l0:m7.frozen? ⟨b6,1,none⟩=false:=Zb hx
   have r6:m7.frozen? ⟨b6,3,none⟩=false:=Zb hx
   have HX:=V hx;have HU:=V (HU.o.trans g3);have HS:=V g2;have M1:=V m1;have f9:=V x6;have n7:=V o4
   clear hx g1 g2 g3 m1 x6 o4 v3
   simp only[]
   go_wp2_with (go_at_call 87;fail)
   obtain⟨e8,e5⟩: ∃e8,e8=(m7.setCell ⟨b6,1,none⟩ (.bool m3.1)).setCell ⟨b6,3,none⟩ (.slice ua um uc):=⟨_,rfl⟩
   rw[←e5]
   have c7:Upd (fun k=>k=b6) m7 e8:=by rw[e5];exact(Zd m7 b6 1 _).trans (Zd _ b6 3 _)
   have l8:e8.heap[b6]?=some (.cells #[.string (strOfNums d6),.bool m3.1,.bool false,.slice ua um uc,.slice none 0 0] 73 (0,0)):=by
    rw[e5]
    have:=Ze (i:=3) (v:=.slice ua um uc) (Ze (i:=1) (v:=.bool m3.1) HX.o)
    simpa using this
   have HS:=V (HS.o.kept c7 (by omega) (fun k hk e=>by omega))
   have HU:=V (HU.o.step (F:=fun k=>k=tb) c7 (fun k hk e=>by have:=j3.o;omega))
   have hq: ∀k,(Value.slice ua um uc).ownBlock=some k→ ¬k=b6:=fun k hk e=>by have:=n7.out k hk;omega
   have HX:=V l8;have M1:=V (M1.out.kept c7 hq);have f9:=V (f9.out.kept c7 hq)
   clear e5 c7 l8 hq x0 x1 x2 x3 x4 l0 r6
   refine(u5.o _ HS.o).mono ?_
   rintro e l6 ⟨u,rfl,g1,g2,g3⟩
   obtain⟨m2,t3,o5⟩:=g1.bytesAt
   obtain⟨c5,c6,c4,rfl⟩:=m2.slice'
   have hx:=(g3.block _ (Za HX.o) (by omega)).trans HX.o
   have o5: ∀k,(Value.slice c5 c6 c4).ownBlock=some k→b6<k:=fun k hk=>by have:=o5 k hk;have:=Za HX.o;omega
   obtain⟨x0,x1,x2,x3,x4⟩:=Zu hx
   have l0:l6.frozen? ⟨b6,2,none⟩=false:=Zb hx
   have r6:l6.frozen? ⟨b6,4,none⟩=false:=Zb hx
   have hq: ∀k,(Value.slice ua um uc).ownBlock=some k→ ¬k=tb:=fun k hk e=>by have:=n7.out k hk;omega
   have HX:=V hx;have HU:=V (HU.o.trans g3);have HS:=V g2;have M2:=V m2;have o3:=V t3;have u8:=V o5
   have M1:=V (M1.out.kept g3 hq);have f9:=V (f9.out.kept g3 hq)
   clear hx g1 g2 g3 m2 t3 o5 u5 hq
   simp only[]
   go_upto_region 11 with fail
   obtain⟨d5,e7⟩: ∃d5,d5=(l6.setCell ⟨b6,2,none⟩ (.bool m4.1)).setCell ⟨b6,4,none⟩ (.slice c5 c6 c4):=⟨_,rfl⟩
   rw[←e7]
   have b2:Upd (fun k=>k=b6) l6 d5:=by rw[e7];exact(Zd l6 b6 2 _).trans (Zd _ b6 4 _)
   have h0:d5.heap[b6]?=some (.cells #[.string (strOfNums d6),.bool m3.1,.bool m4.1,.slice ua um uc,.slice c5 c6 c4] 73 (0,0)):=by
    rw[e7]
    have:=Ze (i:=4) (v:=.slice c5 c6 c4) (Ze (i:=2) (v:=.bool m4.1) HX.o)
    simpa using this
   have hs:=HS.o.kept b2 (by omega) (fun k hk e=>by omega)
   have hu:=HU.o.step (F:=fun k=>k=tb) b2 (fun k hk e=>by have:=j3.o;omega)
   have hq: ∀k,(Value.slice ua um uc).ownBlock=some k→ ¬k=b6:=fun k hk e=>by have:=n7.out k hk;omega
   have i7: ∀k,(Value.slice c5 c6 c4).ownBlock=some k→ ¬k=b6:=fun k hk e=>by have:=u8.out k hk;omega
   have M1:=V (M1.out.kept b2 hq);have f9:=V (f9.out.kept b2 hq)
   have M2:=V (M2.out.kept b2 i7);have o3:=V (o3.out.kept b2 i7)
   obtain⟨C,oa,oc,f8,f6,i5,i1⟩:=HD.o.out
   have z7:ob<b6:=by rw[j3.o];exact Za f8
   have x5: ∀k,C k→k<b6:=fun k hk=>by rw[j3.o];exact i5.lt k hk
   have h2:=(hu.block _ (Za f8) (by omega)).trans f8
   have g0:=f6.kept hu (fun k hk=>by
    obtain⟨L,_,q,_⟩:=f6
    have:=q.lt k hk
    intro e
    omega) (fun k hk e=>by have:=i1 k hk;omega)
   have j4:=i5.kept hu (fun k hk e=>by have:=i1 k hk;omega)
   obtain⟨x0,x1,x2,x3,x4⟩:=Zu h0
   have y2:=(Zk h2).2.2
   have j5:=V h2;have a5:=V g0;have i2:=V j4;have k8:=V i1;have A5:=V x5
   have HS:=V hs;have HU:=V hu;have HX:=V h0
   clear f8 f6 i5 i1 h2 g0 j4 e7 b2 h0 hq i7 l0 r6 hs hu x5
   iterate 13 go_step
   obtain⟨L,v6,s7,r7,t4⟩:=a5.o
   have o6:=s7.lt
   have v2:=o7.o
   have z6:ob<d5.heap.size:=Za j5.o
   have q4:elC (x,.slice ua um uc,.slice c5 c6 c4)=[.string (strOfNums d6),.bool m3.1,.bool m4.1,.slice ua um uc,.slice c5 c6 c4]:=by rw[r8.o];rfl
   obtain⟨i0,u9,v8,y3,u6⟩:=info_parts Tryz.info73p
   refine wpList_append_lies _ rfl (.tmp 58) (.tmp 60) 54 rfl (ob+1) 73 i0 _ 5 72 Tryz.underlying54 u9 v8 y3 u6 rfl (by omega) (.slice oa l.length oc) _ _ rfl (s7.alloc _) ⟨d5.heap.size,0,none⟩ 1 1 (elC (x,.slice ua um uc,.slice c5 c6 c4)) rfl
    rfl (World.news_of_block (cs:=(elC (x,.slice ua um uc,.slice c5 c6 c4)).toArray) (t:=73) (fr:=(0,0)) (by rw[q4];exact heap_alloc_new _ _)) (by rw[q4];simp[Value.oneCell']) (by omega) (by unfold maxLen;omega) (by omega) (by simp;omega) (d5.heap.size+1) (by simp) ?_
   intro g i8 h8 j8 f2 x9 A6
   have b0:Upd (fun k=>(Value.slice oa l.length oc).ownBlock=some k) d5 h8:=((Upd.refl _ d5).alloc _).trans (Upd.of_grown f2 (fun k hk=>hk))
   have b9:=(b0.block _ z6 (fun e=>by have:=o6 ob e;omega)).trans j5.o
   have z9:ob<g:=by
    rcases x9 with e | e
    ·have:=o6 g e;omega
    ·omega
   have y2:=(Zk b9).2.2
   have g2:h8.frozen? ⟨ob,2,none⟩=false:=Zb b9
   have r9:=a5.o.apart i2.o
   have k4:=a5.o.apart f9.out
   have m6:=a5.o.apart o3.out
   obtain⟨C',i4⟩: ∃C':Nat→Prop,C'=fun k=>C k∨(Value.slice ua um uc).ownBlock=some k∨(Value.slice c5 c6 c4).ownBlock=some k:=⟨_,rfl⟩
   have q9: ∀k,C k→C' k:=fun k hk=>by rw[i4];exact .inl hk
   have w0: ∀k,(Value.slice ua um uc).ownBlock=some k→C' k:=fun k hk=>by rw[i4];exact .inr (.inl hk)
   have u3: ∀k,(Value.slice c5 c6 c4).ownBlock=some k→C' k:=fun k hk=>by rw[i4];exact .inr (.inr hk)
   have i3:RowC d5 C':=fun k hk=>by
    rw[i4] at hk
    rcases hk with hk | hk | hk
    ·exact i2.o k hk
    ·exact f9.out k hk
    ·exact o3.out k hk
   have l3: ∀k,C' k→ob<k:=fun k hk=>by
    rw[i4] at hk
    rcases hk with hk | hk | hk
    ·exact k8.o k hk
    ·have:=n7.out k hk;omega
    ·have:=u8.out k hk;omega
   have j6:=a5.o.apart i3
   have m0:SetRow h8 (ob+1) C' (.slice (some ⟨g,0,none⟩) (l.length+1) i8) (l++[x]):=by
    refine⟨L++[(x,.slice ua um uc,.slice c5 c6 c4)],by rw[List.map_append,v6];rfl,?_,fun y hy=>?_,fun y hy=>?_⟩
    ·rw[List.flatMap_append,List.length_append]
     simpa using j8
    ·rw[List.mem_append] at hy
     rcases hy with hy | hy
     ·exact⟨((r7 y hy).1.kept b0 r9).mono q9,((r7 y hy).2.kept b0 r9).mono q9⟩
     ·simp only[List.mem_singleton] at hy
      subst hy
      refine⟨?_,?_⟩
      ·have:=(M1.out.kept b0 k4).mono w0;rw[r8.o];exact this
      ·have:=(M2.out.kept b0 m6).mono u3;rw[r8.o];exact this
    ·rw[List.mem_append] at hy
     rcases hy with hy | hy
     ·exact t4 y hy
     ·simp only[List.mem_singleton] at hy
      subst hy
      exact A4.o
   have f7:RowC h8 C':=i3.kept b0 j6
   have q5:=V m0;have k5:=V b9;have j1:=V b0;have r3:=V o6;have A7:=V v2;have j0:=V f7;have g9:=V l3
   clear m0 b9 b0 r9 k4 m6 j6 j8 f2 x9 u9 v8 y3 u6 v6 s7 r7 t4 o6 q4 x0 x1 x2 x3 x4 v2 i4 q9 w0 u3 i3 f7 l3
   go_wp2
   obtain⟨m5,h6⟩: ∃m5,m5=h8.setCell ⟨ob,2,none⟩ (.slice (some ⟨g,0,none⟩) (l.length+1) i8):=⟨_,rfl⟩
   rw[←h6]
   have e6:Upd (fun k=>k=ob) h8 m5:=by rw[h6];exact Zd h8 ob 2 _
   have l1:m5.heap[ob]?=some (.cells #[.int .u64 ev,.bool fl,.slice (some ⟨g,0,none⟩) (l.length+1) i8] 56 (0,0)):=by
    rw[h6]
    have:=Ze (i:=2) (v:=.slice (some ⟨g,0,none⟩) (l.length+1) i8) k5.o
    simpa using this
   have h1:(l++[x]).length=l.length+1:=by simp
   have n1: ∀j,j≤ob→ ¬(Value.slice oa l.length oc).ownBlock=some j:=fun j hj e=>by have:=r3.o j e;omega
   have y6:TcAt w tb ob ev fl (Zw (k+1) a8 a4).2.1 (Zw (k+1) a8 a4).2.2 (l++[x]) m5:=by
    rw[c9.o.1]
    refine⟨(HS.o.kept j1.o (n1 tb (by omega)) (fun j hj=>n1 j (by omega))).kept e6 (by omega) (fun j hj e=>by omega),⟨C',_,_,by rw[h1];exact l1,by rw[h1];exact q5.o.kept e6 (fun j hj e=>by simp[Value.ownBlock] at hj;omega) (fun j hj e=>by have:=g9.o j hj;omega),j0.o.kept e6 (fun j hj e=>by have:=g9.o j hj;omega),g9.o⟩,?_⟩
    have r1:=(HU.o.block _ (Za HD.o.res) (by omega)).trans HD.o.res
    have r2:=(j1.o.block _ (Za r1) (n1 _ (by omega))).trans r1
    exact(e6.block _ (Za r2) (by omega)).trans r2
   go_roundg (c8 - (k+1))
   case measure=>omega
   case rel=>exact⟨k+1,by omega,rfl,congrArg _ (by omega),l++[x],by rw[h1,o7.o],fun r hr=>c9.o.2 r (by rw[c9.o.1] at hr;exact hr),y6⟩
  ·obtain rfl:k=c8:=by omega
   obtain⟨st,g6⟩: ∃st,st=(Zw k a8 a4).2.1:=⟨_,rfl⟩
   obtain⟨a7,d4⟩: ∃a7,a7=(Zw k a8 a4).2.2:=⟨_,rfl⟩
   have g7:=a6.o
   rw[←g6,←d4] at HD g7
   rw[←g6] at l9
   have a6:=V g7
   have q7:l.length≤255:=by rw[o7.o];omega
   have a0:=V HD.o.res
   have h3:=V HD.o.tk.1.2
   clear g6 d4 g7 c0 A0 v4 s8 t0 v9 t9 t7 o7 y9 o9 hk z8
   cases st with
   |none=>
    obtain⟨ta,tn,tc,l5⟩:=HD.o.tk.2
    obtain⟨z0,z1,z2⟩:=Zk l5
    have a9:=V (Zhc a6.o)
    clear l5
    go_upto_region 14 with fail
    iterate 4 go_step
    refine wpList_store_mid rfl 56 (.tmp 2) (.tmp 69) rfl w.heap.size 0 #[.int .u64 0,.bool false,.slice none 0 0] rfl rfl (by have q:=Zq a0.o;exact q) Z9 (by simp[Value.oneCell']) ?_
    have b8:=Zi (vs:=[.int .u64 0,.bool false,.slice none 0 0]) a0.o rfl
    have b5:=Upd.setCells (F:=fun k=>k=w.heap.size) (b:=w.heap.size) rfl [.int .u64 0,.bool false,.slice none 0 0] 0 (Upd.refl _ wr)
    have b7:=run_loadVar_mid (P:=Tryz.prog) (wr.setCells w.heap.size 0 [.int .u64 0,.bool false,.slice none 0 0]) w.heap.size 0 56 [.int .u64 0,.bool false,.slice none 0 0] _ (Zh b8) Tryz.underlying56 rfl Z9
    have e0:=V b7;have d0:=V b5
    clear b8 b5 b7
    go_wp2
    refine bodyPost_ret (Zl Tryz.results26 rfl e0.o) rfl (Zaz a9.o (h3.o.step d0.o (fun j hj e=>by omega)))
   |some r4=>
    obtain⟨tv,l5,x7,A3⟩:=HD.o.tk.2
    obtain⟨ta,tc,rfl,_,_⟩:=x7.shape'
    obtain⟨z0,z1,z2⟩:=Zk l5
    have k9:=l9.o r4 rfl
    rw[←k9] at a6
    clear l5 x7 A3 k9 l9
    cases a7 with
    |true=>
     have a9:=V (Zcj a6.o rfl)
     go_upto_region 16 with fail
     iterate 4 go_step
     refine wpList_store_mid rfl 56 (.tmp 2) (.tmp 88) rfl w.heap.size 0 #[.int .u64 0,.bool false,.slice none 0 0] rfl rfl (by have q:=Zq a0.o;exact q) Z9 (by simp[Value.oneCell']) ?_
     have b8:=Zi (vs:=[.int .u64 0,.bool false,.slice none 0 0]) a0.o rfl
     have b5:=Upd.setCells (F:=fun k=>k=w.heap.size) (b:=w.heap.size) rfl [.int .u64 0,.bool false,.slice none 0 0] 0 (Upd.refl _ wr)
     have b7:=run_loadVar_mid (P:=Tryz.prog) (wr.setCells w.heap.size 0 [.int .u64 0,.bool false,.slice none 0 0]) w.heap.size 0 56 [.int .u64 0,.bool false,.slice none 0 0] _ (Zh b8) Tryz.underlying56 rfl Z9
     have e0:=V b7;have d0:=V b5
     clear b8 b5 b7
     go_wp2
     refine bodyPost_ret (Zl Tryz.results26 rfl e0.o) rfl (Zaz a9.o (h3.o.step d0.o (fun j hj e=>by omega)))
    |false=>
     by_cases v0:0<r4.length
     ·have a9:=V (Zcj a6.o (by simp[v0]))
      have q8:(r4.length:Int) > 0:=by omega
      go_upto_region 16 with fail
      iterate 4 go_step
      refine wpList_store_mid rfl 56 (.tmp 2) (.tmp 88) rfl w.heap.size 0 #[.int .u64 0,.bool false,.slice none 0 0] rfl rfl (by have q:=Zq a0.o;exact q) Z9 (by simp[Value.oneCell']) ?_
      have b8:=Zi (vs:=[.int .u64 0,.bool false,.slice none 0 0]) a0.o rfl
      have b5:=Upd.setCells (F:=fun k=>k=w.heap.size) (b:=w.heap.size) rfl [.int .u64 0,.bool false,.slice none 0 0] 0 (Upd.refl _ wr)
      have b7:=run_loadVar_mid (P:=Tryz.prog) (wr.setCells w.heap.size 0 [.int .u64 0,.bool false,.slice none 0 0]) w.heap.size 0 56 [.int .u64 0,.bool false,.slice none 0 0] _ (Zh b8) Tryz.underlying56 rfl Z9
      have e0:=V b7;have d0:=V b5
      clear b8 b5 b7
      go_wp2
      refine bodyPost_ret (Zl Tryz.results26 rfl e0.o) rfl (Zaz a9.o (h3.o.step d0.o (fun j hj e=>by omega)))
     ·have q8: ¬((r4.length:Int) > 0):=by omega
      have y8:=V v0
      obtain⟨C,oa,oc,f8,f6,i5,i1⟩:=HD.o.out
      obtain⟨y0,y1,y2⟩:=Zk f8
      have hs:=f6.setsAt.setsIn
      have k7:l.length≤oc:=by
       obtain⟨L,_,q,_⟩:=f6
       rcases q.2 with ⟨e,_⟩ | ⟨g,i8,y7,e,_,_,m1,_⟩
       ·injection e with _ e;omega
       ·injection e with _ _ e;omega
      have m9:=V (Zfe (B:=⟨ev,fl,l⟩) (c:=oc) wr hs (by simp only;omega) k7)
      unfold batchV at m9
      obtain⟨rg,s5⟩: ∃rg,rg=(⟨ev,fl,l⟩:BatchV).right:=⟨_,rfl⟩
      rw[←s5] at m9
      have x8:=V s5
      have j5:=V f8;have a5:=V f6;have i2:=V i5;have k8:=V i1
      clear s5 hs k7 f8 f6 i5 i1
      go_wp2_with (go_at_call 22;fail)
      refine m9.o.mono ?_
      rintro e e8 ⟨rfl,hu⟩
      have a0:=V (kb hu a0.o)
      have h3:=V (h3.o.trans hu)
      have f3:=kb hu j5.o
      have b4:=a5.o.kept hu n3Z n3Z
      have i3:=i2.o.kept hu n3Z
      obtain⟨y0,y1,y2⟩:=Zk f3
      have j5:=V f3;have a5:=V b4;have i2:=V i3
      clear hu f3 b4 i3 m9 z0 z1 z2
      simp only[]
      cases rg with
      |false=>
       have a9:=V (Zcj a6.o (by rw[←x8.o];simp))
       go_upto_region 16 with fail
       iterate 4 go_step
       refine wpList_store_mid rfl 56 (.tmp 2) (.tmp 88) rfl w.heap.size 0 #[.int .u64 0,.bool false,.slice none 0 0] rfl rfl (by have q:=Zq a0.o;exact q) Z9 (by simp[Value.oneCell']) ?_
       have b8:=Zi (vs:=[.int .u64 0,.bool false,.slice none 0 0]) a0.o rfl
       have b5:=Upd.setCells (F:=fun k=>k=w.heap.size) (b:=w.heap.size) rfl [.int .u64 0,.bool false,.slice none 0 0] 0 (Upd.refl _ e8)
       have b7:=run_loadVar_mid (P:=Tryz.prog) (e8.setCells w.heap.size 0 [.int .u64 0,.bool false,.slice none 0 0]) w.heap.size 0 56 [.int .u64 0,.bool false,.slice none 0 0] _ (Zh b8) Tryz.underlying56 rfl Z9
       have e0:=V b7;have d0:=V b5
       clear b8 b5 b7
       go_wp2
       refine bodyPost_ret (Zl Tryz.results26 rfl e0.o) rfl (Zaz a9.o (h3.o.step d0.o (fun j hj e=>by omega)))
      |true=>
       have j2:=Zqh a6.o (by rw[←x8.o,decide_eq_false y8.o];rfl)
       have a9:=V j2
       clear j2
       go_upto_region 17 with fail
       iterate 4 go_step
       refine wpList_store_mid rfl 56 (.tmp 2) (.tmp 89) rfl w.heap.size 0 #[.int .u64 ev,.bool fl,.slice oa l.length oc] rfl rfl (by have q:=Zq a0.o;exact q) Z9 (by simp[Value.oneCell']) ?_
       have b8:=Zi (vs:=[.int .u64 ev,.bool fl,.slice oa l.length oc]) a0.o rfl
       have b5:=Upd.setCells (F:=fun k=>k=w.heap.size) (b:=w.heap.size) rfl [.int .u64 ev,.bool fl,.slice oa l.length oc] 0 (Upd.refl _ e8)
       have b7:=run_loadVar_mid (P:=Tryz.prog) (e8.setCells w.heap.size 0 [.int .u64 ev,.bool fl,.slice oa l.length oc]) w.heap.size 0 56 [.int .u64 ev,.bool fl,.slice oa l.length oc] _ (Zh b8) Tryz.underlying56 rfl Z9
       have e0:=V b7;have d0:=V b5
       clear b8 b5 b7
       go_wp2
       refine bodyPost_ret (Zl Tryz.results26 rfl e0.o) rfl ?_
       have b4:=a5.o.kept d0.o (fun j hj e=>by
        obtain⟨L,_,q,_⟩:=a5.o
        have:=(q.lt j hj).1
        omega) (fun j hj e=>by have:=k8.o j hj;omega)
       have v5:=i2.o.kept d0.o (fun j hj e=>by have:=k8.o j hj;omega)
       unfold DecAns
       rw[a9.o]
       refine⟨oa,oc,rfl,⟨C,?_,v5,fun j hj=>by have:=k8.o j hj;omega,fun b o e hk=>by
        obtain⟨L,_,q,_⟩:=b4
        obtain⟨cs,f5⟩:=v5 b hk
        rcases q.2 with ⟨e1,_⟩ | ⟨g,i8,y7,e1,_,hg,_⟩
        ·injection e1 with e1;rw[e1] at e;cases e
        ·injection e1 with e1;rw[e1] at e;injection e with e;injection e with e;subst e;rw[hg] at f5;injection f5 with f5;injection f5 with _ f5;exact absurd f5 (by decide)⟩,?_,fun b o e=>by have:=b4.addr b o e;exact⟨by omega,this.2⟩,h3.o.step d0.o (fun j hj e=>by omega)⟩
       ·intro i x hx
        obtain⟨a1,a2,a3,b,o,e,h4,h5⟩:=b4.setsAt i x hx
        exact⟨a1,a2,a3,b,o,e,by omega,h5⟩
       ·obtain⟨L,_,_,_,q⟩:=b4
        exact q
end
section
open Go.RowKit
theorem Zcf (w:World)(h:Log w q p X G)(hok:X.Ok)(hb:X.parts[0]?=some b):
  Calls Tryz.prog 71 #[.pointer (some ⟨q,0,none⟩)] w fun e w'=> ∃u,e=.returned u∧OwnB w' w.heap.size u b∧U0 w w':=by
 obtain⟨PV,vs,h1,_⟩:=h
 have hl:0<X.parts.length:=(List.getElem?_eq_some_iff.1 hb).1
 have a0:=h1.vslen
 have a4:=(hok.bytes b (List.mem_of_getElem? hb)).2
 obtain⟨v,hv⟩: ∃v,vs[0]?=some v:=⟨vs[0],List.getElem?_eq_getElem (by omega)⟩
 have hp:=h1.parts 0 v b hv hb
 obtain⟨c0,c1,c2,c3,c4,c5,c6,c7⟩:=Zbv h1.main
 rcases h1.row.2 with ⟨_,h3⟩ | ⟨g,a1,a2,rfl,_⟩
 ·omega
 have d0:w.cell? ⟨g,0,none⟩=some v:=World.ownsRow.cells h1.row rfl 0 v hv
 have HC:=V (Y4 w (by omega) hp.bytesIn)
 obtain⟨n,hn⟩: ∃n,n=X.parts.length:=⟨_,rfl⟩
 rw[←hn] at c5 hl
 have a3:(0:Int)<n:=by omega
 clear h1 c0 c1 c2 c3 c4 c6 c7 hp hv a0 hb hok hn
 go_enter Tryz.func71,Tryz.ntmps71
 go_wp2_with (go_at_call 99;fail)
 refine HC.o.mono ?_
 rintro e w1 ⟨u,rfl,ho,_,hu⟩
 have HO:=V ho;have HU:=V hu
 clear ho hu HC
 simp only[]
 go_wp2
 go_ret
 exact⟨_,rfl,HO.o,HU.o⟩
theorem Zth (w:World)(h:Log w q p X G)(hok:X.Ok)(hbx:w.heap[bx]?=some (.cells #[.pointer (some ⟨q,0,none⟩)] 38 (0,0)))(hD:Dsk w p D F)(hdok:D.Ok 1099511627774)
  (hFG: ∀k,G k→ ¬F k) (hFb: ¬F bx) (hp:0≤place∧place≤1099511627776):
  Calls Tryz.prog 171 #[.int .i64 place,.pointer (some ⟨bx,0,none⟩)] w fun e w'=>e=.returned (.tuple #[.agg (bcells (D.reads (atF X.h.area place))).toArray,.int .i64 (D.callE (atF X.h.area place) false)])∧Dsk w' p (D.callD (atF X.h.area place) false) F∧Upd F w w':=by
 have hq:=h.mem
 obtain⟨PV,vs,h1,_⟩:=h
 have hm:=h1.main
 have ha:=hok.area
 have a3:(D.reads (atF X.h.area place)).length=64:=(Zdp hdok _).1
 obtain⟨i,hi⟩: ∃i,i=atF X.h.area place:=⟨_,rfl⟩
 have b5:1≤X.h.area∧X.h.area≤1000:=by omega
 have b4: ∀W,Calls Tryz.prog 161 #[X.h.val,.int .i64 place] W fun e w'=>e=.returned (.int .i64 i)∧U0 W w':=fun W=>by rw[hi];exact Zqu X.h place W b5 hp
 rw[←hi] at a3 ⊢
 have d1:RowKit.Hid ((bcells (D.reads i)).length=64):=V (by simp[bcells,a3])
 have d6:RowKit.Hid ((bcells (D.reads i)).toArray.size=64):=V (by simp[bcells,a3])
 have HZ:RowKit.Hid ((bcells zblk).toArray.size=64):=V (by simp[bcells,zblk])
 have d9:RowKit.Hid ((Tryz.prog.info? 48).map (·.size)=some (bcells (D.reads i)).toArray.size):=V (by rw[Tryz.info56p];simp[bcells,a3])
 have d8:RowKit.Hid ((Tryz.prog.info? 48).map (·.size)=some (bcells (D.reads i)).length):=V (by rw[Tryz.info56p];simp[bcells,a3])
 have d4:=V (all_oneCell_toArray (Z6 (D.reads i)))
 have HI:=V hi;have c9:=V b4;have HD:=V hD;have c8:=V hdok;have c4:=V hFb;have c0:=V (hFG q hq);have b8:=V (Za hm);have d3:=V hD.lt;have c5:=V hbx
 have d0:RowKit.Hid (¬F w.heap.size):=V (fun e=>by have:=hD.lt _ e;omega)
 have a2:U0 w (w.alloc (.cells (bcells zblk).toArray 48)):=(Upd.refl _ w).alloc _
 have b1:(w.alloc (.cells (bcells zblk).toArray 48)).heap[w.heap.size]?=some (.cells (bcells zblk).toArray 48 (0,0)):=Zc rfl
 have a1:=kb a2 hbx
 have a8:=kb a2 hm
 have a9:=hD.kept a2 n3Z
 clear hm h1 hq hok ha a3 hi b5 b4 hp hD hdok hFb hFG hbx HI
 go_enter Tryz.func171,Tryz.ntmps171
 go_upto_region 1 with fail
 refine(?_:Code.wp _ _ _ _ (w.alloc (.cells (bcells zblk).toArray 48)))
 obtain⟨w1,c1⟩: ∃w1,w1=w.alloc (.cells (bcells zblk).toArray 48):=⟨_,rfl⟩
 rw[←c1] at a2 b1 a1 a8 a9 ⊢
 have d7:=V a2;have c2:=V b1;have a0:=V a1;have a6:=V a8;have HD:=V a9
 clear a2 b1 a1 a8 a9 c1
 have hA:Upd (fun k=>F k∨k=w.heap.size) w1 w1.drew:=(Upd.refl _ w1).drew
 refine Zj 14 (fun W=>Upd (fun k=>F k∨k=w.heap.size) w1 W) [false,false,false,false,false,false,false,false,false,false,false,false,false,false,false] rfl (by kernel_rfl) ?_
 refine tqZ 0 (.pointer (some ⟨q,0,none⟩)) [12,10,3,2,1] hA (fun w5 q1=>?_) ?_
 ·have cc:w5.cell? ⟨bx,0,none⟩=some (.pointer (some ⟨q,0,none⟩)):=by simp[World.cell?,(q1.block _ (Za a0.o) (fun e=>e.elim c4.o (fun e=>by have:=Za c5.o;omega))).trans a0.o]
  go_simp
 simp only[zz]
 refine tpZ 1 (.pointer (some ⟨q,0,none⟩)) hA ?_
 simp only[zz]
 refine tpZ 2 (.pointer (some ⟨q,4,none⟩)) hA ?_
 simp only[zz]
 refine tqZ 3 (.pointer (some ⟨p,0,none⟩)) [12,10] hA (fun w5 q1=>?_) ?_
 ·have cc:w5.cell? ⟨q,4,none⟩=some (.pointer (some ⟨p,0,none⟩)):=by simp[World.cell?,(q1.block _ (Za a6.o) (fun e=>e.elim c0.o (fun e=>by have:=b8.o;omega))).trans a6.o,Lg.cells]
  go_simp
 simp only[zz]
 refine tqZ 4 (.pointer (some ⟨q,0,none⟩)) [12,10,9,7,6,5] hA (fun w5 q1=>?_) ?_
 ·have cc:w5.cell? ⟨bx,0,none⟩=some (.pointer (some ⟨q,0,none⟩)):=by simp[World.cell?,(q1.block _ (Za a0.o) (fun e=>e.elim c4.o (fun e=>by have:=Za c5.o;omega))).trans a0.o]
  go_simp
 simp only[zz]
 refine tpZ 5 (.pointer (some ⟨q,0,none⟩)) hA ?_
 simp only[zz]
 refine tpZ 6 (.pointer (some ⟨q,0,none⟩)) hA ?_
 simp only[zz]
 refine tqZ 7 (X.h.val) [12,10,9] hA (fun w5 q1=>?_) ?_
 ·refine Zv rfl rfl [.int .i64 X.h.turn,.int .i64 X.h.area,.int .i64 X.h.place,.int .i64 X.h.number] (fun j v hj=>?_) Tryz.underlying184 rfl Tryz.size107r
  have hm:=(q1.block _ (Za a6.o) (fun e=>e.elim c0.o (fun e=>by have:=b8.o;omega))).trans a6.o
  match j,hj with
  | 0,hj=>simp at hj;subst hj;simp[World.cell?,hm,Lg.cells]
  | 1,hj=>simp at hj;subst hj;simp[World.cell?,hm,Lg.cells]
  | 2,hj=>simp at hj;subst hj;simp[World.cell?,hm,Lg.cells]
  | 3,hj=>simp at hj;subst hj;simp[World.cell?,hm,Lg.cells]
  |j+4,hj=>simp at hj
 simp only[zz]
 refine tpZ 8 (.int .i64 place) hA ?_
 simp only[zz]
 refine diZ 9 (fun K HKK=>?_)
 go_step
 refine(c9.o _).mono ?_
 rintro e w2 ⟨rfl,a7⟩
 have b0:Upd (fun k=>F k∨k=w.heap.size) w1 w2:=hA.trans (a7.mono (fun _ _ e=>e.elim))
 have a5:=V (((Upd.refl (fun _=>False) w1).drew).trans a7)
 clear hA a7
 simp only[]
 refine HKK.o _ _ b0 ?_
 clear HKK
 simp only[zz]
 refine diZ 10 (fun K HKK=>?_)
 go_step
 refine(Zg3 i w2 (HD.o.kept a5.o n3Z) c8.o).mono ?_
 rintro e w3 ⟨rfl,b7,a4⟩
 have hA:Upd (fun k=>F k∨k=w.heap.size) w1 w3:=b0.trans (a4.mono (fun _ _ e=>.inl e))
 have c6:w3.heap[w.heap.size]?=some (.cells (bcells zblk).toArray 48 (0,0)):=(a4.block _ (Za (kb a5.o c2.o)) d0.o).trans (kb a5.o c2.o)
 have c7:=V b7;have e0:=V (a5.o.mono (F:=fun _=>False) (G:=F) (fun _ _ e=>e.elim) |>.trans a4);have b6:=V c6
 clear b0 b7 a4 c6
 generalize hrv:bcells (D.reads i)=rv at *
 have e1:=V hrv
 clear hrv
 simp only[]
 refine HKK.o _ _ hA ?_
 clear HKK
 simp only[zz]
 refine tpZ 11 (.agg rv.toArray) hA ?_
 simp only[zz]
 refine tpZ 12 (.int .i64 (D.callE i false)) hA ?_
 simp only[zz]
 refine Za0 (i:=13) rfl (by kernel_rfl) rfl (fun K hK=>?_)
 refine wp_store_mid 48 (.tmp 3) (.tmp 16) rfl w.heap.size 0 rv.toArray rfl rfl (by have q:=Zq b6.o;rw[HZ.o] at q;rw[d6.o];exact q) d9.o d4.o ?_
 have b3:=Upd.setCells (b:=w.heap.size) (F:=fun k=>F k∨k=w.heap.size) (.inr rfl) rv 0 hA
 have b2:=Upd.setCells (b:=w.heap.size) (F:=fun k=>k=w.heap.size) rfl rv 0 (Upd.refl _ w3)
 have b9:=Zi (vs:=rv) b6.o (by rw[HZ.o,d1.o])
 have c3:=V b2;have d2:=V b9
 clear b2 b9
 refine hK _ _ b3 ?_
 clear hK b3 hA
 simp only[zz]
 refine tlZ 14 ?_
 simp only[List.drop]
 go_wp2
 have d5:=run_loadVar_mid (P:=Tryz.prog) _ w.heap.size 0 48 rv _ (Zh d2.o) Tryz.underlying48 rfl d8.o
 refine bodyPost_ret (Zl Tryz.results171 rfl d5) rfl ⟨by rw[e1.o];rfl,c7.o.kept c3.o (fun k hk e=>by have:=d3.o k hk;omega),(d7.o.mono (F:=fun _=>False) (G:=F) (fun _ _ e=>e.elim) |>.trans e0.o).step c3.o (fun k hk e=>by omega)⟩
end
section
open Go.RowKit Go.Shelf
def WholeAns (w:World)(p:Nat)(F:Nat→Prop)(R:Option (List Int)×Int×Dk)(e:Ending)(w':World):Prop:=
 Dsk w' p R.2.2 F∧Upd F w w'∧match R.1 with
 |none=>e=.returned (.tuple #[.slice none 0 0,.bool false,.int .i64 R.2.1])
 |some b=> ∃v,e=.returned (.tuple #[v,.bool true,.int .i64 0])∧OwnB w' w.heap.size v b∧Bytes b∧b.length≤40000
structure WhAt (w:World) (p:Nat) (hd:Hd) (F:Nat→Prop) (D:Dk) (W:World):Prop where
 dsk:Dsk W p D F
 upd:Upd F w W
 box:W.heap[w.heap.size]?=some (.cells #[.int .i64 hd.turn,.int .i64 hd.area,.int .i64 hd.place,.int .i64 hd.number] 184 (0,0))
theorem WhAt.kept (h:WhAt w p hd F D W)(hu:Upd G W W')(hG: ∀k,G k→w.heap.size<k)(hF: ∀k,F k→k<w.heap.size):WhAt w p hd F D W':=
 ⟨h.dsk.kept hu (fun k h1 h2=>by have:=hG k h2;have:=hF k h1;omega),h.upd.step hu (fun k h1 h2=>by have:=hG k h2;omega),(hu.block _ (Za h.box) (fun e=>by have:=hG _ e;omega)).trans h.box⟩
theorem WhAt.read {D':Dk}(h:WhAt w p hd F D W)(hd':Dsk W' p D' F)(hu:Upd F W W')(hF: ∀k,F k→k<w.heap.size):WhAt w p hd F D' W':=
 ⟨hd',h.upd.step hu (fun k _ h2=>h2),(hu.block _ (Za h.box) (fun e=>by have:=hF _ e;omega)).trans h.box⟩
structure BufAt (w W:World) (g n:Nat) (bs:List Int):Prop where
 len:bs.length=n
 short:n≤40000
 byte:Bytes bs
 blk:W.heap[g]?=some (.cells (bcells bs).toArray 5 (0,0))
 gt:w.heap.size<g
theorem BufAt.kept {g:Nat}(h:BufAt w W g n bs)(hu:Upd G W W')(hg: ¬G g):BufAt w W' g n bs:=
 ⟨h.len,h.short,h.byte,(hu.block _ (Za h.blk) hg).trans h.blk,h.gt⟩
theorem Zon {off:Nat}{src:List Int}(h1:Bytes b)(h2:Bytes src):Bytes (Yo b off src):=by
 intro x hx
 unfold Yo at hx
 rcases List.mem_append.1 hx with hx | hx
 ·exact h1 x (List.mem_of_mem_take hx)
 ·rcases List.mem_append.1 hx with hx | hx
  ·exact h2 x (List.mem_of_mem_take hx)
  ·exact h1 x (List.mem_of_mem_drop hx)
theorem Zoo {o:Nat}(h:Bytes b):Bytes (b.drop o):=fun x hx=>h x (List.mem_of_mem_drop hx)
def LoopR (w:World)(R:Option (List Int)×Int×Dk)(hd:Hd)(number place left:Int)(snap:Bool)(kk:Nat)(b turn many:Value)(W:World)(D:Dk):Prop:=
 (kk=0∧b=.slice none 0 0∧turn=.int .i64 0∧many=.int .i64 1∧R=wholeD hd number place snap left D)∨
 (1≤kk∧ ∃(t:Int) (n:Nat) (bs:List Int) (g:Nat),b=.slice (some ⟨g,0,none⟩) n n∧turn=.int .i64 t∧many=.int .i64 (secsN n)∧kk≤secsN n∧(1≤t∧t≤4294967295)∧R=goD hd number place t snap (secsN n - kk) kk bs D∧BufAt w W g n bs)
theorem LoopR.more {b:Value}(h:LoopR w R hd number place left snap kk b turn many W D): ∃m:Int,many=.int .i64 m∧((kk:Int)<m∨((kk:Int)=m∧ ∃bs g n,b=.slice (some ⟨g,0,none⟩) n n∧R=(some bs,0,D)∧BufAt w W g n bs))∧m≤1000:=by
 rcases h with ⟨rfl,_,_,rfl,_⟩ | ⟨_,t,n,bs,g,rfl,rfl,rfl,h3,_,h4,h5⟩
 ·exact⟨1,rfl,.inl (by omega),by omega⟩
 ·refine⟨secsN n,rfl,?_,by have:=h5.short;unfold secsN;omega⟩
  by_cases h6:kk<secsN n
  ·exact .inl (by omega)
  ·refine .inr ⟨by omega,bs,g,n,rfl,?_,h5⟩
   rw[h4,show secsN n - kk=0 by omega]
   rfl
def Cont (R:Option (List Int)×Int×Dk)(hd:Hd)(number place _left:Int)(snap:Bool)(kk:Nat)(t:Int)(n:Nat)(bs s:List Int)(o:Nat)(D':Dk):Prop:=
 (Yo bs (48 * kk - 4) (s.drop o)).length=n∧(cutF t number snap (Yo bs (48 * kk - 4) (s.drop o)) kk=s→R=goD hd number place t snap (secsN n - (kk+1)) (kk+1) (Yo bs (48 * kk - 4) (s.drop o)) D')∧
 (cutF t number snap (Yo bs (48 * kk - 4) (s.drop o)) kk≠s→R=(none,0,D'))
theorem Zrv {m k:Nat}(he:D.callE (atF hd.area (place+k)) false≠0):goD hd number place t snap (m+1) k b D=(none,D.callE (atF hd.area (place+k)) false,D.callD (atF hd.area (place+k)) false):=by
 unfold goD;rw[if_neg he]
theorem LoopR.fails {b:Value}{m:Int}(h:LoopR w R hd number place left snap kk b turn many W D)(hm:many=.int .i64 m)(hk:(kk:Int)<m)(hl:left≠0)
  (he:D.callE (atF hd.area (place+kk)) false≠0):R=(none,D.callE (atF hd.area (place+kk)) false,D.callD (atF hd.area (place+kk)) false):=by
 rcases h with ⟨rfl,_,_,_,h4⟩ | ⟨_,t,n,bs,g,rfl,rfl,h2,h3,_,h4,h5⟩
 ·rw[h4]
  rw[show place+((0:Nat):Int)=place by omega] at he ⊢
  unfold wholeD
  rw[if_neg hl,if_neg he]
 ·rw[hm] at h2
  obtain rfl:m=secsN n:=by injection h2
  rw[h4,show secsN n - kk=(secsN n - (kk+1))+1 by omega]
  exact Zrv he
theorem LoopR.cont {b:Value}{m:Int}(h:LoopR w R hd number place left snap kk b turn many W D)(hm:many=.int .i64 m)(hk:(kk:Int)<m)(h1:1≤kk)
  (he:D.callE (atF hd.area (place+kk)) false=0): ∃(t:Int) (n:Nat) (bs:List Int) (g:Nat),b=.slice (some ⟨g,0,none⟩) n n∧turn=.int .i64 t∧m=secsN n∧(1≤t∧t≤4294967295)∧BufAt w W g n bs∧Cont R hd number place left snap kk t n bs (D.reads (atF hd.area (place+kk))) 16 (D.callD (atF hd.area (place+kk)) false):=by
 rcases h with ⟨rfl,_⟩ | ⟨_,t,n,bs,g,rfl,rfl,h2,h3,ht,h4,h5⟩
 ·omega
 ·rw[hm] at h2
  obtain rfl:m=secsN n:=by injection h2
  have hl:(Yo bs (48 * kk - 4) ((D.reads (atF hd.area (place+kk))).drop 16)).length=n:=by
   rw[Y3 _ _ _ (by have:=h5.len;have a0:kk<secsN n:=(by omega);unfold secsN at a0;omega),h5.len]
  refine⟨t,n,bs,g,rfl,rfl,rfl,ht,h5,hl,fun hc=>?_,fun hc=>?_⟩
  ·rw[h4,show secsN n - kk=(secsN n - (kk+1))+1 by omega]
   rw (occs:=.pos [1]) [goD]
   rw[if_pos he,if_pos hc]
  ·rw[h4,show secsN n - kk=(secsN n - (kk+1))+1 by omega]
   rw (occs:=.pos [1]) [goD]
   rw[if_pos he,if_neg hc]
theorem Zql (hR:R=wholeD hd number place snap left D)(hl:left≠0)(he:D.callE (atF hd.area place) false=0):
  (¬Starts hd left (D.reads (atF hd.area place))→R=(none,0,D.callD (atF hd.area place) false))∧
  (Starts hd left (D.reads (atF hd.area place))→Cont R hd number place left snap 0 (Zai (D.reads (atF hd.area place))) (startN (D.reads (atF hd.area place))).toNat (List.replicate (startN (D.reads (atF hd.area place))).toNat 0) (D.reads (atF hd.area place)) 20 (D.callD (atF hd.area place) false)):=by
 have hu: ∀s,Yo (List.replicate (startN s).toNat 0) (48 * 0 - 4) (s.drop 20)=Zab s:=fun s=>rfl
 refine⟨fun hs=>?_,fun hs=>⟨by rw[Y3 _ _ _ (by omega)];simp,fun hc=>?_,fun hc=>?_⟩⟩
 ·rw[hR];unfold wholeD
  rw[if_neg hl,if_pos he,if_neg hs]
 ·rw[hu] at hc ⊢
  rw[hR];unfold wholeD
  rw[if_neg hl,if_pos he,if_pos hs,if_pos hc]
 ·rw[hu] at hc
  rw[hR];unfold wholeD
  rw[if_neg hl,if_pos he,if_pos hs,if_neg hc]
theorem Zsj:Tryz.prog.underlying 48=some (.array (Tryz.prog.arrayLen 48) (Tryz.prog.elem 48)):=by kernel_rfl
theorem Zmx (W:World):(sizeOf (Tryz.prog.elem 48)).run Tryz.prog W=.ok 1 W:=by kernel_rfl
theorem Zn7:Tryz.prog.arrayLen 48=64:=by kernel_rfl
theorem Zre (g:Nat)(W:World):(Instr.sliceAt 48 (.pointer (some ⟨g,0,none⟩)) (some (.int .i64 16)) none none).run Tryz.prog W=.ok (.slice (some ⟨g,16,none⟩) 48 48) W:=by
 rw[run_sliceAt_array_l W 48 _ Zsj .i64 16 (by omega) (by rw[Zn7];omega),Zmx,Zn7]
 rfl
theorem Zo8 (g:Nat)(W:World):(Instr.sliceAt 48 (.pointer (some ⟨g,0,none⟩)) none none none).run Tryz.prog W=.ok (.slice (some ⟨g,0,none⟩) 64 64) W:=by
 rw[run_sliceAt_array_all W 48 _ Zsj,Zmx,Zn7]
 rfl
theorem Zno (g:Nat)(W:World):(Instr.slice 39 (.slice (some ⟨g,16,none⟩) 48 48) (some (.int .i64 4)) none none).run Tryz.prog W=.ok (.slice (some ⟨g,20,none⟩) 44 44) W:=by
 rw[run_slice_l W 39 _ 48 48 Zh2 .i64 4 (by omega) (by omega),Zf5]
 rfl
theorem Znp (g n c off:Nat)(h1:off≤n)(_h2:n≤c)(h3:off=0∨off<c)(W:World):(Instr.slice 39 (.slice (some ⟨g,0,none⟩) n c) (some (.int .i64 off)) none none).run Tryz.prog W=.ok (.slice (some ⟨g,off,none⟩) (n - off) (c - off)) W:=by
 rw[run_slice_l W 39 _ n c Zh2 .i64 off (by omega) (by omega),Zf5]
 simp only[Result.andThen,sliced,Int.toNat_natCast]
 rcases h3 with rfl | h3
 ·simp[Addr.add]
 ·rw[if_neg (by omega)]
  simp[Addr.add]
  omega
theorem Zhu (n:Nat):madeCells #[.int .u8 0] n=(bcells (List.replicate n 0)).toArray:=by
 apply Array.ext
 ·simp[madeCells,bcells]
 ·intro i h1 h2
  simp[madeCells,bcells,Nat.mod_one]
theorem Zo7 (h:4≤s.length): ∃a0 a1 a2 a3 r,s=a0 :: a1 :: a2 :: a3 :: r∧be s=be4 a0 a1 a2 a3 4:=by
 match s,h with
 |a0 :: a1 :: a2 :: a3 :: r,_=>exact⟨a0,a1,a2,a3,r,rfl,rfl⟩
theorem Zgu {gs:Nat}(o:Nat)(hl:s.length=64)(ho:o≤64)(hb:W.heap[gs]?=some (.cells (bcells s).toArray 48 (0,0))):BytesIn W (.slice (some ⟨gs,o,none⟩) (64 - o) (64 - o)) (s.drop o):=by
 refine .inr ⟨⟨gs,o,none⟩,64 - o,by simp[hl],by simp[hl],by unfold maxLen;omega,fun i u hi=>?_⟩
 rw[Addr.add_mid,Zr hb]
 have e:bcells (s.drop o)=(bcells s).drop o:=by simp[bcells]
 rw[e,List.getElem?_drop] at hi
 rw[List.getElem?_toArray,hi]
theorem Zl3 {off o:Nat}(h1:off≤bs.length):splice (bcells bs) off (bcells ((s.drop o).take (bs.length - off)))=bcells (Yo bs off (s.drop o)):=by
 unfold splice Yo
 simp only[bcells,List.map_append,List.map_take,List.map_drop]
 congr 2
 apply List.ext_getElem?
 intro j
 rw[List.getElem?_drop,List.getElem?_drop]
 by_cases h:(s.drop o).length≤bs.length - off
 ·congr 1
  simp at h ⊢
  omega
 ·rw[List.getElem?_eq_none,List.getElem?_eq_none]
  ·simp at h ⊢;omega
  ·simp at h ⊢;omega
theorem Zhe {P:Program}{ops:Array Oper}{rest:List Oper}{o:Oper}{a:Act}{Q:Exit→Act→World→Prop}(hgd:o.guard=none)(d s:Operand)(dT sT:TypeId)
  (ho:o.op=.call {callee:=.builtin .copy,args:=#[d,s],argTypes:=#[dT,sT]}) (elem:TypeId) (hu:P.underlying dT=some (.slice elem)) (hsz:(P.info? elem).map (·.size)=some 1)
  (dLen dCap sLen sCap:Nat) (g off:Nat) (ad:Addr) (hd:a.eval d=.slice (some ⟨g,off,none⟩) dLen dCap) (hs:a.eval s=.slice (some ad) sLen sCap)
  (cur:List Value) (t:TypeId) (hg:w.heap[g]?=some (.cells cur.toArray t (0,0))) (cs:List Value) (hn:cs.length=Nat.min sLen dLen)
  (hsrc: ∀j v,cs[j]?=some v→w.cell? (ad.add j)=some v)
  (hfit:off+cs.length≤cur.length) (h1: ∀v∈cs,v.oneCell'=true)
  (h: ∀w',w'.heap[g]?=some (.cells (splice cur off cs).toArray t (0,0))→Upd (fun k=>k=g) w w'→wpList P ops Q rest (a.put o.dst (goInt cs.length)) w'):
  wpList P ops Q (o :: rest) a w:=by
 refine wpList_copy_own hgd d s dT sT ho elem hu hsz g off dLen dCap ad sLen sCap hd hs cur.toArray t hg cs hn hsrc (by simpa using hfit) h1 ?_
 refine h _ (show _=_ by simpa [splice] using setRow_heap w g _ _ t _ hg) ⟨rfl,rfl,rfl,by simp[World.setRow],fun k hk hgk=>setRow_other w g k _ hgk⟩
theorem neqV (xs ys:List Int)(hx:xs.length=64)(hy:ys.length=64)(W:World):(binOp .neq 48 (.agg (bcells xs).toArray) (.agg (bcells ys).toArray)).run Tryz.prog W=.ok (.bool (!(xs == ys))) W:=Zjb W hx hy
theorem Zm0 {g:Nat}(h:BufAt w W g n bs):OwnB W w.heap.size (.slice (some ⟨g,0,none⟩) n n) bs:=by
 obtain⟨h1,h2,h3,h4,h5⟩:=h
 subst h1
 refine⟨by simp[bcells],.inr ⟨g,bs.length,(bcells bs).toArray,rfl,by omega,h4,Nat.le_refl _,by unfold maxLen;omega,by simp[bcells],by rw[List.take_of_length_le (by simp[bcells])]⟩⟩
theorem Zo2 (w:World)(hlg:Log w q p X G)(hok:X.Ok)(hbx:w.heap[bx]?=some (.cells #[.pointer (some ⟨q,0,none⟩)] 38 (0,0)))(hD:Dsk w p D F)(hdok:D.Ok N)(hN:N≤1099511620000)
  (hFG: ∀k,G k→ ¬F k) (hFb: ¬F bx) (hp:0≤place∧place≤1000000) (hnum:0≤number∧number≤4294967295) (hl:0≤left∧left≤1000):
  Calls Tryz.prog 172 #[X.h.val,.int .i64 number,.int .i64 place,.bool snap,.int .i64 left,.func (.func 171) #[] #[.pointer (some ⟨bx,0,none⟩)]] w fun e w'=>WholeAns w p F (wholeD X.h number place snap left D) e w':=by
 have i0:=hD.lt
 have e3:=hok.turn
 have c9:=Za hbx
 obtain⟨R,hR⟩: ∃R,R=wholeD X.h number place snap left D:=⟨_,rfl⟩
 rw[←hR]
 have i2:U0 w (w.alloc (.cells #[.int .i64 X.h.turn,.int .i64 X.h.area,.int .i64 X.h.place,.int .i64 X.h.number] 184)):=(Upd.refl _ w).alloc _
 have b9:WhAt w p X.h F D (w.alloc (.cells #[.int .i64 X.h.turn,.int .i64 X.h.area,.int .i64 X.h.place,.int .i64 X.h.number] 184)):=⟨hD.kept i2 n3Z,i2.mono (fun _ _ e=>e.elim),Zc rfl⟩
 by_cases i3:left=0
 ·subst i3
  have l8:R=(none,0,D):=by rw[hR];unfold wholeD;rw[if_pos rfl]
  have HR:=V l8;have d9:=V b9
  clear hlg hok hbx hD hdok hN hFG hFb i0 e3 c9 hR i2 b9 l8
  go_enter Tryz.func172,Tryz.ntmps172
  go_upto_region 1 with fail
  refine(?_:Code.wp _ _ _ _ (w.alloc (.cells #[.int .i64 X.h.turn,.int .i64 X.h.area,.int .i64 X.h.place,.int .i64 X.h.number] 184)))
  go_wp2
  go_ret3
  rw[HR.o]
  exact⟨d9.o.dsk,d9.o.upd,rfl⟩
 ·have k5:RowKit.Hid (∀W D' pl,WhAt w p X.h F D' W→D'.Ok 1099511627774→0≤pl∧pl≤1099511627776→Calls Tryz.prog 171 #[.int .i64 pl,.pointer (some ⟨bx,0,none⟩)] W fun e w'=>e=.returned (.tuple #[.agg (bcells (D'.reads (atF X.h.area pl))).toArray,.int .i64 (D'.callE (atF X.h.area pl) false)])∧WhAt w p X.h F (D'.callD (atF X.h.area pl) false) w'∧Upd F W w'):=V (fun W D' pl d8 hdk hpl=>
   (Zth W (hlg.kept d8.upd (fun k hk=>hFG k hk)) hok ((d8.upd.block _ c9 hFb).trans hbx) d8.dsk hdk (fun k hk=>hFG k hk) hFb hpl).mono (by
    rintro e w' ⟨rfl,h1,h2⟩
    exact⟨rfl,d8.read h1 h2 i0,h2⟩))
  have HR:=V hR;have d9:=V b9;have o4:=V hdok;have c5:=V i0;have l9:=V i3
  obtain⟨w1,i6⟩: ∃w1,w1=w.alloc (.cells #[.int .i64 X.h.turn,.int .i64 X.h.area,.int .i64 X.h.place,.int .i64 X.h.number] 184):=⟨_,rfl⟩
  rw[←i6] at d9
  have q9:(left == 0)=false:=by simpa using i3
  clear hlg hok hbx hD hdok hFG hFb i0 c9 hR i2 b9
  go_enter Tryz.func172,Tryz.ntmps172
  go_upto_region 1 with fail
  refine(?_:Code.wp _ _ _ _ (w.alloc (.cells #[.int .i64 X.h.turn,.int .i64 X.h.area,.int .i64 X.h.place,.int .i64 X.h.number] 184)))
  rw[←i6]
  clear i6
  go_upto_region 6 with fail
  go_loopg [15,16,17,18] 1001 (fun gk b turn many kv wr=> ∃(kk:Nat) (Dc:Dk),kk≤1000∧gk=1001 - kk∧kv=.int .i64 kk∧Dc.Ok (N+kk)∧WhAt w p X.h F Dc wr∧LoopR w R X.h number place left snap kk b turn many wr Dc)
  case atStart=>exact⟨0,D,by omega,rfl,rfl,o4.o,d9.o,.inl ⟨rfl,rfl,rfl,rfl,HR.o⟩⟩
  case round=>
   obtain⟨kk,Dc,s2,rfl,rfl,l7,d8,i8⟩:=hrel
   obtain⟨m,rfl,e5,s7⟩:=i8.more
   have h8:=V i8;have HA:=V d8;have g7:=V l7
   clear i8 d8 l7 d9 o4 HR
   rcases e5 with m6 | ⟨r5,bs,g,n,rfl,l1,a6⟩
   rotate_left
   ·have k6: ¬(kk:Int)<m:=by omega
    have b0:=V l1;have a4:=V a6
    clear l1 a6 r5
    go_wp2
    go_ret3
    rw[b0.o]
    have hb:=a4.o
    refine⟨HA.o.dsk,HA.o.upd,_,rfl,?_,hb.byte,by rw[hb.len];exact hb.short⟩
    exact Zm0 hb
   ·go_wp2_with (go_at_call 171;fail)
    refine(k5.o _ Dc (place+kk) HA.o (g7.o.mono (by omega)) (by omega)).mono ?_
    rintro e w3 ⟨rfl,c2,j8⟩
    have d5:=Zdp (g7.o.mono (show N+kk≤1099511627774 by omega)) (atF X.h.area (place+kk))
    have m5:kk=0→LoopR w R X.h number place left snap 0 u15 u16 (.int .i64 m) wr Dc:=fun e=>by have:=h8.o;rw[e] at this;exact this
    have b1:=fun he=>h8.o.fails rfl m6 l9.o he
    have a7:=fun h1 he=>h8.o.cont rfl m6 h1 he
    obtain⟨s,hs⟩: ∃s,s=Dc.reads (atF X.h.area (place+kk)):=⟨_,rfl⟩
    obtain⟨E,hE⟩: ∃E,E=Dc.callE (atF X.h.area (place+kk)) false:=⟨_,rfl⟩
    obtain⟨D2,g8⟩: ∃D2,D2=Dc.callD (atF X.h.area (place+kk)) false:=⟨_,rfl⟩
    have o1:D2.Ok (N+(kk+1)):=by rw[g8];exact Dk.Ok.mono (g7.o.callD _ _) (by omega)
    rw[←hs] at d5 a7 ⊢
    rw[←hE] at b1 a7 ⊢
    rw[←g8] at b1 a7 c2
    have c0:=d5.1
    obtain⟨f1,f2,f3⟩:=Zip w3 s c0
    have m1:RowKit.Hid ((Tryz.prog.info? 48).map (·.size)=some (bcells s).length):=V (by rw[Tryz.info56p];simp[bcells,c0])
    have n5:=V (all_oneCell_toArray (Z6 s))
    have F1:=V f1;have c6:=V f2;have o0:=V j8;have g1:=V d5;have b5:=V b1;have b3:=V a7;have j1:=V m5;have q3:=V o1
    have HE:=V hE;have HS:=V hs;have k4:=V g8
    have g2:=V c2.box
    have d7:=V (j8.trans (f3.mono (fun _ _ e=>e.elim)))
    have d0:=V (c2.kept f3 (fun _ e=>e.elim) c5.o)
    clear f1 f2 f3 c0 d5 j8 b1 a7 m5 o1 hE hs g8 c2 h8 g7 HA
    simp only[]
    iterate 13 go_step
    refine(?_:wpList _ _ _ _ _ (w3.alloc (.cells (bcells zblk).toArray 48)))
    refine wpList_store_mid rfl 48 (.tmp 19) (.tmp 37) rfl w3.heap.size 0 (bcells s).toArray rfl rfl F1.out (by rw[m1.o];simp) n5.o ?_
    obtain⟨w4,i5⟩: ∃w4,w4=(w3.alloc (.cells (bcells zblk).toArray 48)).setCells w3.heap.size 0 (bcells s):=⟨_,rfl⟩
    rw[←i5] at d0 c6 d7
    rw[show(bcells s).toArray.toList=bcells s from rfl,←i5]
    clear i5 F1 n5
    obtain⟨gs,h6⟩: ∃gs,gs=w3.heap.size:=⟨_,rfl⟩
    rw[←h6] at c6 ⊢
    have s1:w.heap.size<gs:=by rw[h6];exact Nat.lt_of_lt_of_le (Za g2.o) (Nat.le_refl _)
    have q7:RowKit.Hid (wr.heap.size≤gs):=V (by rw[h6];exact o0.o.size)
    clear h6
    by_cases h0:E=0
    rotate_left
    ·have s4:(E !=0)=true:=by simpa using h0
     have b0:=V (b5.o (by simpa using h0))
     clear h0
     go_wp2
     go_ret3
     rw[b0.o]
     exact⟨d0.o.dsk,d0.o.upd,rfl⟩
    ·subst h0
     have q4:=Zre gs
     go_upto_if 44 with fail
     go_cut [15,16,17,21,22,23] from 26 to 94 (fun b turn many own _ _ wx=> ∃(t:Int) (n:Nat) (bs:List Int) (g o ml:Nat),b=.slice (some ⟨g,0,none⟩) n n∧turn=.int .i64 t∧many=.int .i64 (secsN n)∧own=.slice (some ⟨gs,o,none⟩) ml ml∧(o+ml=64∧o≤20)∧(1≤t∧t≤4294967295)∧kk<secsN n∧BufAt w wx g n bs∧g≠gs∧wx.heap[gs]?=some (.cells (bcells s).toArray 48 (0,0))∧WhAt w p X.h F D2 wx∧Cont R X.h number place left snap kk t n bs s o D2)
     case first=>
      rcases Nat.eq_zero_or_pos kk with q8 | r7
      ·subst q8
       rcases j1.o rfl with ⟨_,rfl,rfl,f5,o8⟩ | ⟨hx,_⟩
       rotate_left
       ·omega
       obtain rfl:m=1:=by injection f5
       have e0:place+((0:Nat):Int)=place:=by omega
       have o3:Dc.callE (atF X.h.area place) false=0:=by have:=HE.o;rw[e0] at this;exact this.symm
       have p7:Dc.reads (atF X.h.area place)=s:=by have:=HS.o;rw[e0] at this;exact this.symm
       have q2:Dc.callD (atF X.h.area place) false=D2:=by have:=k4.o;rw[e0] at this;exact this.symm
       obtain⟨d3,a9⟩:=Zql o8 l9.o o3
       rw[p7,q2] at d3 a9
       have c0:=g1.o.1
       obtain⟨a0,a1,a2,a3,r0,j9,k9⟩:=Zo7 (s:=s) (by omega)
       obtain⟨n0,n1,n2,n3,r1,e1,k8⟩:=Zo7 (s:=s.drop 16) (by simp;omega)
       have j4:Bytes s:=g1.o.2
       have k2:Bytes [a0,a1,a2,a3]:=fun x hx=>j4 x (by rw[j9];simp at hx;rcases hx with rfl | rfl | rfl | rfl<;> simp)
       have i4:Bytes [n0,n1,n2,n3]:=fun x hx=>j4 x (List.mem_of_mem_drop (i:=16) (by rw[e1];simp at hx;rcases hx with rfl | rfl | rfl | rfl<;> simp))
       have l0:=Zaw k2;have i7:=Zaw i4
       have k1: ∀W rr,Rd W rr s→Calls Tryz.prog 193 #[.pointer (some ⟨rr,0,none⟩)] W fun e w'=>e=.returned (.int .u32 (Zai s))∧Upd (fun k=>k=rr) W w':=fun W rr hr=>by
        rw[show Zai s=be4 a0 a1 a2 a3 4 from k9]
        refine(Zc3 W (by rw[j9] at hr;exact hr) k2).mono ?_
        rintro e w' ⟨rfl,_,h2⟩
        exact⟨rfl,h2⟩
       have j0: ∀W rr,Rd W rr (s.drop 16)→Calls Tryz.prog 193 #[.pointer (some ⟨rr,0,none⟩)] W fun e w'=>e=.returned (.int .u32 (startN s))∧Upd (fun k=>k=rr) W w':=fun W rr hr=>by
        rw[show startN s=be4 n0 n1 n2 n3 4 from k8]
        refine(Zc3 W (by rw[e1] at hr;exact hr) i4).mono ?_
        rintro e w' ⟨rfl,_,h2⟩
        exact⟨rfl,h2⟩
       rw[←show Zai s=be4 a0 a1 a2 a3 4 from k9] at l0
       rw[←show startN s=be4 n0 n1 n2 n3 4 from k8] at i7
       unfold Starts at d3 a9
       have f0:BytesIn w4 (.slice (some ⟨gs,0,none⟩) 64 64) s:=by simpa using Zgu 0 c0 (by omega) c6.o
       have e9:BytesIn w4 (.slice (some ⟨gs,16,none⟩) 48 48) (s.drop 16):=Zgu 16 c0 (by omega) c6.o
       obtain⟨T,hT⟩: ∃T,T=Zai s:=⟨_,rfl⟩
       rw[←hT] at d3 a9 k1 l0
       obtain⟨Zn,hZ⟩:=Int.eq_ofNat_of_zero_le i7.1
       rw[hZ] at d3 a9 j0 i7
       simp only[Int.toNat_natCast] at d3 a9
       have g4:s.drop 16≠[]:=by intro e;have:=congrArg List.length e;simp at this;omega
       have c4:s≠[]:=by rintro rfl;simp at c0
       have v0:IntKind.i64.wrap T=T:=by rw[IntKind.wrap_i64];omega
       have v1:IntKind.i64.wrap (Zn:Int)=Zn:=by rw[IntKind.wrap_i64];omega
       have j5:=Zo8 gs
       have e4:=V d3;have b4:=V a9;have o7:=V k1;have l6:=V j0;have f9:=V f0;have g3:=V e9;have e7:=V g4;have g0:=V c4;have m9:=V c0
       clear d3 a9 k1 j0 f0 e9 g4 c4 c0 j9 e1 k9 k8 k2 i4 j4 hT hZ o3 p7 q2 o8 e0 f5 j1 b3 b5 HS HE k4
       go_wp2_with (go_at_call 88;fail)
       refine(Zfm w4 f9.o g0.o (by have:=m9.o;omega)).mono ?_
       rintro e w5 ⟨rfl,o2,p3⟩
       have p4:=V o2;have m2:=V p3
       clear o2 p3 j5
       simp only[]
       go_wp2_with (go_at_call 193;fail)
       refine(o7.o _ _ p4.o).mono ?_
       rintro e w6 ⟨rfl,o9⟩
       have g6:RowKit.Hid (U0 w4 w6):=V (m2.o.step o9 (fun k hk e=>by omega))
       clear o9 p4 m2
       simp only[]
       go_wp2_with (go_at_call 88;fail)
       refine(Zfm w6 (g3.o.kept g6.o) e7.o (by have:=m9.o;simp;omega)).mono ?_
       rintro e w7 ⟨rfl,m4,m7⟩
       have n6:=V m4;have l4:=V m7
       clear m4 m7
       simp only[]
       go_wp2_with (go_at_call 193;fail)
       refine(l6.o _ _ n6.o).mono ?_
       rintro e w8 ⟨rfl,p1⟩
       have p2:RowKit.Hid (U0 w4 w8):=V ((g6.o.trans l4.o).step p1 (fun k hk e=>by have:=g6.o.size;omega))
       have b2:=V (d0.o.kept p2.o (fun _ e=>e.elim) c5.o)
       have c8:=V (kb p2.o c6.o)
       clear p1 n6 l4 g6 o7 l6 f9 g3 g0 e7 c6 d0
       simp only[]
       have cc:w8.cell? ⟨w.heap.size,0,none⟩=some (.int .i64 X.h.turn):=by simp[World.cell?,b2.o.box]
       go_upto_region 16 with fail
       by_cases h1:T<1
       ·have b0:=V (e4.o (fun q=>by omega))
        go_wp2
        go_ret3
        rw[b0.o]
        exact⟨b2.o.dsk,b2.o.upd,rfl⟩
       ·by_cases h2:T > X.h.turn
        ·have b0:=V (e4.o (fun q=>by omega))
         go_wp2
         go_ret3
         rw[b0.o]
         exact⟨b2.o.dsk,b2.o.upd,rfl⟩
        ·by_cases h3:(Zn:Int) > 40000
         ·have b0:=V (e4.o (fun q=>by omega))
          go_wp2
          go_ret3
          rw[b0.o]
          exact⟨b2.o.dsk,b2.o.upd,rfl⟩
         ·have c1:=V (Zcp (n:=Zn) (by omega))
          by_cases h4:(secsN Zn:Int) > left
          ·have b0:=V (e4.o (fun q=>by omega))
           go_wp2_with (go_at_call 113;refine(Yf _ _).mono ?_;rintro e w9 ⟨rfl,rfl⟩;rw[c1.o])
           go_ret3
           rw[b0.o]
           exact⟨b2.o.dsk,b2.o.upd,rfl⟩
          ·have n4:=V (b4.o ⟨by omega,by omega,by omega,by omega⟩)
           clear b4 e4
           have b4:=n4
           clear n4
           have m0:RowKit.Hid (0<secsN Zn):=V (by have:=Yu Zn;omega)
           have f6:w.heap.size<w8.heap.size:=Za b2.o.box
           have p9:gs<w8.heap.size:=Za c8.o
           have p6:1≤T∧T≤4294967295:=by omega
           have o6:Zn≤40000:=by omega
           have s6: ∀W,(Instr.makeSlice 39 (.int .u32 (Zn:Int)) (.int .u32 (Zn:Int))).run Tryz.prog W=.ok (.slice (some ⟨W.heap.size,0,none⟩) Zn Zn) (W.alloc (.cells (madeCells #[.int .u8 0] Zn) 5)):=fun W=>run_make_row' (P:=Tryz.prog) 39 5 (.int .u8 0) 1 Tryz.underlying39 Tryz.info5p rfl .u32 .u32 Zn (by omega) (by omega) W
           have s5:=Zno gs
           have hA:U0 w8 w8.drew:=(Upd.refl _ w8).drew
           go_wp2_with (first | (go_at_call 113;refine(Yf _ _).mono ?_;rintro e w9 ⟨rfl,rfl⟩;rw[c1.o]))
           refine Zj 9 (fun W=>U0 w8 W) [false,false,false,false,false,false,false,false,false,false] rfl (by kernel_rfl) ?_
           refine tpZ 0 (.int .u32 Zn) hA ?_
           simp only[zz]
           refine tpZ 2 (.int .u32 Zn) hA ?_
           simp only[zz]
           refine tpZ 3 (.int .i64 Zn) hA ?_
           simp only[zz]
           refine tpZ 5 (.slice (some ⟨gs,16,none⟩) 48 48) hA ?_
           simp only[zz]
           refine tpZ 6 (.slice (some ⟨gs,20,none⟩) 44 44) hA ?_
           simp only[zz]
           refine Ya (i:=1) (j:=4) rfl rfl (by kernel_rfl) rfl rfl (fun K hK=>?_) (fun K hK=>?_)
           ·have a5:=V hK
            clear hK
            go_step
            have b6:U0 w8 (w8.drew.alloc (.cells (madeCells #[.int .u8 0] Zn) 5)):=hA.alloc _
            refine a5.o _ _ b6 ?_
            clear a5
            simp only[zz]
            refine doZ 4 (fun K a5=>?_)
            go_step
            refine(Yf _ _).mono ?_
            rintro e wz ⟨rfl,rfl⟩
            rw[c1.o]
            simp only[]
            refine a5.o _ _ b6 ?_
            clear a5
            simp only[zz]
            refine doZ 7 (fun K a5=>?_)
            go_step
            refine a5.o _ _ b6 ?_
            clear a5
            simp only[zz]
            refine doZ 8 (fun K a5=>?_)
            go_step
            refine a5.o _ _ b6 ?_
            clear a5
            simp only[zz]
            refine tlZ 9 ?_
            simp only[List.drop]
            have j3:RowKit.Hid ((w8.drew.alloc (.cells (madeCells #[.int .u8 0] Zn) 5)).heap[w8.heap.size]?=some (.cells (bcells (List.replicate Zn 0)).toArray 5 (0,0))):=V (by rw[←Zhu];exact Zc rfl)
            go_wp2
            go_meet
            case rel=>
             have c7:=b6
             exact⟨T,Zn,List.replicate Zn 0,_,20,44,rfl,rfl,rfl,rfl,⟨rfl,by omega⟩,p6,m0.o,⟨by simp,o6,Bytes.zeros _,j3.o,by have:=f6;omega⟩,by have:=p9;omega,kb c7 c8.o,b2.o.kept c7 (fun _ e=>e.elim) c5.o,b4.o⟩
           ·have a5:=V hK
            clear hK
            go_step
            refine(Yf _ _).mono ?_
            rintro e wz ⟨rfl,rfl⟩
            rw[c1.o]
            simp only[]
            refine a5.o _ _ hA ?_
            clear a5
            simp only[zz]
            refine doZ 1 (fun K a5=>?_)
            go_step
            have b6:U0 w8 (w8.drew.alloc (.cells (madeCells #[.int .u8 0] Zn) 5)):=hA.alloc _
            refine a5.o _ _ b6 ?_
            clear a5
            simp only[zz]
            refine doZ 7 (fun K a5=>?_)
            go_step
            refine a5.o _ _ b6 ?_
            clear a5
            simp only[zz]
            refine doZ 8 (fun K a5=>?_)
            go_step
            refine a5.o _ _ b6 ?_
            clear a5
            simp only[zz]
            refine tlZ 9 ?_
            simp only[List.drop]
            have j3:RowKit.Hid ((w8.drew.alloc (.cells (madeCells #[.int .u8 0] Zn) 5)).heap[w8.heap.size]?=some (.cells (bcells (List.replicate Zn 0)).toArray 5 (0,0))):=V (by rw[←Zhu];exact Zc rfl)
            go_wp2
            go_meet
            case rel=>
             have c7:=b6
             exact⟨T,Zn,List.replicate Zn 0,_,20,44,rfl,rfl,rfl,rfl,⟨rfl,by omega⟩,p6,m0.o,⟨by simp,o6,Bytes.zeros _,j3.o,by have:=f6;omega⟩,by have:=p9;omega,kb c7 c8.o,b2.o.kept c7 (fun _ e=>e.elim) c5.o,b4.o⟩
      ·have s3:((kk:Int) == 0)=false:=by simp;omega
       obtain⟨t,n,bs,g,rfl,rfl,n9,ht,a6,hc⟩:=b3.o r7 rfl
       have i1:g≠gs:=by have:=Za a6.blk;have:=q7.o;omega
       have l2:=V n9;have a4:=V a6;have HC:=V hc
       clear n9 a6 hc
       go_wp2
       go_meet
       case rel=>exact⟨t,n,bs,g,16,48,rfl,rfl,by rw[l2.o],rfl,⟨rfl,by omega⟩,ht,by have:=l2.o;omega,a4.o.kept d7.o (fun e=>by have:=c5.o _ e;have:=a4.o.gt;omega),i1,c6.o,d0.o,HC.o⟩
     case rest=>
      obtain⟨t,n,bs,g,o,ml,rfl,rfl,rfl,rfl,⟨r4,r9⟩,ht,k3,a6,i1,d5,f7,hc⟩:=hcut
      have a4:=V a6;have b8:=V d5;have l3:=V f7;have HC:=V hc;have n7:=V i1
      have e1:n≤40000:=a6.short
      have d4:48 * kk - 4≤n:=by unfold secsN at k3;omega
      have e2:48 * kk - 4=0∨48 * kk - 4<n:=by unfold secsN at k3;omega
      clear a6 d5 f7 hc i1 g2 j1 b3 b5 HS HE k4 c6 d0 d7 o0 q4
      obtain⟨off,d2⟩: ∃off,off=48 * kk - 4:=⟨_,rfl⟩
      rw[←d2] at d4 e2
      have e8:=V d2
      have a8:((s.drop o).take (n - off)).length=Nat.min ml (n - off):=by have:=g1.o.1;simp only[List.length_take,List.length_drop];rw[show s.length - o=ml by omega];exact Nat.min_comm _ _
      have b7: ∀j v,(bcells ((s.drop o).take (n - off)))[j]?=some v→wc.cell? ((⟨gs,o,none⟩:Addr).add j)=some v:=by
       intro j v hj
       rw[Addr.add_mid,Zr b8.o,List.getElem?_toArray]
       have e:bcells ((s.drop o).take (n - off))=((bcells s).drop o).take (n - off):=by simp[bcells]
       rw[e] at hj
       have s0:j<n - off:=by
        have:=(List.getElem?_eq_some_iff.1 hj).1
        simp only[List.length_take] at this
        omega
       rw[List.getElem?_take_of_lt s0,List.getElem?_drop] at hj
       exact hj
      have d6:off+(bcells ((s.drop o).take (n - off))).length≤(bcells bs).length:=by
       rw[Z3,Z3,a8,a4.o.len]
       have h5:Nat.min ml (n - off)≤n - off:=Nat.min_le_right ml (n - off)
       show off+Nat.min ml (n - off)≤n
       omega
      have d1: ∀v∈bcells ((s.drop o).take (n - off)),v.oneCell'=true:=Z6 _
      obtain⟨cs,c3⟩: ∃cs,cs=bcells ((s.drop o).take (n - off)):=⟨_,rfl⟩
      have p0:splice (bcells bs) off cs=bcells (Yo bs off (s.drop o)):=by
       rw[c3,←a4.o.len];exact Zl3 (by rw[a4.o.len];exact d4)
      have p8:cs.length=Nat.min ml (n - off):=by rw[c3,Z3];exact a8
      rw[←c3] at b7 d6 d1
      have o5:=V b7;have e6:=V d6;have f4:=V d1;have g5:=V p0;have k7:=V p8
      clear b7 d6 d1 p0 p8 c3 a8 d2
      have r8:=Znp g n n off d4 (Nat.le_refl _) e2
      iterate 18 go_step
      rw[show max (48 * (kk:Int) - 4) 0=(off:Int) by rw[e8.o];omega]
      iterate 6 go_step
      refine Zhe rfl (.tmp 84) (.tmp 85) 39 39 rfl 5 Tryz.underlying39 (by kernel_rfl) (n - off) (n - off) ml ml g off ⟨gs,o,none⟩ rfl rfl (bcells bs) 5 a4.o.blk cs k7.o o5.o e6.o f4.o ?_
      intro wd h7 k0
      rw[g5.o] at h7
      have j6:Bytes (Yo bs off (s.drop o)):=Zon a4.o.byte (Zoo g1.o.2)
      have hc:=HC.o
      unfold Cont at hc
      rw[←e8.o] at hc
      obtain⟨nb,f8⟩: ∃nb,nb=Yo bs off (s.drop o):=⟨_,rfl⟩
      rw[←f8] at hc j6 h7
      obtain⟨h9,q0,n8⟩:=hc
      have j2:BufAt w wd g n nb:=⟨h9,e1,j6,h7,a4.o.gt⟩
      have m8:=V j2;have q6:=V q0;have r2:=V n8
      have j7:=V ((k0.block _ (Za b8.o) (fun e=>n7.o e.symm)).trans b8.o)
      have p5:=V (l3.o.kept k0 (fun k e=>by rw[e];exact a4.o.gt) c5.o)
      have l5:BytesIn wd (.slice (some ⟨g,0,none⟩) n n) nb:=(Zm0 j2).bytesIn
      have r3:=V l5
      have q5:RowKit.Hid ((Nat.min ml (n - off))=cs.length):=V k7.o.symm
      have k6:kk<secsN nb.length:=by rw[h9];exact k3
      have i9:nb.length≤40000:=by rw[h9];exact e1
      have r6:=V k6
      clear h7 k0 j6 f8 h9 q0 n8 j2 l5 k6 a4 b8 l3 HC o5 e6 f4 g5 r8 n7 k7
      go_upto_region 20 with fail
      have hA:U0 wd wd.drew:=(Upd.refl _ wd).drew
      refine Zj 7 (fun W=>U0 wd W) [false,false,false,false,false,false,false,false] rfl (by kernel_rfl) ?_
      refine tpZ 0 (.int .i64 t) hA ?_
      simp only[zz]
      refine tpZ 1 (.int .i64 number) hA ?_
      simp only[zz]
      refine tpZ 2 (.bool snap) hA ?_
      simp only[zz]
      refine tpZ 3 (.slice (some ⟨g,0,none⟩) n n) hA ?_
      simp only[zz]
      refine tpZ 4 (.int .i64 kk) hA ?_
      simp only[zz]
      refine tqZ 6 (.agg (bcells s).toArray) [] hA (fun w5 q1=>?_) ?_
      ·refine Zv rfl rfl (bcells s) ?_ Tryz.underlying48 rfl m1.o
       exact Zh (kb q1 j7.o)
      simp only[zz]
      refine diZ 5 (fun K a5=>?_)
      go_step
      refine(Zne (b:=nb) (k:=kk) _ (by omega) hnum (r3.o.kept hA) m8.o.byte i9 r6.o).mono ?_
      rintro e w9 ⟨rfl,c7⟩
      have g9:U0 wd w9:=hA.trans c7
      clear hA c7
      simp only[]
      refine a5.o _ _ g9 ?_
      clear a5
      simp only[zz]
      refine tlZ 7 ?_
      simp only[List.drop]
      refine Yv rfl (Zfa rfl rfl rfl (neqV _ _ (by rw[Zmr,Zc2]) g1.o.1 _)) ?_
      by_cases b7:cutF t number snap nb kk=s
      ·have b0:=V (q6.o b7)
       have hq:(!(cutF t number snap nb kk == s))=false:=by simp[b7]
       rw[hq]
       clear b7 hq
       go_wp2
       go_roundg (1001 - (kk+1))
       case measure=>omega
       case rel=>exact⟨kk+1,D2,by omega,rfl,congrArg _ (by omega),q3.o,p5.o.kept g9 (fun _ e=>e.elim) c5.o,.inr ⟨by omega,t,n,nb,g,rfl,rfl,rfl,by omega,ht,b0.o,m8.o.kept g9 id⟩⟩
      ·have b0:=V (r2.o b7)
       have hq:(!(cutF t number snap nb kk == s))=true:=by simp[b7]
       rw[hq]
       have m3:=V (p5.o.kept g9 (fun _ e=>e.elim) c5.o)
       clear b7 hq
       go_wp2
       go_ret3
       rw[b0.o]
       exact⟨m3.o.dsk,m3.o.upd,rfl⟩
theorem Zlf: ∀(m k:Nat) (c:List Int) (D:Dk),0<k→k+m=secsN c.length→(goD hd number place t snap m k c D).1=some b→b.length=c.length∧(goD hd number place t snap m k c D).2.1=0
 | 0,k,c,D,_,_,hf=>by
  unfold goD at hf ⊢
  injection hf with hf
  subst hf
  exact⟨rfl,rfl⟩
 |m+1,k,c,D,hk,hm,hf=>by
  have hoff:48 * k - 4≤c.length:=by unfold secsN at hm;omega
  have a0:=Y3 c (48 * k - 4) ((D.reads (atF hd.area (place+k))).drop 16) hoff
  unfold goD at hf ⊢
  split at hf
  ·rename_i h1
   split at hf
   ·rename_i h2
    rw[if_pos h1,if_pos h2]
    have:=Zlf m (k+1) _ _ (by omega) (by rw[a0];omega) hf
    rw[a0] at this
    exact this
   ·cases hf
  ·cases hf
theorem Zp7: ∀(m k:Nat) (c:List Int) (D:Dk) (K:Nat),D.Ok K→(goD hd number place t snap m k c D).2.2.Ok (K+m)
 | 0,_,_,_,_,h=>h
 |m+1,k,c,D,K,h=>by
  unfold goD
  split
  ·split
   ·exact Dk.Ok.mono (Zp7 m (k+1) _ _ _ (h.callD _ _)) (by omega)
   ·exact Dk.Ok.mono (h.callD _ _) (by omega)
  ·exact Dk.Ok.mono (h.callD _ _) (by omega)
theorem Zck (hf:(wholeD hd number place snap left D).1=some b):(wholeD hd number place snap left D).2.1=0∧(secsN b.length:Int)≤left∧b.length≤40000:=by
 unfold wholeD at hf ⊢
 split at hf
 ·cases hf
 ·rename_i h0
  split at hf
  ·rename_i h1
   split at hf
   ·rename_i h2
    split at hf
    ·rename_i h3
     rw[if_neg h0,if_pos h1,if_pos h2,if_pos h3]
     have a0:(Zab (D.reads (atF hd.area place))).length=(startN (D.reads (atF hd.area place))).toNat:=by
      unfold Zab;rw[Y3 _ _ _ (by omega)];simp
     have hp:=Yu (startN (D.reads (atF hd.area place))).toNat
     obtain⟨g1,g2⟩:=Zlf _ 1 _ _ (by omega) (by rw[a0];omega) hf
     rw[a0] at g1
     have g3:=h2.2.2.1;have g4:=h2.2.2.2
     exact⟨g2,by rw[g1];exact g4,by omega⟩
    ·cases hf
   ·cases hf
  ·cases hf
theorem Zi2 {K:Nat}(hl:left≤1000)(h:D.Ok K):(wholeD hd number place snap left D).2.2.Ok (K+1000):=by
 unfold wholeD
 split
 ·exact Dk.Ok.mono h (by omega)
 ·split
  ·split
   ·rename_i h2
    split
    ·have h3:=h2.2.2.2
     exact Dk.Ok.mono (Zp7 _ _ _ _ _ (h.callD _ _)) (by omega)
    ·exact Dk.Ok.mono (h.callD _ _) (by omega)
   ·exact Dk.Ok.mono (h.callD _ _) (by omega)
  ·exact Dk.Ok.mono (h.callD _ _) (by omega)
theorem Zo1 {Y:Lg}(w:World)(hlg:Log w q p Y G)(hok:Y.Ok)(hbx:w.heap[bx]?=some (.cells #[.pointer (some ⟨q,0,none⟩)] 38 (0,0)))(hD:Dsk w p D F)(hdok:D.Ok N)(hN:N≤1099511620000)
  (hFG: ∀k,G k→ ¬F k) (hFb: ¬F bx) (hu:0≤Y.used∧Y.used≤Y.h.area):
  Calls Tryz.prog 172 #[Y.h.val,.int .i64 (Y.h.number+Y.parts.length),.int .i64 (Y.h.place+Y.used),.bool (decide (Y.parts=[])),.int .i64 (Y.h.area - Y.used),.func (.func 171) #[] #[.pointer (some ⟨bx,0,none⟩)]] w fun e w'=>
   ∃v,e=.returned (.tuple #[v,.bool (wholeD Y.h (Y.h.number+Y.parts.length) (Y.h.place+Y.used) (decide (Y.parts=[])) (Y.h.area - Y.used) D).1.isSome,.int .i64 (wholeD Y.h (Y.h.number+Y.parts.length) (Y.h.place+Y.used) (decide (Y.parts=[])) (Y.h.area - Y.used) D).2.1])∧
    Log w' q p Y G∧Dsk w' p (wholeD Y.h (Y.h.number+Y.parts.length) (Y.h.place+Y.used) (decide (Y.parts=[])) (Y.h.area - Y.used) D).2.2 F∧Upd F w w'∧
    ∀b,(wholeD Y.h (Y.h.number+Y.parts.length) (Y.h.place+Y.used) (decide (Y.parts=[])) (Y.h.area - Y.used) D).1=some b→OwnB w' w.heap.size v b∧Bytes b:=by
 have h1:=hok.place;have h2:=hok.number;have h3:=hok.len;have h4:=hok.area
 refine(Zo2 (number:=Y.h.number+Y.parts.length) (place:=Y.h.place+Y.used) (left:=Y.h.area - Y.used) (snap:=decide (Y.parts=[])) w hlg hok hbx hD hdok hN hFG hFb (by omega) (by omega) (by omega)).mono ?_
 rintro e w' ⟨g1,g2,g3⟩
 have hs:=fun b=>Zck (b:=b) (hd:=Y.h) (number:=Y.h.number+Y.parts.length) (place:=Y.h.place+Y.used) (left:=Y.h.area - Y.used) (snap:=decide (Y.parts=[])) (D:=D)
 generalize wholeD Y.h (Y.h.number+Y.parts.length) (Y.h.place+Y.used) (decide (Y.parts=[])) (Y.h.area - Y.used) D=R at *
 obtain⟨ob,E,D'⟩:=R
 rcases ob with _ | b
 ·exact⟨_,g3,hlg.kept g2 hFG,g1,g2,fun b hb=>by cases hb⟩
 ·obtain⟨v,rfl,a0,a1,_⟩:=g3
  have:=(hs b rfl).1
  simp only at this
  subst this
  exact⟨v,rfl,hlg.kept g2 hFG,g1,g2,fun c hc=>by injection hc with hc;subst hc;exact⟨a0,a1⟩⟩
structure FndAt (w:World) (q p:Nat) (X Y:Lg) (RES:List (List Int)×Int×Dk) (f:Nat) (Dc:Dk) (G F:Nat→Prop) (N:Nat) (W:World):Prop where
 hd:Y.h=X.h
 brk:Y.broken=X.broken
 ok:Y.Ok
 used:Y.used=Zx Y.parts
 fits:Y.used≤Y.h.area
 fuel:Y.h.area - Y.used<f∧f≤1001
 cnt:(Y.parts.length:Int)≤Y.used
 res:Ys X.h f Y.parts Y.used Dc=RES
 log: ∃G',Log W q p Y G'∧(∀k,G' k→G k∨w.heap.size<k)
 dsk:Dsk W p Dc F
 dok:Dc.Ok (N+1000 * (1001 - f))
 upd:Upd (fun k=>G k∨F k) w W
 box:W.heap[w.heap.size]?=some (.cells #[.pointer (some ⟨q,0,none⟩)] 38 (0,0))
theorem Zoc {ps:List (List Int)}{u:Int}(hf:0<f)(hw:(wholeD hd (hd.number+ps.length) (hd.place+u) (decide (ps=[])) (hd.area - u) D).1=none):
  Ys hd f ps u D=(ps,(wholeD hd (hd.number+ps.length) (hd.place+u) (decide (ps=[])) (hd.area - u) D).2):=by
 obtain⟨f,rfl⟩: ∃g,f=g+1:=⟨f - 1,by omega⟩
 unfold Ys
 generalize wholeD hd (hd.number+ps.length) (hd.place+u) (decide (ps=[])) (hd.area - u) D=R at *
 obtain⟨ob,E,D'⟩:=R
 simp only at hw
 subst hw
 rfl
theorem Zob {ps:List (List Int)}{u:Int}(hw:(wholeD hd (hd.number+ps.length) (hd.place+u) (decide (ps=[])) (hd.area - u) D).1=some b):
  Ys hd (f+1) ps u D=Ys hd f (ps++[b]) (u+secsN b.length) (wholeD hd (hd.number+ps.length) (hd.place+u) (decide (ps=[])) (hd.area - u) D).2.2:=by
 rw (occs:=.pos [1]) [Ys]
 generalize wholeD hd (hd.number+ps.length) (hd.place+u) (decide (ps=[])) (hd.area - u) D=R at *
 obtain⟨ob,E,D'⟩:=R
 simp only at hw
 subst hw
 rfl
theorem FndAt.more {Y:Lg}{RES:List (List Int)×Int×Dk}{Dc D':Dk}{G2:Nat→Prop}(h:FndAt w q p X Y RES f Dc G F N W)
  (hw:wholeD Y.h (Y.h.number+Y.parts.length) (Y.h.place+Y.used) (decide (Y.parts=[])) (Y.h.area - Y.used) Dc=(some b,0,D')) (hb:Bytes b) (hlog:Log W' q p (Y.add b) G2) (hG2: ∀k,G2 k→G k∨w.heap.size<k) (hd:Dsk W' p D' F)
  (hu:Upd (fun k=>G k∨F k) w W') (hbox:W'.heap[w.heap.size]?=some (.cells #[.pointer (some ⟨q,0,none⟩)] 38 (0,0))):FndAt w q p X (Y.add b) RES (f - 1) D' G F N W':=by
 obtain⟨h1,h2,h3⟩:=Zck (b:=b) (by rw[hw])
 have hf:=h.fuel;have a5:=Yu b.length;have a3:=h.cnt;have a0:=h.ok;have a4:=h.fits;have a7:=a0.used;have a6:=a0.area
 have hk:=Zi2 (hd:=Y.h) (number:=Y.h.number+Y.parts.length) (place:=Y.h.place+Y.used) (left:=Y.h.area - Y.used) (snap:=decide (Y.parts=[])) (by omega) h.dok
 rw[hw] at hk
 obtain⟨g,rfl⟩: ∃g,f=g+1:=⟨f - 1,by omega⟩
 have a2:((Y.add b).parts.length:Int)=Y.parts.length+1:=by simp[Lg.add]
 have a1:(Y.add b).used=Y.used+secsN b.length:=rfl
 refine⟨h.hd,h.brk,⟨a0.turn,a0.area,a0.place,a0.number,by rw[a1];omega,by omega,fun c hc=>?_⟩,?_,by show Y.used+(secsN b.length:Int)≤Y.h.area;omega,by show Y.h.area - (Y.used+(secsN b.length:Int))<((g+1 - 1:Nat):Int)∧_;omega,by rw[a2,a1];omega,?_,⟨G2,hlog,hG2⟩,hd,Dk.Ok.mono hk (by omega),hu,hbox⟩
 ·simp only[Lg.add,List.mem_append,List.mem_singleton] at hc
  rcases hc with hc | rfl
  ·exact a0.bytes c hc
  ·exact⟨hb,h3⟩
 ·show Y.used+(secsN b.length:Int)=Zx (Y.parts++[b])
  rw[Zbl,Yj,Zay,h.used];omega
 ·rw[←h.res,←h.hd,Zob (b:=b) (by rw[hw]),hw]
  rfl
theorem Zqa (w:World)(hlg:Log w q p X G)(hok:X.Ok)(hus:X.used=Zx X.parts)(hfit:X.used≤X.h.area)(hcnt:(X.parts.length:Int)≤X.used)(hD:Dsk w p D F)(hdok:D.Ok N)(hN:N≤1099510000000)(hFG: ∀k,G k→ ¬F k):
  Calls Tryz.prog 131 #[.pointer (some ⟨q,0,none⟩)] w fun e w'=> ∃Y G' D',e=.returned (.int .i64 (Ys X.h 1001 X.parts X.used D).2.1)∧Y.h=X.h∧Y.broken=X.broken∧Y.parts=(Ys X.h 1001 X.parts X.used D).1∧Y.used=Zx Y.parts∧Y.used≤Y.h.area∧Y.Ok∧D'=(Ys X.h 1001 X.parts X.used D).2.2∧Log w' q p Y G'∧(∀k,G' k→G k∨w.heap.size≤k)∧Dsk w' p D' F∧D'.Ok (N+1001000)∧Upd (fun k=>G k∨F k) w w':=by
 have d9:=hD.lt
 have d8:=hlg.lt
 obtain⟨a4,a8⟩: ∃a4,a4=Ys X.h 1001 X.parts X.used D:=⟨_,rfl⟩
 have c1:U0 w (w.alloc (.cells #[.pointer (some ⟨q,0,none⟩)] 38)):=(Upd.refl _ w).alloc _
 have a1:FndAt w q p X X a4 1001 D G F N (w.alloc (.cells #[.pointer (some ⟨q,0,none⟩)] 38)):=
  ⟨rfl,rfl,hok,hus,hfit,by have:=hok.area;have:=hok.used;omega,hcnt,a8.symm,⟨G,hlg.kept c1 n3Z,fun k hk=>.inl hk⟩,hD.kept c1 n3Z,Dk.Ok.mono hdok (by omega),c1.mono (fun _ _ e=>e.elim),Zc rfl⟩
 rw[←a8]
 have d2:=V a1;have f0:=V d9;have g0:=V d8;have g3:=V hFG
 obtain⟨w1,c6⟩: ∃w1,w1=w.alloc (.cells #[.pointer (some ⟨q,0,none⟩)] 38):=⟨_,rfl⟩
 rw[←c6] at d2
 clear hlg hok hus hfit hcnt hD hdok hFG d9 d8 a8 c1 a1
 go_enter Tryz.func131,Tryz.ntmps131
 go_upto_region 1 with fail
 refine(?_:Code.wp _ _ _ _ (w.alloc (.cells #[.pointer (some ⟨q,0,none⟩)] 38)))
 rw[←c6]
 clear c6
 go_upto_region 2 with fail
 go_loopg [4] 1001 (fun gk _ wr=> ∃(Y:Lg) (f:Nat) (Dc:Dk),gk=f∧FndAt w q p X Y a4 f Dc G F N wr)
 case atStart=>exact⟨X,1001,D,rfl,d2.o⟩
 case round=>
  obtain⟨Y,f,Dc,rfl,a1⟩:=hrel
  obtain⟨ws,rfl⟩: ∃ws,ws=wr:=⟨_,rfl⟩
  obtain⟨G',hlg,d3⟩:=a1.log
  have c2: ∀k,G' k→ ¬F k:=fun k hk hf=>by
   rcases d3 k hk with hg | hg
   ·exact g3.o k hg hf
   ·have:=f0.o k hf;omega
  have d1: ¬F w.heap.size:=fun e=>by have:=f0.o _ e;omega
  have e6: ¬F q:=c2 q hlg.mem
  have g5:=a1.ok.used;have h0:=a1.ok.area;have h3:=a1.ok.place;have g2:=a1.fits;have h4:=a1.ok.len
  obtain⟨RS,d7⟩: ∃RS,RS=wholeD Y.h (Y.h.number+Y.parts.length) (Y.h.place+Y.used) (decide (Y.parts=[])) (Y.h.area - Y.used) Dc:=⟨_,rfl⟩
  have e2: ∀W,U0 ws W→Calls Tryz.prog 172 #[Y.h.val,.int .i64 (Y.h.number+Y.parts.length),.int .i64 (Y.h.place+Y.used),.bool (decide (Y.parts=[])),.int .i64 (Y.h.area - Y.used),.func (.func 171) #[] #[.pointer (some ⟨w.heap.size,0,none⟩)]] W fun e w'=>
    ∃v,e=.returned (.tuple #[v,.bool RS.1.isSome,.int .i64 RS.2.1])∧Log w' q p Y G'∧Dsk w' p RS.2.2 F∧Upd F W w'∧ ∀b,RS.1=some b→OwnB w' W.heap.size v b∧Bytes b:=fun W hu=>by
   rw[d7]
   exact Zo1 W (hlg.kept hu n3Z) a1.ok (kb hu a1.box) (a1.dsk.kept hu n3Z) a1.dok (by have:=a1.fuel;omega) c2 d1 ⟨g5.1,g2⟩
  have hz:((Y.parts.length:Int) == 0)=decide (Y.parts=[]):=by
   cases hp:Y.parts<;> simp
   omega
  have c3:IntKind.i64.wrap (Y.h.place+Y.used)=Y.h.place+Y.used:=by rw[IntKind.wrap_i64];omega
  have b8:IntKind.i64.wrap (Y.h.area - Y.used)=Y.h.area - Y.used:=by rw[IntKind.wrap_i64];omega
  have h7:=a1.fuel
  have b3:=hlg
  obtain⟨PV,vs,c8,f7⟩:=hlg
  obtain⟨pa,pc,rfl⟩:=rowV c8.row
  have HM:=V c8.main;have a2:=V a1;have f2:=V b3;have e5:=V c2;have a3:=V d1;have b0:=V e6;have f3:=V e2;have a9:=V d7;have a0:=V a1.box;have e1:=V a1.ok;have c0:=V d3
  have hA:Upd F ws ws.drew:=(Upd.refl _ ws).drew
  clear a1 c8 f7 b3 c2 d1 e6 e2 d7 d3 d2
  go_upto_region 2 with fail
  refine Zj 40 (fun W=>Upd F ws W) [false,false,false,false,false,false,false,false,false,false,false,false,false,false,false,false,false,false,false,false,false,false,false,false,false,false,false,false,false,false,false,false,false,false,false,false,false,false,false,false,false] rfl (by kernel_rfl) ?_
  refine tqZ 0 (.pointer (some ⟨q,0,none⟩)) [37,34,33,3,2,1] hA (fun w5 q1=>?_) ?_
  ·have cc:w5.cell? ⟨w.heap.size,0,none⟩=some (.pointer (some ⟨q,0,none⟩)):=by simp[World.cell?,(q1.block _ (Za a0.o) a3.o).trans a0.o]
   go_simp
  simp only[zz]
  refine tpZ 1 (.pointer (some ⟨q,0,none⟩)) hA ?_
  simp only[zz]
  refine tpZ 2 (.pointer (some ⟨q,0,none⟩)) hA ?_
  simp only[zz]
  refine tqZ 3 (Y.h.val) [37,34,33] hA (fun w5 q1=>?_) ?_
  ·refine Zv rfl rfl [.int .i64 Y.h.turn,.int .i64 Y.h.area,.int .i64 Y.h.place,.int .i64 Y.h.number] (fun j v hj=>?_) Tryz.underlying184 rfl Tryz.size107r
   have hm:=(q1.block _ (Za HM.o) b0.o).trans HM.o
   match j,hj with
   | 0,hj=>simp at hj;subst hj;simp[World.cell?,hm,Lg.cells]
   | 1,hj=>simp at hj;subst hj;simp[World.cell?,hm,Lg.cells]
   | 2,hj=>simp at hj;subst hj;simp[World.cell?,hm,Lg.cells]
   | 3,hj=>simp at hj;subst hj;simp[World.cell?,hm,Lg.cells]
   |j+4,hj=>simp at hj
  simp only[zz]
  refine tqZ 4 (.pointer (some ⟨q,0,none⟩)) [37,34,33,5] hA (fun w5 q1=>?_) ?_
  ·have cc:w5.cell? ⟨w.heap.size,0,none⟩=some (.pointer (some ⟨q,0,none⟩)):=by simp[World.cell?,(q1.block _ (Za a0.o) a3.o).trans a0.o]
   go_simp
  simp only[zz]
  refine tqZ 6 (.pointer (some ⟨q,0,none⟩)) [37,34,33,15,10,9,8,7] hA (fun w5 q1=>?_) ?_
  ·have cc:w5.cell? ⟨w.heap.size,0,none⟩=some (.pointer (some ⟨q,0,none⟩)):=by simp[World.cell?,(q1.block _ (Za a0.o) a3.o).trans a0.o]
   go_simp
  simp only[zz]
  refine tpZ 7 (.pointer (some ⟨q,0,none⟩)) hA ?_
  simp only[zz]
  refine tpZ 8 (.pointer (some ⟨q,0,none⟩)) hA ?_
  simp only[zz]
  refine tpZ 9 (.pointer (some ⟨q,2,none⟩)) hA ?_
  simp only[zz]
  refine tqZ 10 (.int .i64 Y.h.place) [37,34,33,15] hA (fun w5 q1=>?_) ?_
  ·have cc:w5.cell? ⟨q,2,none⟩=some (.int .i64 Y.h.place):=by simp[World.cell?,(q1.block _ (Za HM.o) b0.o).trans HM.o,Lg.cells]
   go_simp
  simp only[zz]
  refine tqZ 11 (.pointer (some ⟨q,0,none⟩)) [37,34,33,15,14,13,12] hA (fun w5 q1=>?_) ?_
  ·have cc:w5.cell? ⟨w.heap.size,0,none⟩=some (.pointer (some ⟨q,0,none⟩)):=by simp[World.cell?,(q1.block _ (Za a0.o) a3.o).trans a0.o]
   go_simp
  simp only[zz]
  refine tpZ 12 (.pointer (some ⟨q,0,none⟩)) hA ?_
  simp only[zz]
  refine tpZ 13 (.pointer (some ⟨q,6,none⟩)) hA ?_
  simp only[zz]
  refine tqZ 14 (.int .i64 Y.used) [37,34,33,15] hA (fun w5 q1=>?_) ?_
  ·have cc:w5.cell? ⟨q,6,none⟩=some (.int .i64 Y.used):=by simp[World.cell?,(q1.block _ (Za HM.o) b0.o).trans HM.o,Lg.cells]
   go_simp
  simp only[zz]
  refine tpZ 15 (.int .i64 (Y.h.place+Y.used)) hA ?_
  simp only[zz]
  refine tqZ 16 (.pointer (some ⟨q,0,none⟩)) [37,34,33,21,20,19,18,17] hA (fun w5 q1=>?_) ?_
  ·have cc:w5.cell? ⟨w.heap.size,0,none⟩=some (.pointer (some ⟨q,0,none⟩)):=by simp[World.cell?,(q1.block _ (Za a0.o) a3.o).trans a0.o]
   go_simp
  simp only[zz]
  refine tpZ 17 (.pointer (some ⟨q,0,none⟩)) hA ?_
  simp only[zz]
  refine tpZ 18 (.pointer (some ⟨q,5,none⟩)) hA ?_
  simp only[zz]
  refine tqZ 19 (.slice pa Y.parts.length pc) [37,34,33,21,20] hA (fun w5 q1=>?_) ?_
  ·have cc:w5.cell? ⟨q,5,none⟩=some (.slice pa Y.parts.length pc):=by simp[World.cell?,(q1.block _ (Za HM.o) b0.o).trans HM.o,Lg.cells]
   go_simp
  simp only[zz]
  refine tpZ 20 (.int .i64 Y.parts.length) hA ?_
  simp only[zz]
  refine tpZ 21 (.bool (decide (Y.parts=[]))) hA ?_
  simp only[zz]
  refine tqZ 22 (.pointer (some ⟨q,0,none⟩)) [37,34,33,31,26,25,24,23] hA (fun w5 q1=>?_) ?_
  ·have cc:w5.cell? ⟨w.heap.size,0,none⟩=some (.pointer (some ⟨q,0,none⟩)):=by simp[World.cell?,(q1.block _ (Za a0.o) a3.o).trans a0.o]
   go_simp
  simp only[zz]
  refine tpZ 23 (.pointer (some ⟨q,0,none⟩)) hA ?_
  simp only[zz]
  refine tpZ 24 (.pointer (some ⟨q,0,none⟩)) hA ?_
  simp only[zz]
  refine tpZ 25 (.pointer (some ⟨q,1,none⟩)) hA ?_
  simp only[zz]
  refine tqZ 26 (.int .i64 Y.h.area) [37,34,33,31] hA (fun w5 q1=>?_) ?_
  ·have cc:w5.cell? ⟨q,1,none⟩=some (.int .i64 Y.h.area):=by simp[World.cell?,(q1.block _ (Za HM.o) b0.o).trans HM.o,Lg.cells]
   go_simp
  simp only[zz]
  refine tqZ 27 (.pointer (some ⟨q,0,none⟩)) [37,34,33,31,30,29,28] hA (fun w5 q1=>?_) ?_
  ·have cc:w5.cell? ⟨w.heap.size,0,none⟩=some (.pointer (some ⟨q,0,none⟩)):=by simp[World.cell?,(q1.block _ (Za a0.o) a3.o).trans a0.o]
   go_simp
  simp only[zz]
  refine tpZ 28 (.pointer (some ⟨q,0,none⟩)) hA ?_
  simp only[zz]
  refine tpZ 29 (.pointer (some ⟨q,6,none⟩)) hA ?_
  simp only[zz]
  refine tqZ 30 (.int .i64 Y.used) [37,34,33,31] hA (fun w5 q1=>?_) ?_
  ·have cc:w5.cell? ⟨q,6,none⟩=some (.int .i64 Y.used):=by simp[World.cell?,(q1.block _ (Za HM.o) b0.o).trans HM.o,Lg.cells]
   go_simp
  simp only[zz]
  refine tpZ 31 (.int .i64 (Y.h.area - Y.used)) hA ?_
  simp only[zz]
  refine tpZ 32 (.func (.func 171) #[] #[.pointer (some ⟨w.heap.size,0,none⟩)]) hA ?_
  simp only[zz]
  refine diZ 5 (fun K HKK=>?_)
  go_step
  refine(Zdd _ (f2.o.kept hA e5.o) e1.o).mono ?_
  rintro e w6 ⟨rfl,c7⟩
  have c5:Upd F ws w6:=hA.trans (c7.mono (fun _ _ e=>e.elim))
  have c4:RowKit.Hid (U0 ws w6):=V ((Upd.refl _ ws).drew.trans c7)
  clear hA c7
  simp only[]
  refine HKK.o _ _ c5 ?_
  clear HKK
  simp only[zz]
  refine diZ 33 (fun K HKK=>?_)
  go_step
  refine(f3.o _ c4.o).mono ?_
  rintro e w7 g4
  obtain⟨v,rfl,b1,e9,d0,e4⟩:=g4
  have a5:Upd F ws w7:=c5.trans d0
  have b7:=V b1;have e0:=V e9;have f8:=V d0;have e7:=V e4
  clear c5 d0 b1 e9 e4
  simp only[]
  refine HKK.o _ _ a5 ?_
  clear HKK
  simp only[zz]
  refine tpZ 34 (.tuple #[v,.bool RS.1.isSome,.int .i64 RS.2.1]) a5 ?_
  simp only[zz]
  refine tpZ 35 (v) a5 ?_
  simp only[zz]
  refine tpZ 36 (.bool RS.1.isSome) a5 ?_
  simp only[zz]
  refine tpZ 37 (.int .i64 RS.2.1) a5 ?_
  simp only[zz]
  refine tpZ 38 (v) a5 ?_
  simp only[zz]
  refine tpZ 39 (.bool RS.1.isSome) a5 ?_
  simp only[zz]
  refine tlZ 40 ?_
  simp only[List.drop]
  have a7:=Zi2 (hd:=Y.h) (number:=Y.h.number+Y.parts.length) (place:=Y.h.place+Y.used) (left:=Y.h.area - Y.used) (snap:=decide (Y.parts=[])) (by omega) a2.o.dok
  rw[←a9.o] at a7
  have d4:=V a7;have b2:=V a5
  clear a7 a5 c3 b8 hz HM f3
  rcases hob:RS.1 with _ | b
  ·have e8:a4=(Y.parts,RS.2):=by
    rw[←a2.o.res,←a2.o.hd,Zoc (by omega) (by rw[←a9.o];exact hob),←a9.o]
   have d6:=V e8;have h6:=V hob
   clear e8 hob
   have a6: ∃Y' G'' D',(Ending.returned (.int .i64 RS.2.1))=.returned (.int .i64 a4.2.1)∧Y'.h=X.h∧Y'.broken=X.broken∧Y'.parts=a4.1∧Y'.used=Zx Y'.parts∧Y'.used≤Y'.h.area∧Y'.Ok∧D'=a4.2.2∧Log w7 q p Y' G''∧(∀k,G'' k→G k∨w.heap.size≤k)∧Dsk w7 p D' F∧D'.Ok (N+1001000)∧Upd (fun k=>G k∨F k) w w7:=by
    have h:=a2.o
    refine⟨Y,G',RS.2.2,by rw[d6.o],h.hd,h.brk,by rw[d6.o],h.used,h.fits,h.ok,by rw[d6.o],b7.o,fun k hk=>?_,e0.o,Dk.Ok.mono d4.o (by omega),h.upd.step b2.o (fun k _ e=>.inr e)⟩
    rcases c0.o k hk with e | e
    ·exact .inl e
    ·exact .inr (by omega)
   have e3:=V a6
   clear a6
   by_cases hE:RS.2.1=0
   ·have g1:(RS.2.1 !=0)=false:=by simpa using hE
    simp only[Option.isSome]
    go_wp2
    go_ret
    exact e3.o
   ·have g1:(RS.2.1 !=0)=true:=by simpa using hE
    simp only[Option.isSome]
    go_wp2
    go_ret
    exact e3.o
  ·obtain⟨hE,h5,f5⟩:=Zck (b:=b) (by rw[←a9.o];exact hob)
   rw[←a9.o] at hE
   obtain⟨c3,b8⟩:=e7.o b hob
   have b5:RS=(some b,0,RS.2.2):=by rw[←hob,←hE]
   have d5:=V b5;have c9:=V c3;have f9:=V b8
   rw[hE]
   have h1:=Yu b.length
   have g7:=a2.o.cnt
   have b6:=(b2.o.block _ (Za a0.o) a3.o).trans a0.o
   have h2:w7.cell? ⟨w.heap.size,0,none⟩=some (.pointer (some ⟨q,0,none⟩)):=Zf b6
   clear b5 c3 b8 hob hE e7 b6
   simp only[Option.isSome]
   go_wp2_with (go_at_call 117;fail)
   refine(Zhd (B:=w6.heap.size) w7 b7.o e1.o (by omega) c9.o (fun k hk e=>by have:=(World.ownsRow.lt c9.o k hk).1;have:=f2.o.lt k e;have:=c4.o.size;omega) f5).mono ?_
   rintro e w8 ⟨rfl,⟨G2,b4,f4⟩,b9⟩
   have f1:FndAt w q p X (Y.add b) a4 (gk - 1) RS.2.2 G F N w8:=by
    have h:=a2.o
    refine h.more (G2:=G2) (by rw[←a9.o];exact d5.o) f9.o b4 (fun k hk=>?_) (e0.o.kept b9 (fun k hk e=>e5.o k e hk)) ((h.upd.step b2.o (fun k _ e=>.inr e)).step b9 (fun k hk e=>?_)) ((b9.block _ (Za ((b2.o.block _ (Za a0.o) a3.o).trans a0.o)) (fun e=>?_)).trans ((b2.o.block _ (Za a0.o) a3.o).trans a0.o))
    ·have g8:=Za a0.o;have g9:=c4.o.size;have g6:=f8.o.size
     rcases f4 k hk with e | e | e
     ·exact c0.o k e
     ·have:=(World.ownsRow.lt c9.o k e).1
      exact .inr (by omega)
     ·exact .inr (by omega)
    ·rcases c0.o k e with e | e
     ·exact .inl e
     ·omega
    ·rcases c0.o _ e with e | e
     ·have:=g0.o _ e;omega
     ·omega
   have f6:=V f1
   clear b4 f4 b9 f1
   simp only[]
   go_wp2
   go_roundg (gk - 1)
   case measure=>omega
   case rel=>exact⟨_,_,_,rfl,f6.o⟩
end
end Go.Proofs.YtbimkhdiplnbfaaGreat
