/- Walks. -/
import Derived.Test.YtbimkhdiplnbfaaGreatU30
set_option linter.unusedVariables false
set_option linter.unusedSimpArgs false
namespace Go.Proofs.YtbimkhdiplnbfaaGreat
set_option maxRecDepth 1000000
set_option maxHeartbeats 16000000
variable {B:BatchV} {D:Dk} {area ev:Int} {s:Int×KV} {l:KV} {X:Lg} {B0 N m p q:Nat} {C F G T:Nat→Prop} {w:World}
section
open Go.RowKit Go.Shelf
theorem ModAt.kept0 {w':World}(h:ModAt w m q p s area X D C T G F)(hu:U0 w w'):ModAt w' m q p s area X D C T G F:=by
 obtain⟨a,c,h1,h2,h3⟩:=h.cells
 exact⟨⟨a,c,kb hu h1,h2.kept0 hu,h3⟩,h.sub,fun k hk=>⟨(h.apart k hk).1,(h.apart k hk).2.1,(h.apart k hk).2.2.1,Nat.lt_of_lt_of_le (h.apart k hk).2.2.2 hu.size⟩,h.nm,h.gf,h.row.kept hu n3Z,h.log.kept hu n3Z,h.disk.kept hu n3Z,h.fine⟩
theorem ModAt.lt (h:ModAt w m q p s area X D C T G F):m<w.heap.size∧(∀k,T k→k<w.heap.size)∧(∀k,G k→k<w.heap.size)∧(∀k,F k→k<w.heap.size):=by
 obtain⟨a,c,h1,h2,h3⟩:=h.cells
 exact⟨Za h1,fun k hk=>(h.apart k hk).2.2.2,h.log.lt,h.disk.lt⟩
theorem ModAt.after1 {wA wB:World}{X':Lg}{D':Dk}{G' F':Nat→Prop}(h:ModAt w m q p s area X D C T G F)(hA:U0 w wA)(hW:Wal wB q p X' D' G' F')
  (hG: ∀k,G' k→G k∨wA.heap.size≤k) (hF: ∀k,F' k→F k∨wA.heap.size≤k) (hB:Upd (fun k=>G k∨F k) wA wB):ModAt wB m q p s area X' D' C T G' F':=by
 have h0:=h.kept0 hA
 obtain⟨z1,z2,z3,z4⟩:=h0.lt
 obtain⟨a,c,h1,h2,h3⟩:=h0.cells
 have hT: ∀k,T k→ ¬(G k∨F k):=fun k hk e=>e.elim (h.apart k hk).1 (h.apart k hk).2.1
 refine⟨⟨a,c,(hB.block _ z1 (fun e=>e.elim h.nm.1 h.nm.2)).trans h1,h2.kept hB (fun g o e=>hT g (h3 g o e)) (fun k hk=>hT k (h.sub k hk)),h3⟩,h.sub,fun k hk=>⟨fun e=>?_,fun e=>?_,(h.apart k hk).2.2.1,Nat.lt_of_lt_of_le (z2 k hk) hB.size⟩,⟨fun e=>?_,fun e=>?_⟩,hW.2.2,h0.row.kept hB (fun k hk=>hT k (h.sub k hk)),hW.1,hW.2.1,h.fine⟩
 ·have:=z2 k hk
  rcases hG k e with e | e
  ·exact(h.apart k hk).1 e
  ·omega
 ·have:=z2 k hk
  rcases hF k e with e | e
  ·exact(h.apart k hk).2.1 e
  ·omega
 ·rcases hG _ e with e | e
  ·exact h.nm.1 e
  ·omega
 ·rcases hF _ e with e | e
  ·exact h.nm.2 e
  ·omega
theorem ModAt.after2 {wA wB:World}{ev':Int}{l':KV}{X':Lg}{D':Dk}{CB C' G' F':Nat→Prop}{a':Option Addr}{c':Nat}(h:ModAt w m q p (ev,l) area X D C T G F)(hA:U0 w wA)(hW:Wal wB q p X' D' G' F')
  (hG: ∀k,G' k→G k∨wA.heap.size≤k) (hF: ∀k,F' k→F k∨wA.heap.size≤k) (hB:Upd (fun k=>G k∨F k) wA wB) (hCB: ∀k,CB k→ ¬G k∧ ¬F k∧k≠m∧k<w.heap.size) (hv:ValsAt wA C' a' l') (hr:RowC wA C') (hf:l'.Fine) (hc: ∀k,C' k→T k∨CB k)
  (ha: ∀g o,a'=some ⟨g,o,none⟩→w.heap.size≤g∧g<wA.heap.size):
  ModAt ((wB.setCell ⟨m,1,none⟩ (.int .u64 ev')).setCell ⟨m,2,none⟩ (.slice a' l'.length c')) m q p (ev',l') area X' D' C' (fun k=>T k∨CB k∨(w.heap.size≤k∧k<wA.heap.size)) G' F'∧Upd (fun k=>G k∨F k∨k=m) w ((wB.setCell ⟨m,1,none⟩ (.int .u64 ev')).setCell ⟨m,2,none⟩ (.slice a' l'.length c')):=by
 have h0:=h.after1 hA hW hG hF hB
 obtain⟨z1,z2,z3,z4⟩:=h.lt
 have a3:=hA.size
 have a2:=hB.size
 have hu:Upd (fun k=>k=m) wB ((wB.setCell ⟨m,1,none⟩ (.int .u64 ev')).setCell ⟨m,2,none⟩ (.slice a' l'.length c')):=(Zd wB m 1 _).trans (Zd _ m 2 _)
 obtain⟨a0,c0,h1,h2,h3⟩:=h0.cells
 have hT: ∀k,(T k∨CB k∨(w.heap.size≤k∧k<wA.heap.size))→ ¬(G k∨F k)∧k≠m∧k<wA.heap.size:=fun k hk=>by
  rcases hk with hk | hk | hk
  ·have:=(h.apart k hk)
   exact⟨fun e=>e.elim this.1 this.2.1,this.2.2.1,by omega⟩
  ·have:=(hCB k hk)
   exact⟨fun e=>e.elim this.1 this.2.1,this.2.2.1,by omega⟩
  ·exact⟨fun e=>e.elim (fun e=>by have:=z3 k e;omega) (fun e=>by have:=z4 k e;omega),by omega,by omega⟩
 have hC: ∀k,C' k→(T k∨CB k∨(w.heap.size≤k∧k<wA.heap.size)):=fun k hk=>(hc k hk).imp_right .inl
 have a1: ∀g o,a'=some ⟨g,o,none⟩→(T g∨CB g∨(w.heap.size≤g∧g<wA.heap.size)):=fun g o e=>.inr (.inr (ha g o e))
 refine⟨⟨⟨a',c',?_,?_,a1⟩,hC,fun k hk=>⟨fun e=>?_,fun e=>?_,(hT k hk).2.1,?_⟩,h0.nm,hW.2.2,?_,hW.1.kept hu (fun k hk e=>h0.nm.1 (e ▸ hk)),hW.2.1.kept hu (fun k hk e=>h0.nm.2 (e ▸ hk)),hf⟩,?_⟩
 ·have:=Ze (i:=2) (v:=.slice a' l'.length c') (Ze (i:=1) (v:=.int .u64 ev') h1)
  simpa using this
 ·exact(hv.kept hB (fun g o e=>(hT g (a1 g o e)).1) (fun k hk=>(hT k (hC k hk)).1)).kept hu (fun g o e=>(hT g (a1 g o e)).2.1) (fun k hk=>(hT k (hC k hk)).2.1)
 ·have:=hT k hk
  rcases hG k e with e | e
  ·exact this.1 (.inl e)
  ·omega
 ·have:=hT k hk
  rcases hF k e with e | e
  ·exact this.1 (.inr e)
  ·omega
 ·have:=hT k hk
  have:=hu.size
  omega
 ·exact(hr.kept hB (fun k hk=>(hT k (hC k hk)).1)).kept hu (fun k hk=>(hT k (hC k hk)).2.1)
 ·exact((hA.mono (F:=fun _=>False) (G:=fun k=>G k∨F k∨k=m) (fun _ _ e=>e.elim)).step (hB.mono (F:=fun k=>G k∨F k) (G:=fun k=>G k∨F k∨k=m) (fun _ _ e=>e.elim .inl (fun e=>.inr (.inl e)))) n3Z).step (hu.mono (F:=fun k=>k=m) (G:=fun k=>G k∨F k∨k=m) (fun _ _ e=>.inr (.inr e))) n3Z
def MDone (w:World)(m q p:Nat)(ev area:Int)(l:KV)(T G F CB:Nat→Prop)(B:BatchV)(E:Int)(X':Lg)(D':Dk)(e:Ending)(w':World):Prop:=
 e=.returned (.int .i64 E)∧ ∃C' T' G' F',ModAt w' m q p (if E=0 then(B.epoch,l.withs B.sets) else(ev,l)) area X' D' C' T' G' F'∧(∀k,T' k→T k∨CB k∨w.heap.size≤k)∧(∀k,G' k→G k∨w.heap.size≤k)∧(∀k,F' k→F k∨w.heap.size≤k)∧Upd (fun k=>G k∨F k∨k=m) w w'
def MCommitAns (w:World)(m q p:Nat)(ev area:Int)(l:KV)(X:Lg)(D:Dk)(T G F CB:Nat→Prop)(B:BatchV)(e:Ending)(w':World):Prop:=
 match Z2 ev area l X B with
 |.no E=>NoAns w E e w'
 |.app=> ∃hb:Bytes (encF B),(X.refuses (encF B).length X.used≠0∧NoAns w (X.refuses (encF B).length X.used) e w')∨
   (X.refuses (encF B).length X.used=0∧MDone w m q p ev area l T G F CB B (D.laysE (X.apS (encF B) hb)) (X.after (encF B) (D.laysE (X.apS (encF B) hb))) (D.lays (X.apS (encF B) hb)) e w')
 |.cp=> ∃hb:Bytes (Zz B.epoch (l.withs B.sets)),(X.refuses (Zz B.epoch (l.withs B.sets)).length 0≠0∧NoAns w (X.refuses (Zz B.epoch (l.withs B.sets)).length 0) e w')∨
   (X.refuses (Zz B.epoch (l.withs B.sets)).length 0=0∧X.h.turn=1073741824∧NoAns w 6 e w')∨
   (X.refuses (Zz B.epoch (l.withs B.sets)).length 0=0∧X.h.turn≠1073741824∧MDone w m q p ev area l T G F CB B (X.cpE D (Zz B.epoch (l.withs B.sets)) hb) (X.cp (Zz B.epoch (l.withs B.sets)) (X.cpE D (Zz B.epoch (l.withs B.sets)) hb)) (X.cpD D (Zz B.epoch (l.withs B.sets)) hb) e w')
def MDid (B0:Nat)(CC:Nat→Prop)(ev:Int)(l:KV)(B:BatchV)(ev5:Int)(a5:Option Addr)(n5:Nat)(W:World):Prop:=
 doE ev l B=0→ev5=B.epoch∧n5=(l.withs B.sets).length∧ValsAt W CC a5 (l.withs B.sets)∧ ∀g o,a5=some ⟨g,o,none⟩→B0≤g∧ ∃ds,W.heap[g]?=some (.cells ds 164 (0,0))
theorem MDid.kept0 {n5:Nat}{CC:Nat→Prop}{ev5:Int}{a5:Option Addr}{W W':World}(h:MDid B0 CC ev l B ev5 a5 n5 W)(hu:U0 W W'):MDid B0 CC ev l B ev5 a5 n5 W':=fun e=>by
 obtain⟨h1,h2,h3,h4⟩:=h e
 exact⟨h1,h2,h3.kept0 hu,fun g o e=>⟨(h4 g o e).1,(h4 g o e).2.imp fun ds q=>kb hu q⟩⟩
theorem MDid.put {n5 t:Nat}{CC:Nat→Prop}{ev5:Int}{a5:Option Addr}{cs:Array Value}{W W':World}(h:MDid B0 CC ev l B ev5 a5 n5 W)(hx:W.heap[t]?=some (.cells cs 62 (0,0)))(hr:RowC W CC)(hu:Upd (fun k=>k=t) W W'):MDid B0 CC ev l B ev5 a5 n5 W':=fun e=>by
 obtain⟨h1,h2,h3,h4⟩:=h e
 have hg: ∀g o,a5=some ⟨g,o,none⟩→ ¬g=t:=fun g o e=>by
  obtain⟨_,ds,q⟩:=h4 g o e
  exact Zs q hx (by decide)
 have hc: ∀k,CC k→ ¬k=t:=fun k hk=>by
  obtain⟨ds,q⟩:=hr k hk
  exact Zs q hx (by decide)
 exact⟨h1,h2,h3.kept hu hg hc,fun g o e=>⟨(h4 g o e).1,(h4 g o e).2.imp fun ds q=>(hu.block _ (Za q) (hg g o e)).trans q⟩⟩
theorem Zho {R:Nat→Prop}{a sa:Option Addr}{c sc:Nat}(w0:World)(hB:B0≤w0.heap.size)(hV:ValsAt w0 C a l)(hl:l.length≤900)(hs:SetsAt w0 R C sa B.sets)(hsl:B.sets.length≤60)(hC:RowC w0 C)(hby: ∀p∈l,Bytes p.2)(hri:l.Rising)(hR: ∀k,R k→k<w0.heap.size):
  Calls Tryz.prog 166 #[.agg #[.int .u64 ev,.slice a l.length c],.agg #[.int .u64 B.epoch,.bool B.large,.slice sa B.sets.length sc]] w0 fun e w'=> ∃ev5 a5 n5 c5,e=.returned (.tuple #[.agg #[.int .u64 ev5,.slice a5 n5 c5],.int .i64 (doE ev l B)])∧MDid B0 C ev l B ev5 a5 n5 w'∧U0 w0 w':=by
 refine(Zfg w0 hV hl hs hsl hC hby hri hR).mono ?_
 rintro e w' ⟨hu,⟨hE,rfl⟩ | ⟨hE,a',c',rfl,hv⟩⟩
 ·exact⟨ev,a,l.length,c,rfl,fun e=>absurd e hE,hu⟩
 ·refine⟨B.epoch,a',_,c',by rw[hE],fun _=>⟨rfl,rfl,hv.valsAt,fun g o e=>⟨?_,hv.block164 (hv.none_or g o e)⟩⟩,hu⟩
  have ho:=hv.none_or g o e
  obtain⟨_,_,h4,_⟩:=hv
  exact Nat.le_trans hB (World.ownsRow.lt h4 g ho).1
theorem Zmg {sc K:Nat}{R CB:Nat→Prop}{sa:Option Addr}(w:World)(hm:ModAt w m q p (ev,l) area X D C T G F)(hX:X.Ok)(hpl:X.parts.length<1000)(hD:D.Ok K)(hK:K≤1000000000)
  (har:4≤area∧area≤1000) (hs:SetsAt w R CB sa B.sets) (hR: ∀k,R k→k<w.heap.size) (hrc:RowC w CB) (hsl:B.sets.length≤60) (hcap:B.sets.length≤sc) (hk:B.Ok) (hCB: ∀k,CB k→ ¬G k∧ ¬F k∧k≠m):
  Calls Tryz.prog 124 #[.pointer (some ⟨m,0,none⟩),batchV B sa sc] w (MCommitAns w m q p ev area l X D T G F CB B):=by
 obtain⟨w1,n6,k4,n2⟩:=nb w (.cells #[.int .u64 B.epoch,.bool B.large,.slice sa B.sets.length sc] 56)
 have g8: ∀k,CB k→ ¬G k∧ ¬F k∧k≠m∧k<w.heap.size:=fun k hk=>⟨(hCB k hk).1,(hCB k hk).2.1,(hCB k hk).2.2,hrc.lt k hk⟩
 have l6:=Zfe (c:=sc) w1 (hs.setsIn.kept k4) (by omega) hcap
 unfold batchV at l6
 obtain⟨ma,mc,o8,p3,o7⟩:=hm.cells
 obtain⟨y0,y1,y2⟩:=Zk n2
 have f4:=kb k4 o8
 have HM:=V hm;have HX:=V hX;have HD:=V hD;have HS:=V hs;have o0:=V hR;have q2:=V hrc;have HK:=V hk;have n8:=V g8;have o9:=V n6;have m6:=V n2;have j2:=V k4;have n9:=V l6
 have p7:=V f4;have q4:=V p3;have r0:=V o7;have p4:=V hsl;have f3:=V (show l.Fine from hm.fine)
 obtain⟨c0,c1,c2,c3⟩:=Zp f4
 clear hm hX hD hs hR hrc hk hCB g8 n6 n2 k4 l6 f4 o8 p3 o7 hsl
 unfold batchV
 go_enter Tryz.func124,Tryz.ntmps124
 go_upto_region 1 with fail
 rw[←o9.o]
 clear o9
 go_wp2_with (go_at_call 74;fail)
 refine(Zdu w1 (HM.o.log.kept j2.o n3Z)).mono ?_
 rintro e w2 ⟨rfl,rfl⟩
 simp only[]
 cases hbr:X.broken with
 |true=>
  have HP:=V (show Z2 ev area l X B=.no 8 by unfold Z2;rw[if_pos hbr])
  go_wp2
  go_ret
  unfold MCommitAns
  rw[HP.o]
  exact⟨rfl,j2.o⟩
 |false=>
  have k7:=V hbr
  go_wp2_with (go_at_call 22;fail)
  refine n9.o.mono ?_
  rintro e w2 ⟨rfl,g9⟩
  have b4:=V (j2.o.trans g9)
  have p5:=V (kb g9 m6.o)
  have n0:=V (kb g9 p7.o)
  have k0:=V (show w.heap.size<w2.heap.size from Nat.lt_of_lt_of_le (Za m6.o) g9.size)
  clear g9 y0 y1 y2 c0 c1 c2 c3 n9 p7 m6
  simp only[]
  cases hr:B.right with
  |false=>
   have HP:=V (show Z2 ev area l X B=.no 2 by unfold Z2;rw[if_neg (by rw[k7.o];decide),if_pos hr])
   go_wp2
   go_ret
   unfold MCommitAns
   rw[HP.o]
   exact⟨rfl,b4.o⟩
  |true=>
   have HR:=V hr
   obtain⟨E,hE⟩: ∃E,E=doE ev l B:=⟨_,rfl⟩
   have HE:=V hE
   obtain⟨bx,j5⟩: ∃bx,bx=w.heap.size:=⟨_,rfl⟩
   have n3:=V (show w2.heap[bx]?=some (.cells #[.int .u64 B.epoch,.bool B.large,.slice sa B.sets.length sc] 56 (0,0)) by rw[j5];exact p5.o)
   have m8:=V ((q4.o.kept0 b4.o).moreC (C':=fun k=>C k∨CB k) (fun _ e=>.inl e))
   have m0:=V ((HS.o.kept b4.o n3Z n3Z).moreC (C':=fun k=>C k∨CB k) (fun _ e=>.inr e))
   have f9:=V (show RowC w2 (fun k=>C k∨CB k) from fun k hk=>hk.elim (HM.o.row.kept b4.o n3Z k) (q2.o.kept b4.o n3Z k))
   go_upto_region 5 with fail
   rw[←j5]
   have q7:=V j5
   clear hbr hr hE j5
   go_cut [5,6] from 16 to 25 (fun v5 v6 wx=> ∃t5 a6 a5 n5 c5,v5=.pointer (some ⟨t5,0,none⟩)∧v6=.int .i64 E∧wx.heap[t5]?=some (.cells #[.int .u64 a6,.slice a5 n5 c5] 62 (0,0))∧MDid w.heap.size (fun k=>C k∨CB k) ev l B a6 a5 n5 wx∧U0 w2 wx∧w2.heap.size≤t5)
   case first=>
    have hA:U0 w2 w2.drew:=(Upd.refl _ _).drew
    have HU:=V hA
    refine Zj 10 (fun W=>U0 w2 W) [false,false,false,false,false,false,false,false,false,false,false,false] rfl (by kernel_rfl) ?_
    generalize w2.drew=wd at hA HU ⊢
    refine tpZ 0 (.pointer (some ⟨m,0,none⟩)) hA ?_
    simp only[zz]
    refine tpZ 1 (.pointer (some ⟨m,0,none⟩)) hA ?_
    simp only[zz]
    refine tpZ 2 (.pointer (some ⟨m,1,none⟩)) hA ?_
    simp only[zz]
    refine tqZ 3 (.agg #[.int .u64 ev,.slice ma l.length mc]) [] hA (fun w5 q1=>?_) ?_
    ·obtain⟨c0,c1,c2,c3⟩:=Zp (kb q1 n0.o)
     go_simp
    simp only[zz]
    refine tqZ 4 (.agg #[.int .u64 B.epoch,.bool B.large,.slice sa B.sets.length sc]) [] hA (fun w5 q1=>?_) ?_
    ·obtain⟨c0,c1,c2⟩:=Zk (kb q1 n3.o)
     go_simp
    simp only[zz]
    refine Ya (i:=5) (j:=9) rfl rfl (by kernel_rfl) rfl rfl (fun K hK=>?_) (fun K hK=>?_)
    ·have a0:=V hK
     clear hK
     go_step
     refine(Zho (R:=R) wd (Nat.le_trans b4.o.size hA.size) (m8.o.kept0 hA) (by have:=f3.o.len;omega) (m0.o.kept hA n3Z n3Z) p4.o (f9.o.kept hA n3Z) (fun p hp=>(f3.o.each p hp).2.2.2) f3.o.rising (fun k hk=>Nat.lt_of_lt_of_le (o0.o k hk) (Nat.le_trans b4.o.size hA.size))).mono ?_
     rintro e i3 ⟨a6,a5,n5,c5,rfl,g1,g2⟩
     rw[←HE.o]
     have hA:=hA.trans g2
     have HU:=V hA
     have g7:=V g1
     clear g1 g2
     simp only[]
     refine a0.o _ _ hA ?_
     clear a0
     simp only[zz]
     refine tpZ 6 (.tuple #[.agg #[.int .u64 a6,.slice a5 n5 c5],.int .i64 E]) hA ?_
     simp only[zz]
     refine tpZ 7 (.agg #[.int .u64 a6,.slice a5 n5 c5]) hA ?_
     simp only[zz]
     refine tpZ 8 (.int .i64 E) hA ?_
     simp only[zz]
     refine doZ 9 (fun K a0=>?_)
     go_step
     have ua:U0 i3 (i3.alloc (.cells #[.int .u64 0,.slice none 0 0] 62)):=(Upd.refl _ _).alloc _
     have e6:=V HU.o.size
     have HX:=V (Zc (w:=i3) (o:=.cells #[.int .u64 0,.slice none 0 0] 62) rfl)
     have hA:=hA.trans ua
     have HU:=V (HU.o.trans ua)
     have g7:=V (g7.o.kept0 ua)
     clear ua
     refine a0.o _ _ hA ?_
     clear a0
     simp only[zz]
     generalize i3.alloc (.cells #[.int .u64 0,.slice none 0 0] 62)=wdNX at HX hA HU g7 ⊢
     generalize i3.heap.size=bo at HX e6 ⊢
     refine tlZ 10 ?_
     simp only[List.drop]
     have f0:wdNX.frozen? ⟨bo,0,none⟩=false:=Zb HX.o
     have f1:wdNX.frozen? ⟨bo,1,none⟩=false:=Zb HX.o
     obtain⟨d0,d1⟩:=Zg HX.o
     go_wp2
     go_meet
     case rel=>
      obtain⟨p1,p2⟩:=put2 (u:=.int .u64 a6) (v:=.slice a5 n5 c5) HX.o
      exact⟨bo,a6,a5,n5,c5,rfl,rfl,p1,g7.o.put HX.o (f9.o.kept hA n3Z) p2,hA.step p2 (fun k hk e=>by have:=e6.o;omega),e6.o⟩
    ·have a0:=V hK
     clear hK
     go_step
     have ua:U0 wd (wd.alloc (.cells #[.int .u64 0,.slice none 0 0] 62)):=(Upd.refl _ _).alloc _
     have e6:=V HU.o.size
     have HX:=V (Zc (w:=wd) (o:=.cells #[.int .u64 0,.slice none 0 0] 62) rfl)
     have hA:=hA.trans ua
     have HU:=V (HU.o.trans ua)
     clear ua
     refine a0.o _ _ hA ?_
     clear a0
     simp only[zz]
     generalize wd.alloc (.cells #[.int .u64 0,.slice none 0 0] 62)=wdX at HX hA HU ⊢
     generalize wd.heap.size=bo at HX e6 ⊢
     refine doZ 5 (fun K a0=>?_)
     go_step
     refine(Zho (R:=R) wdX (Nat.le_trans b4.o.size hA.size) (m8.o.kept0 hA) (by have:=f3.o.len;omega) (m0.o.kept hA n3Z n3Z) p4.o (f9.o.kept hA n3Z) (fun p hp=>(f3.o.each p hp).2.2.2) f3.o.rising (fun k hk=>Nat.lt_of_lt_of_le (o0.o k hk) (Nat.le_trans b4.o.size hA.size))).mono ?_
     rintro e h0 ⟨a6,a5,n5,c5,rfl,g1,g2⟩
     rw[←HE.o]
     have hA:=hA.trans g2
     have HU:=V hA
     have g7:=V g1
     have HX:=V (kb g2 HX.o)
     clear g1 g2
     simp only[]
     refine a0.o _ _ hA ?_
     clear a0
     simp only[zz]
     refine tpZ 6 (.tuple #[.agg #[.int .u64 a6,.slice a5 n5 c5],.int .i64 E]) hA ?_
     simp only[zz]
     refine tpZ 7 (.agg #[.int .u64 a6,.slice a5 n5 c5]) hA ?_
     simp only[zz]
     refine tpZ 8 (.int .i64 E) hA ?_
     simp only[zz]
     refine tlZ 10 ?_
     simp only[List.drop]
     have f0:h0.frozen? ⟨bo,0,none⟩=false:=Zb HX.o
     have f1:h0.frozen? ⟨bo,1,none⟩=false:=Zb HX.o
     obtain⟨d0,d1⟩:=Zg HX.o
     go_wp2
     go_meet
     case rel=>
      obtain⟨p1,p2⟩:=put2 (u:=.int .u64 a6) (v:=.slice a5 n5 c5) HX.o
      exact⟨bo,a6,a5,n5,c5,rfl,rfl,p1,g7.o.put HX.o (f9.o.kept hA n3Z) p2,hA.step p2 (fun k hk e=>by have:=e6.o;omega),e6.o⟩
   case rest=>
    obtain⟨t5,a6,a5,n5,c5,rfl,rfl,l3,l5,g3,l2⟩:=hcut
    have o4:=V (b4.o.trans g3)
    have j4:=V (kb g3 n3.o)
    have l4:=V (kb g3 n0.o)
    have m2:=V (f9.o.kept g3 n3Z)
    have b5:=V l3
    have j8:=V l2
    clear p5 n3 n0 j2 m8 m0 f9
    by_cases h6:E=0
    rotate_left
    ·have c9:(E !=0)=true:=by simpa using h6
     have q6:(E == 0)=false:=by simpa using h6
     have HP:=V (show Z2 ev area l X B=.no E by unfold Z2;rw[if_neg (by rw[k7.o];decide),if_neg (by rw[HR.o];decide),←HE.o,if_pos h6])
     clear h6 l5 l3 g3 l2
     go_wp2
     go_ret
     unfold MCommitAns
     rw[HP.o]
     exact⟨rfl,o4.o⟩
    ·subst h6
     obtain⟨h1,h2,h3,h4⟩:=l5 HE.o.symm
     subst h1
     subst h2
     have i4:=Zdg f3.o HR.o HK.o HE.o.symm
     have a2:=V i4.1
     have b7:=V (show 0≤B.epoch∧B.epoch≤4611686018427387904 from⟨HK.o.epoch.1,(BatchV.right_sets HR.o).1⟩)
     have k6:=V h3;have l7:=V h4
     obtain⟨L,hL⟩: ∃L,L=l.withs B.sets:=⟨_,rfl⟩
     rw[←hL] at b5 a2 k6
     obtain⟨wh,b9⟩: ∃wh,wh=Zz B.epoch L:=⟨_,rfl⟩
     obtain⟨ft,q0⟩: ∃ft,ft=Yh wh.length (area - 8):=⟨_,rfl⟩
     have g6:=V hL;have b8:=V b9;have p8:=V q0
     clear l5 l3 i4 h3 h4 hL b9 q0 l2 g3
     go_upto_region 8 with fail
     go_cut [29] from 30 to 41 (fun v wx=>v=.bool (B.large && !ft)∧U0 wc wx)
     case first=>
      have hA:U0 wc wc.drew:=(Upd.refl _ _).drew
      by_cases j6:B.large=true
      rotate_left
      ·have j0:=V (show B.large=false by simpa using j6)
       clear j6
       refine Zj 11 (fun W=>U0 wc W) [false,false,false,false,false,false,false,false,false,false,false,false] rfl (by kernel_rfl) ?_
       generalize wc.drew=wd at hA ⊢
       refine tpZ 0 (.pointer (some ⟨bx,1,none⟩)) hA ?_
       simp only[zz]
       refine tqZ 1 (.bool false) [10,2] hA (fun w5 q1=>?_) ?_
       ·obtain⟨c0,c1,c2⟩:=Zk (kb q1 j4.o)
        rw[j0.o] at c1
        go_simp
       simp only[zz]
       refine tpZ 2 (.bool false) hA ?_
       simp only[zz]
       refine trZ 3 [8] hA ?_
       simp only[zz]
       refine trZ 4 [8,7,6,5] hA ?_
       simp only[zz]
       refine trZ 5 [8,7,6] hA ?_
       simp only[zz]
       refine trZ 6 [8,7] hA ?_
       simp only[zz]
       refine trZ 7 [8] hA ?_
       simp only[zz]
       refine trZ 8 [] hA ?_
       simp only[zz]
       refine trZ 9 [10] hA ?_
       simp only[zz]
       refine tpZ 10 (.bool false) hA ?_
       simp only[zz]
       refine tlZ 11 ?_
       simp only[List.drop]
       go_wp2
       go_meet
       case rel=>exact⟨by rw[j0.o];rfl,hA⟩
      ·have j0:=V j6
       clear j6
       refine Zj 11 (fun W=>U0 wc W) [false,false,false,false,false,false,false,false,false,false,false,false] rfl (by kernel_rfl) ?_
       generalize wc.drew=wd at hA ⊢
       refine tpZ 0 (.pointer (some ⟨bx,1,none⟩)) hA ?_
       simp only[zz]
       refine tqZ 1 (.bool true) [10,2] hA (fun w5 q1=>?_) ?_
       ·obtain⟨c0,c1,c2⟩:=Zk (kb q1 j4.o)
        rw[j0.o] at c1
        go_simp
       simp only[zz]
       refine tpZ 2 (.bool true) hA ?_
       simp only[zz]
       refine tqZ 3 (.agg #[.int .u64 B.epoch,.slice a5 L.length c5]) [8] hA (fun w5 q1=>?_) ?_
       ·obtain⟨c0,c1⟩:=Zg (kb q1 b5.o)
        go_simp
       simp only[zz]
       refine tpZ 4 (.pointer (some ⟨m,0,none⟩)) hA ?_
       simp only[zz]
       refine tpZ 5 (.pointer (some ⟨m,0,none⟩)) hA ?_
       simp only[zz]
       refine tpZ 6 (.pointer (some ⟨m,3,none⟩)) hA ?_
       simp only[zz]
       refine tqZ 7 (.int .i64 area) [8] hA (fun w5 q1=>?_) ?_
       ·obtain⟨c0,c1,c2,c3⟩:=Zp (kb q1 l4.o)
        go_simp
       simp only[zz]
       refine diZ 8 (fun K a0=>?_)
       go_step
       refine(Zgf wd (k6.o.kept0 hA) a2.o (m2.o.kept hA n3Z) b7.o.1 b7.o.2 (by omega) (by omega)).mono ?_
       rintro e f8 ⟨rfl,b2⟩
       have a9:=hA.trans b2
       rw[←b8.o,←p8.o]
       clear b2
       simp only[]
       refine a0.o _ _ a9 ?_
       clear a0
       simp only[zz]
       refine tpZ 9 (.bool (!ft)) a9 ?_
       simp only[zz]
       refine tpZ 10 (.bool (!ft)) a9 ?_
       simp only[zz]
       refine tlZ 11 ?_
       simp only[List.drop]
       go_wp2
       go_meet
       case rel=>exact⟨by rw[j0.o];rfl,a9⟩
     case rest=>
      obtain⟨rfl,e1⟩:=hcut
      have l9:=V (o4.o.trans e1)
      have g5:=V (kb e1 j4.o)
      have i2:=V (kb e1 l4.o)
      have b5:=V (kb e1 b5.o)
      have j9:=V (k6.o.kept0 e1)
      have j3:=V (m2.o.kept e1 n3Z)
      have g0:=V (show∀g o,a5=some ⟨g,o,none⟩→w.heap.size≤g∧g<wc.heap.size from fun g o e=>⟨(l7.o g o e).1,(l7.o g o e).2.elim fun ds q=>Nat.lt_of_lt_of_le (Za q) e1.size⟩)
      clear e1 j4 l4 k6 m2 l7
      obtain⟨m5,e9⟩: ∃x,x=(B.large && !ft):=⟨_,rfl⟩
      rw[←e9]
      have h8:=V (show(B.large && !Yh (Zz B.epoch (l.withs B.sets)).length (area - 8))=m5 by rw[e9,p8.o,b8.o,g6.o])
      have j7:=V (show m5=false→Z2 ev area l X B=if B.sets=[]∧B.epoch=ev then .no 0
        else if Yh (encF B).length (X.h.area - X.used)=true then .app else if Yh wh.length area=true then .cp else .no 6 from fun hx=>by
       unfold Z2
       rw[if_neg (by rw[k7.o];decide),if_neg (by rw[HR.o];decide),if_neg (by rw[←HE.o];decide),if_neg (by rw[h8.o,hx];decide),b8.o,g6.o])
      clear e9
      cases m5 with
      |true=>
       have HP:=V (show Z2 ev area l X B=.no 6 by
        unfold Z2
        rw[if_neg (by rw[k7.o];decide),if_neg (by rw[HR.o];decide),if_neg (by rw[←HE.o];decide),if_pos h8.o])
       go_wp2
       go_ret
       unfold MCommitAns
       rw[HP.o]
       exact⟨rfl,l9.o⟩
      |false=>
       have j7:=V (j7.o rfl)
       go_upto_region 10 with fail
       go_cut [41] from 42 to 56 (fun v wx=>v=.bool (decide (B.sets=[]) && (B.epoch == ev))∧U0 wc wx)
       case first=>
        have hA:U0 wc wc.drew:=(Upd.refl _ _).drew
        by_cases f7:B.sets=[]
        ·have l8:=V f7
         have k8:=V (show B.sets.length=0 by rw[f7];rfl)
         clear f7
         refine Zj 14 (fun W=>U0 wc W) [false,false,false,false,false,false,false,false,false,false,false,false,false,false,false] rfl (by kernel_rfl) ?_
         generalize wc.drew=wd at hA ⊢
         refine tpZ 0 (.pointer (some ⟨bx,2,none⟩)) hA ?_
         simp only[zz]
         refine tqZ 1 (.slice sa B.sets.length sc) [4,3,2] hA (fun w5 q1=>?_) ?_
         ·obtain⟨c0,c1,c2⟩:=Zk (kb q1 g5.o)
          go_simp
         simp only[zz]
         refine tpZ 2 (.int .i64 B.sets.length) hA ?_
         simp only[zz]
         refine tqZ 3 (.bool true) [4] hA (fun w5 q1=>?_) ?_
         ·have hz:=k8.o
          go_simp
         simp only[zz]
         refine tpZ 4 (.bool true) hA ?_
         simp only[zz]
         refine tpZ 5 (.pointer (some ⟨bx,0,none⟩)) hA ?_
         simp only[zz]
         refine tqZ 6 (.int .u64 B.epoch) [13,12] hA (fun w5 q1=>?_) ?_
         ·obtain⟨c0,c1,c2⟩:=Zk (kb q1 g5.o)
          go_simp
         simp only[zz]
         refine tpZ 7 (.pointer (some ⟨m,0,none⟩)) hA ?_
         simp only[zz]
         refine tpZ 8 (.pointer (some ⟨m,0,none⟩)) hA ?_
         simp only[zz]
         refine tpZ 9 (.pointer (some ⟨m,1,none⟩)) hA ?_
         simp only[zz]
         refine tpZ 10 (.pointer (some ⟨m,1,none⟩)) hA ?_
         simp only[zz]
         refine tqZ 11 (.int .u64 ev) [13,12] hA (fun w5 q1=>?_) ?_
         ·obtain⟨c0,c1,c2,c3⟩:=Zp (kb q1 i2.o)
          go_simp
         simp only[zz]
         refine tpZ 12 (.bool (B.epoch == ev)) hA ?_
         simp only[zz]
         refine tpZ 13 (.bool (B.epoch == ev)) hA ?_
         simp only[zz]
         refine tlZ 14 ?_
         simp only[List.drop]
         go_wp2
         go_meet
         case rel=>exact⟨by rw[decide_eq_true l8.o];rfl,hA⟩
        ·have l8:=V f7
         have k8:=V (show¬B.sets.length=0 from fun e=>f7 (List.length_eq_zero_iff.1 e))
         clear f7
         refine Zj 14 (fun W=>U0 wc W) [false,false,false,false,false,false,false,false,false,false,false,false,false,false,false] rfl (by kernel_rfl) ?_
         generalize wc.drew=wd at hA ⊢
         refine tpZ 0 (.pointer (some ⟨bx,2,none⟩)) hA ?_
         simp only[zz]
         refine tqZ 1 (.slice sa B.sets.length sc) [4,3,2] hA (fun w5 q1=>?_) ?_
         ·obtain⟨c0,c1,c2⟩:=Zk (kb q1 g5.o)
          go_simp
         simp only[zz]
         refine tpZ 2 (.int .i64 B.sets.length) hA ?_
         simp only[zz]
         refine tqZ 3 (.bool false) [4] hA (fun w5 q1=>?_) ?_
         ·have hz:=k8.o
          have o6:((B.sets.length:Int) == 0)=false:=by rw[beq_eq_false_iff_ne];omega
          go_simp
         simp only[zz]
         refine tpZ 4 (.bool false) hA ?_
         simp only[zz]
         refine trZ 5 [13,12,6] hA ?_
         simp only[zz]
         refine trZ 6 [13,12] hA ?_
         simp only[zz]
         refine trZ 7 [13,12,11,10,9,8] hA ?_
         simp only[zz]
         refine trZ 8 [13,12,11,10,9] hA ?_
         simp only[zz]
         refine trZ 9 [13,12,11,10] hA ?_
         simp only[zz]
         refine trZ 10 [13,12,11] hA ?_
         simp only[zz]
         refine trZ 11 [13,12] hA ?_
         simp only[zz]
         refine trZ 12 [13] hA ?_
         simp only[zz]
         refine tpZ 13 (.bool false) hA ?_
         simp only[zz]
         refine tlZ 14 ?_
         simp only[List.drop]
         go_wp2
         go_meet
         case rel=>exact⟨by rw[decide_eq_false l8.o];rfl,hA⟩
       case rest=>
        obtain⟨rfl,e4⟩:=hcut
        have e5:=V (l9.o.trans e4)
        have g5:=V (kb e4 g5.o)
        have i2:=V (kb e4 i2.o)
        have b5:=V (kb e4 b5.o)
        have j9:=V (j9.o.kept0 e4)
        have j3:=V (j3.o.kept e4 n3Z)
        have g0:=V (show∀g o,a5=some ⟨g,o,none⟩→w.heap.size≤g∧g<wc.heap.size from fun g o e=>⟨(g0.o g o e).1,Nat.lt_of_lt_of_le (g0.o g o e).2 e4.size⟩)
        clear e4 l9
        obtain⟨o3,f5⟩: ∃x,x=(decide (B.sets=[]) && (B.epoch == ev)):=⟨_,rfl⟩
        rw[←f5]
        have i0:=V (show(B.sets=[]∧B.epoch=ev)↔o3=true by rw[f5];simp)
        clear f5
        cases o3 with
        |true=>
         have HP:=V (show Z2 ev area l X B=.no 0 by rw[j7.o,if_pos (i0.o.2 rfl)])
         go_wp2
         go_ret
         unfold MCommitAns
         rw[HP.o]
         exact⟨rfl,e5.o⟩
        |false=>
         have h9:=V (show Z2 ev area l X B=if Yh (encF B).length (X.h.area - X.used)=true then .app else if Yh wh.length area=true then .cp else .no 6 by rw[j7.o,if_neg (fun e=>by have:=i0.o.1 e;cases this)])
         obtain⟨y0,y1,y2⟩:=Zk g5.o
         have m3:=Zb3 (c:=sc) (B:=B) wc (HS.o.setsIn.kept e5.o) HR.o HK.o
         unfold batchV at m3
         have n4:=V m3
         clear m3
         go_wp2_with (go_at_call 25;fail)
         refine n4.o.mono ?_
         rintro e w5 ⟨u,rfl,d4,hu⟩
         obtain⟨ua,uc,rfl,_⟩:=d4.bytesAt.1.slice
         obtain⟨n,hn⟩: ∃n,n=(encF B).length:=⟨_,rfl⟩
         have HN:=V hn
         rw[←hn] at d4 ⊢
         clear hn
         have b3:=V (show w.heap.size≤wc.heap.size from e5.o.size)
         have a4:=V d4
         have e5:=V (e5.o.trans hu)
         have l0:=V (kb hu i2.o)
         have b5:=V (kb hu b5.o)
         have p0:=V (j9.o.kept0 hu)
         have o5:=V (j3.o.kept hu n3Z)
         have k9:=V (show∀g o,a5=some ⟨g,o,none⟩→w.heap.size≤g∧g<w5.heap.size from fun g o e=>⟨(g0.o g o e).1,Nat.lt_of_lt_of_le (g0.o g o e).2 hu.size⟩)
         clear d4 hu y0 y1 y2 n4 i2 j9 j3 g0
         simp only[]
         obtain⟨o2,i8⟩: ∃x,x=Yh (encF B).length (X.h.area - X.used):=⟨_,rfl⟩
         have d2:=V i8
         clear i8
         go_upto_region 13 with fail
         go_cut [71] from 58 to 71 (fun v wx=>v=.bool o2∧U0 w5 wx)
         case first=>
          have hA:U0 w5 w5.drew:=(Upd.refl _ _).drew
          by_cases k5:n≤40000
          ·have g4:=V k5
           clear k5
           refine Zj 13 (fun W=>U0 w5 W) [false,false,false,false,false,false,false,false,false,false,false,false,false,false] rfl (by kernel_rfl) ?_
           generalize w5.drew=wd at hA ⊢
           refine tpZ 0 (.slice ua n uc) hA ?_
           simp only[zz]
           refine tpZ 1 (.int .i64 n) hA ?_
           simp only[zz]
           refine tqZ 2 (.bool true) [3] hA (fun w5 q1=>?_) ?_
           ·have hz:=g4.o
            have o6:(n:Int)≤40000:=by omega
            go_simp
           simp only[zz]
           refine tpZ 3 (.bool true) hA ?_
           simp only[zz]
           refine tpZ 4 (.slice ua n uc) hA ?_
           simp only[zz]
           refine tpZ 5 (.int .i64 n) hA ?_
           simp only[zz]
           refine tpZ 7 (.pointer (some ⟨m,0,none⟩)) hA ?_
           simp only[zz]
           refine tpZ 8 (.pointer (some ⟨m,0,none⟩)) hA ?_
           simp only[zz]
           refine tpZ 9 (.pointer (some ⟨m,0,none⟩)) hA ?_
           simp only[zz]
           refine tqZ 10 (.pointer (some ⟨q,0,none⟩)) [12,11] hA (fun w5 q1=>?_) ?_
           ·obtain⟨c0,c1,c2,c3⟩:=Zp (kb q1 l0.o)
            go_simp
           simp only[zz]
           refine diZ 6 (fun K a0=>?_)
           go_step
           refine(Y1 n wd g4.o).mono ?_
           rintro e f8 ⟨rfl,hw⟩
           subst hw
           simp only[]
           refine a0.o _ _ hA ?_
           clear a0
           simp only[zz]
           refine diZ 11 (fun K a0=>?_)
           go_step
           refine(Zem f8 ((HM.o.log.kept e5.o n3Z).kept hA n3Z) HX.o).mono ?_
           rintro e n1 ⟨rfl,b2⟩
           have a7:=hA.trans b2
           clear b2
           simp only[]
           refine a0.o _ _ a7 ?_
           clear a0
           simp only[zz]
           refine tpZ 12 (.bool (decide (secsI n≤X.h.area - X.used))) a7 ?_
           simp only[zz]
           refine tlZ 13 ?_
           simp only[List.drop]
           go_wp2
           go_meet
           case rel=>exact⟨by rw[d2.o,←HN.o];unfold Yh;rw[decide_eq_true (show(n:Int)≤40000 by have:=g4.o;omega)];rfl,a7⟩
          ·have g4:=V k5
           clear k5
           refine Zj 13 (fun W=>U0 w5 W) [false,false,false,false,false,false,false,false,false,false,false,false,false,false] rfl (by kernel_rfl) ?_
           generalize w5.drew=wd at hA ⊢
           refine tpZ 0 (.slice ua n uc) hA ?_
           simp only[zz]
           refine tpZ 1 (.int .i64 n) hA ?_
           simp only[zz]
           refine tqZ 2 (.bool false) [3] hA (fun w5 q1=>?_) ?_
           ·have hz:=g4.o
            have o6: ¬(n:Int)≤40000:=by omega
            go_simp
           simp only[zz]
           refine tpZ 3 (.bool false) hA ?_
           simp only[zz]
           refine trZ 4 [12,6,5] hA ?_
           simp only[zz]
           refine trZ 5 [12,6] hA ?_
           simp only[zz]
           refine trZ 6 [12] hA ?_
           simp only[zz]
           refine trZ 7 [12,11,10,9,8] hA ?_
           simp only[zz]
           refine trZ 8 [12,11,10,9] hA ?_
           simp only[zz]
           refine trZ 9 [12,11,10] hA ?_
           simp only[zz]
           refine trZ 10 [12,11] hA ?_
           simp only[zz]
           refine trZ 11 [12] hA ?_
           simp only[zz]
           refine trZ 12 [] hA ?_
           simp only[zz]
           refine tlZ 13 ?_
           simp only[List.drop]
           go_wp2
           go_meet
           case rel=>exact⟨by rw[d2.o,←HN.o];unfold Yh;rw[decide_eq_false (show¬(n:Int)≤40000 by have:=g4.o;omega)];rfl,hA⟩
         case rest=>
          obtain⟨rfl,e2⟩:=hcut
          have a1:=V (e5.o.trans e2)
          have b1:=V (kb e2 l0.o)
          have b6:=V (kb e2 b5.o)
          have d8:=V (p0.o.kept0 e2)
          have d9:=V (o5.o.kept e2 n3Z)
          have d7:=V (show∀g o,a5=some ⟨g,o,none⟩→w.heap.size≤g∧g<wc.heap.size from fun g o e=>⟨(k9.o g o e).1,Nat.lt_of_lt_of_le (k9.o g o e).2 e2.size⟩)
          have a4:=V (OwnB.keptF a4.o e2 n3Z)
          clear e2 l0 b5 p0 o5 k9
          cases o2 with
          |true=>
           have HP:=V (show Z2 ev area l X B=.app by rw[h9.o,if_pos d2.o.symm])
           obtain⟨c0,c1,c2,c3⟩:=Zp b1.o
           go_wp2_with (go_at_call 43;fail)
           refine(Zgv (D:=D) (F:=F) (G:=G) (p:=p) wc ⟨HM.o.log.kept a1.o n3Z,HM.o.disk.kept a1.o n3Z,HM.o.gf⟩ HX.o hpl HD.o hK (Zae HK.o) (by have:=Zer HR.o;omega) a4.o.bytesAt.1.bytesIn (fun _ a' n' c' e=>?_)).mono ?_
           ·have h1:=a4.o.lt a'.block (by rw[e];rfl)
            have h2:=HM.o.lt.2.2.2 a'.block
            have h3:=HM.o.lt.2.2.1 q HM.o.log.mem
            have h4:=b3.o
            exact⟨fun e=>by have:=h2 e;omega,fun e=>by omega⟩
           rintro e w7 (⟨c4,rfl,hu⟩ | ⟨c4,E1,c9,rfl,G7,F7,h7,h5,i5,d5⟩)
           ·simp only[]
            have HZ:=V c4
            have i9:(X.refuses (encF B).length X.used == 0)=false:=by simpa using c4
            have j1:=V (a1.o.trans hu)
            clear hu c4 c0 c1 c2 c3
            go_wp2
            go_ret
            unfold MCommitAns
            rw[HP.o]
            exact⟨Zae HK.o,.inl ⟨HZ.o,rfl,j1.o⟩⟩
           ·clear c0 c1 c2 c3
            have e7:=V c4
            clear c4
            have i7:=V c9;have H7:=V h7;have c6:=V h5;have d3:=V i5;have e8:=V d5
            have b0:=(d5.block _ (Za b6.o) (fun e=>e.elim (fun e=>by have:=HM.o.lt.2.2.1 _ e;have:=j8.o;have:=k0.o;omega) (fun e=>by have:=HM.o.lt.2.2.2 _ e;have:=j8.o;have:=k0.o;omega))).trans b6.o
            have a3:=(d5.block _ (Za b1.o) (fun e=>e.elim HM.o.nm.1 HM.o.nm.2)).trans b1.o
            obtain⟨c0,c1,c2,c3⟩:=Zp a3
            have f1:w7.frozen? ⟨m,1,none⟩=false:=Zb a3
            have f2:w7.frozen? ⟨m,2,none⟩=false:=Zb a3
            obtain⟨d0,d1⟩:=Zg b0
            clear c9 h7 h5 i5 d5 b0 a3
            by_cases hz:E1=0
            ·have i9:(E1 == 0)=true:=by simpa using hz
             have f6:=V hz
             clear hz
             go_wp2
             go_ret
             unfold MCommitAns
             rw[HP.o]
             obtain⟨p1,p2⟩:=HM.o.after2 (ev':=B.epoch) (c':=c5) a1.o H7.o c6.o d3.o e8.o n8.o d8.o d9.o a2.o (fun k hk=>hk.imp_left (HM.o.sub k)) d7.o
             refine⟨Zae HK.o,.inr ⟨e7.o,?_⟩⟩
             rw[←i7.o]
             refine⟨rfl,_,_,_,_,by rw[if_pos f6.o,←g6.o];exact p1,fun k hk=>?_,fun k hk=>(c6.o k hk).imp_right (Nat.le_trans a1.o.size),fun k hk=>(d3.o k hk).imp_right (Nat.le_trans a1.o.size),p2⟩
             exact hk.imp_right (fun h=>h.imp_right (fun h=>h.1))
            ·have i9:(E1 == 0)=false:=by simpa using hz
             have f6:=V hz
             clear hz
             go_wp2
             go_ret
             unfold MCommitAns
             rw[HP.o]
             have p1:=HM.o.after1 a1.o H7.o c6.o d3.o e8.o
             refine⟨Zae HK.o,.inr ⟨e7.o,?_⟩⟩
             rw[←i7.o]
             exact⟨rfl,_,_,_,_,by rw[if_neg f6.o];exact p1,fun k hk=>.inl hk,fun k hk=>(c6.o k hk).imp_right (Nat.le_trans a1.o.size),fun k hk=>(d3.o k hk).imp_right (Nat.le_trans a1.o.size),((a1.o.mono (F:=fun _=>False) (G:=fun k=>G k∨F k∨k=m) (fun _ _ e=>e.elim)).step (e8.o.mono (F:=fun k=>G k∨F k) (G:=fun k=>G k∨F k∨k=m) (fun _ _ e=>e.elim .inl (fun e=>.inr (.inl e)))) n3Z)⟩
          |false=>
           have i1:=V (show Z2 ev area l X B=if Yh wh.length area=true then .cp else .no 6 by rw[h9.o,if_neg (by rw[←d2.o];decide)])
           obtain⟨f0,p6⟩: ∃x,x=Yh wh.length area:=⟨_,rfl⟩
           have m7:=V p6
           clear p6 a4
           go_upto_region 15 with fail
           go_cut [84] from 78 to 85 (fun v wx=>v=.bool (!f0)∧U0 wc wx)
           case first=>
            have hA:U0 wc wc.drew:=(Upd.refl _ _).drew
            refine Zj 6 (fun W=>U0 wc W) [false,false,false,false,false,false,false] rfl (by kernel_rfl) ?_
            generalize wc.drew=wd at hA ⊢
            refine tqZ 0 (.agg #[.int .u64 B.epoch,.slice a5 L.length c5]) [5] hA (fun w5 q1=>?_) ?_
            ·obtain⟨c0,c1⟩:=Zg (kb q1 b6.o)
             go_simp
            simp only[zz]
            refine tpZ 1 (.pointer (some ⟨m,0,none⟩)) hA ?_
            simp only[zz]
            refine tpZ 2 (.pointer (some ⟨m,0,none⟩)) hA ?_
            simp only[zz]
            refine tpZ 3 (.pointer (some ⟨m,3,none⟩)) hA ?_
            simp only[zz]
            refine tqZ 4 (.int .i64 area) [5] hA (fun w5 q1=>?_) ?_
            ·obtain⟨c0,c1,c2,c3⟩:=Zp (kb q1 b1.o)
             go_simp
            simp only[zz]
            refine diZ 5 (fun K a0=>?_)
            go_step
            refine(Zgf wd (d8.o.kept0 hA) a2.o (d9.o.kept hA n3Z) b7.o.1 b7.o.2 (by omega) (by omega)).mono ?_
            rintro e f8 ⟨rfl,b2⟩
            have a9:=hA.trans b2
            rw[show area - 0=area by omega,←b8.o,←m7.o]
            clear b2
            simp only[]
            refine a0.o _ _ a9 ?_
            clear a0
            simp only[zz]
            refine tlZ 6 ?_
            simp only[List.drop]
            go_wp2
            go_meet
            case rel=>exact⟨rfl,a9⟩
           case rest=>
            obtain⟨rfl,e0⟩:=hcut
            have b3:=V (show w.heap.size≤wc.heap.size from Nat.le_trans a1.o.size e0.size)
            have a1:=V (a1.o.trans e0)
            have b1:=V (kb e0 b1.o)
            have b6:=V (kb e0 b6.o)
            have d8:=V (d8.o.kept0 e0)
            have d9:=V (d9.o.kept e0 n3Z)
            have d7:=V (show∀g o,a5=some ⟨g,o,none⟩→w.heap.size≤g∧g<wc.heap.size from fun g o e=>⟨(d7.o g o e).1,Nat.lt_of_lt_of_le (d7.o g o e).2 e0.size⟩)
            clear e0
            cases f0 with
            |false=>
             have HP:=V (show Z2 ev area l X B=.no 6 by rw[i1.o,if_neg (by rw[←m7.o];decide)])
             go_wp2
             go_ret
             unfold MCommitAns
             rw[HP.o]
             exact⟨rfl,a1.o⟩
            |true=>
             have HP:=V (show Z2 ev area l X B=.cp by rw[i1.o,if_pos m7.o.symm])
             have d6:=V (show Bytes wh by rw[b8.o];exact Zae (Za8 a2.o b7.o.1 b7.o.2))
             have m4:=V (show wh.length≤300000 by rw[b8.o];exact Zer (Za1 a2.o b7.o.2))
             go_upto_region 17 with fail
             have hA:U0 wc wc.drew:=(Upd.refl _ _).drew
             refine Zj 7 (fun W=>U0 wc W) [false,false,false,false,false,false,false,false,false] rfl (by kernel_rfl) ?_
             generalize wc.drew=wd at hA ⊢
             refine tpZ 0 (.pointer (some ⟨m,0,none⟩)) hA ?_
             simp only[zz]
             refine tpZ 1 (.pointer (some ⟨m,0,none⟩)) hA ?_
             simp only[zz]
             refine tpZ 2 (.pointer (some ⟨m,0,none⟩)) hA ?_
             simp only[zz]
             refine tqZ 3 (.pointer (some ⟨q,0,none⟩)) [] hA (fun w5 q1=>?_) ?_
             ·obtain⟨c0,c1,c2,c3⟩:=Zp (kb q1 b1.o)
              go_simp
             simp only[zz]
             refine tqZ 4 (.agg #[.int .u64 B.epoch,.slice a5 L.length c5]) [6,5] hA (fun w5 q1=>?_) ?_
             ·obtain⟨c0,c1⟩:=Zg (kb q1 b6.o)
              go_simp
             simp only[zz]
             refine diZ 5 (fun K a0=>?_)
             go_step
             refine(Zc9 wd (d8.o.kept0 hA) a2.o (d9.o.kept hA n3Z)).mono ?_
             rintro e f8 ⟨a8,c8,rfl,o1,l1,b2⟩
             have a9:=hA.trans b2
             have n7:(Z7 B.epoch L).sets.length=L.length:=by simp[Z7]
             have c7:=Zb3 (B:=Z7 B.epoch L) (c:=c8) f8 o1.setsAt.setsIn (Za1 a2.o b7.o.2) (Za8 a2.o b7.o.1 b7.o.2)
             unfold batchV at c7
             rw[n7,show encF (Z7 B.epoch L)=wh from b8.o.symm] at c7
             have i6:=V c7
             clear n7 c7 o1 l1 b2
             simp only[]
             refine a0.o _ _ a9 ?_
             clear a0
             simp only[zz]
             refine diZ 6 (fun K a0=>?_)
             go_step
             refine(i6.o).mono ?_
             rintro e n1 ⟨u8,rfl,m1,p9⟩
             have a7:=a9.trans p9
             obtain⟨q9,q8,rfl,_⟩:=m1.bytesAt.1.slice
             have a4:=V m1
             have q3:=V a9.size
             clear m1 p9 i6
             simp only[]
             refine a0.o _ _ a7 ?_
             clear a0
             simp only[zz]
             refine tlZ 7 ?_
             simp only[List.drop]
             have a1:=V (a1.o.trans a7)
             have b1:=V (kb a7 b1.o)
             have b6:=V (kb a7 b6.o)
             have d8:=V (d8.o.kept0 a7)
             have d9:=V (d9.o.kept a7 n3Z)
             have d7:=V (show∀g o,a5=some ⟨g,o,none⟩→w.heap.size≤g∧g<n1.heap.size from fun g o e=>⟨(d7.o g o e).1,Nat.lt_of_lt_of_le (d7.o g o e).2 a7.size⟩)
             have b3:=V (show w.heap.size≤f8.heap.size from Nat.le_trans b3.o q3.o)
             clear hA a9 a7
             go_wp2_with (go_at_call 42;fail)
             refine(Znf (D:=D) (F:=F) (G:=G) (p:=p) n1 ⟨HM.o.log.kept a1.o n3Z,HM.o.disk.kept a1.o n3Z,HM.o.gf⟩ HX.o HD.o hK d6.o (by have:=m4.o;omega) a4.o.bytesAt.1.bytesIn (fun _ a' n' c' e=>?_)).mono ?_
             ·have h1:=a4.o.lt a'.block (by rw[e];rfl)
              have h2:=HM.o.lt.2.2.2 a'.block
              have h3:=HM.o.lt.2.2.1 q HM.o.log.mem
              have h4:=b3.o
              exact⟨fun e=>by have:=h2 e;omega,fun e=>by omega⟩
             rintro e w7 (⟨E1,rfl,c9,e3,hu⟩ | ⟨c4,E1,c9,rfl,G7,F7,h7,h5,i5,d5⟩)
             ·simp only[]
              have q5:=V e3
              have i9:(E1 == 0)=false:=by simpa using c9
              have j1:=V (a1.o.trans hu)
              clear hu e3 c9
              go_wp2
              go_ret
              unfold MCommitAns
              rw[HP.o]
              have b9:=b8.o
              rw[g6.o] at b9
              subst b9
              refine⟨d6.o,?_⟩
              rcases q5.o with ⟨k1,k2⟩ | ⟨k1,k2,k3⟩
              ·exact .inl ⟨k1,by rw[←k2];rfl,j1.o⟩
              ·exact .inr (.inl ⟨k1,k2,by rw[k3];rfl,j1.o⟩)
             ·have e7:=V c4
              clear c4
              have i7:=V c9;have H7:=V h7;have c6:=V h5;have d3:=V i5;have e8:=V d5
              have b0:=(d5.block _ (Za b6.o) (fun e=>e.elim (fun e=>by have:=HM.o.lt.2.2.1 _ e;have:=j8.o;have:=k0.o;omega) (fun e=>by have:=HM.o.lt.2.2.2 _ e;have:=j8.o;have:=k0.o;omega))).trans b6.o
              have a3:=(d5.block _ (Za b1.o) (fun e=>e.elim HM.o.nm.1 HM.o.nm.2)).trans b1.o
              obtain⟨c0,c1,c2,c3⟩:=Zp a3
              have f1:w7.frozen? ⟨m,1,none⟩=false:=Zb a3
              have f2:w7.frozen? ⟨m,2,none⟩=false:=Zb a3
              obtain⟨d0,d1⟩:=Zg b0
              clear c9 h7 h5 i5 d5 b0 a3
              by_cases hz:E1=0
              ·have i9:(E1 == 0)=true:=by simpa using hz
               have f6:=V hz
               clear hz
               go_wp2
               go_ret
               unfold MCommitAns
               rw[HP.o]
               have m9:=g6.o
               subst m9
               have b9:=b8.o
               subst b9
               obtain⟨p1,p2⟩:=HM.o.after2 (ev':=B.epoch) (c':=c5) a1.o H7.o c6.o d3.o e8.o n8.o d8.o d9.o a2.o (fun k hk=>hk.imp_left (HM.o.sub k)) d7.o
               refine⟨d6.o,.inr (.inr ⟨e7.o.1,e7.o.2,?_⟩)⟩
               rw[←i7.o]
               refine⟨rfl,_,_,_,_,by rw[if_pos f6.o];exact p1,fun k hk=>?_,fun k hk=>(c6.o k hk).imp_right (Nat.le_trans a1.o.size),fun k hk=>(d3.o k hk).imp_right (Nat.le_trans a1.o.size),p2⟩
               exact hk.imp_right (fun h=>h.imp_right (fun h=>h.1))
              ·have i9:(E1 == 0)=false:=by simpa using hz
               have f6:=V hz
               clear hz
               go_wp2
               go_ret
               unfold MCommitAns
               rw[HP.o]
               have m9:=g6.o
               subst m9
               have b9:=b8.o
               subst b9
               have p1:=HM.o.after1 a1.o H7.o c6.o d3.o e8.o
               refine⟨d6.o,.inr (.inr ⟨e7.o.1,e7.o.2,?_⟩)⟩
               rw[←i7.o]
               exact⟨rfl,_,_,_,_,by rw[if_neg f6.o];exact p1,fun k hk=>.inl hk,fun k hk=>(c6.o k hk).imp_right (Nat.le_trans a1.o.size),fun k hk=>(d3.o k hk).imp_right (Nat.le_trans a1.o.size),((a1.o.mono (F:=fun _=>False) (G:=fun k=>G k∨F k∨k=m) (fun _ _ e=>e.elim)).step (e8.o.mono (F:=fun k=>G k∨F k) (G:=fun k=>G k∨F k∨k=m) (fun _ _ e=>e.elim .inl (fun e=>.inr (.inl e)))) n3Z)⟩
theorem Zic: ∀(P:List (List Int)) (a:Int),(∀b∈P,b.length≤40000)→areaN a P=a+Zx P
 | [],a,_=>by simp[areaN,Zx]
 |b :: P,a,h=>by
  have e:areaN a (b :: P)=areaN (a+secsI b.length) P:=rfl
  rw[e,Zic P _ (fun c hc=>h c (List.mem_cons_of_mem _ hc)),Yj,Zsx (h b (by simp))]
  omega
end
section
structure LgI (N:Nat) (X:Lg):Prop where
 ok:X.Ok
 used:X.used=Zx X.parts
 fits:X.used≤X.h.area
 room:2+2 * X.h.area≤N
theorem Zhh: ∀l:List (List Int),(l.length:Int)≤Zx l
 | []=>by simp[Zx]
 |b :: l=>by
  have h1:=Zhh l
  have h2:=Yu b.length
  rw[Yj,List.length_cons]
  omega
theorem LgI.few (h:LgI N X)(hN:N≤1000):X.parts.length<1000:=by
 have h1:=Zhh X.parts
 have h2:=h.used;have h3:=h.fits;have h4:=h.room
 omega
theorem LgI.brk (h:LgI N X):LgI N (X.brk true):=⟨⟨h.ok.turn,h.ok.area,h.ok.place,h.ok.number,h.ok.used,h.ok.len,h.ok.bytes⟩,h.used,h.fits,h.room⟩
theorem LgI.after {b:List Int}{E:Int}(h:LgI N X)(hN:N≤1000)(hb:Bytes b)(hr:X.refuses b.length X.used=0):LgI N (X.after b E):=by
 unfold Lg.after
 split
 ·have h1:b.length≤40000∧X.used+(secsN b.length:Int)≤X.h.area:=by
   unfold Lg.refuses at hr
   split at hr
   ·cases hr
   split at hr
   ·cases hr
   split at hr
   ·cases hr
   omega
  refine⟨h.ok.add hb h1.1 h1.2 (h.few hN),?_,?_,h.room⟩
  ·show X.used+(secsN b.length:Int)=Zx (X.parts++[b])
   rw[Zbl,Yj,Zay,h.used];omega
  ·show X.used+(secsN b.length:Int)≤X.h.area
   omega
 ·exact h.brk
theorem LgI.cp {b:List Int}{E:Int}(h:LgI N X)(hb:Bytes b)(hr:X.refuses b.length 0=0)(ht:X.h.turn≠1073741824):LgI N (X.cp b E):=by
 unfold Lg.cp
 split
 ·have h1:b.length≤40000∧(0:Int)+(secsN b.length:Int)≤X.h.area∧X.h.number+X.parts.length≤1073741824:=by
   unfold Lg.refuses at hr
   split at hr
   ·cases hr
   split at hr
   ·cases hr
   split at hr
   ·cases hr
   omega
  have ha:=h.ok.area;have a1:=h.ok.turn;have a2:=h.ok.number
  have hs:=Yu b.length
  refine⟨⟨⟨?_,?_⟩,ha,⟨?_,?_⟩,⟨?_,?_⟩,⟨?_,?_⟩,by simp[Lg.add],fun x hx=>?_⟩,?_,?_,h.room⟩
  ·show 0≤X.h.turn+1
   omega
  ·show X.h.turn+1≤1073741824
   omega
  ·exact Int.emod_nonneg _ (by omega)
  ·have:=Int.emod_lt_of_pos (X.h.place+X.used) (b:=2 * X.h.area) (by omega)
   show(X.h.place+X.used) % (2 * X.h.area)≤100000
   omega
  ·show 0≤X.h.number+X.parts.length
   omega
  ·show X.h.number+(X.parts.length:Int)≤1073741825
   omega
  ·show 0≤(0:Int)+secsN b.length
   omega
  ·show(0:Int)+secsN b.length≤1000
   omega
  ·have a0:x=b:=by simpa [Lg.add] using hx
   rw[a0]
   exact⟨hb,h1.1⟩
  ·show(0:Int)+secsN b.length=Zx ([]++[b])
   rw[List.nil_append,Yj,Zay];omega
  ·show(0:Int)+(secsN b.length:Int)≤X.h.area
   omega
 ·exact h.brk
theorem Zgp {h:Hd}: ∀(f:Nat) (ps:List (List Int)) (u:Int) (D:Dk),u=Zx ps→u≤h.area→Zx (Ys h f ps u D).1≤h.area
 | 0,ps,u,D,e,hu=>by
  show Zx ps≤_
  omega
 |f+1,ps,u,D,e,hu=>by
  have hw:=fun b=>Zck (hd:=h) (number:=h.number+ps.length) (place:=h.place+u) (snap:=decide (ps=[])) (left:=h.area - u) (D:=D) (b:=b)
  unfold Ys
  split
  ·rename_i b E D' heq
   have h1:=hw b (by rw[heq])
   exact Zgp f _ _ D' (by rw[Zbl,Yj,Zay];omega) (by omega)
  ·show Zx ps≤_
   omega
theorem Yp (D:Dk)(i:Int)(wr:Bool):(D.callD i wr).arr.length=D.arr.length:=by
 unfold Dk.callD
 repeat' split
 all_goals rfl
theorem Zm8 (h:Hd)(number place turn:Int)(snap:Bool): ∀(m k:Nat) (b:List Int) (D:Dk),(goD h number place turn snap m k b D).2.2.arr.length=D.arr.length
 | 0,_,_,_=>rfl
 |m+1,k,b,D=>by
  unfold goD
  split
  ·split
   ·rw[Zm8,Yp]
   ·exact Yp _ _ _
  ·exact Yp _ _ _
theorem Zl2 (h:Hd)(number place left:Int)(snap:Bool)(D:Dk):(wholeD h number place snap left D).2.2.arr.length=D.arr.length:=by
 unfold wholeD
 split
 ·rfl
 split
 ·split
  ·split
   ·rw[Zm8,Yp]
   ·exact Yp _ _ _
  ·exact Yp _ _ _
 ·exact Yp _ _ _
theorem Zgq {h:Hd}: ∀(f:Nat) (ps:List (List Int)) (u:Int) (D:Dk),(Ys h f ps u D).2.2.arr.length=D.arr.length
 | 0,_,_,_=>rfl
 |f+1,ps,u,D=>by
  have hw:=Zl2 h (h.number+ps.length) (h.place+u) (h.area - u) (decide (ps=[])) D
  unfold Ys
  split
  ·rename_i b E D' heq
   rw[heq] at hw
   exact(Zgq f _ _ D').trans hw
  ·rename_i E D' heq
   rw[heq] at hw
   exact hw
theorem Zs6 {hd:Hd}{ps:List (List Int)}(h:(Zar hd ps D).1=some X)(hok:X.Ok)(hf:Zx ps≤hd.area)(hr:2+2 * hd.area≤N):LgI N X:=by
 unfold Zar at h
 split at h
 ·injection h with h
  subst h
  exact⟨hok,rfl,hf,hr⟩
 ·cases h
theorem Zs5 {hd:Hd}{R:List (List Int)×Int×Dk}(h:(Zaq hd R).1=some X)(hok:X.Ok)(hf:Zx R.1≤hd.area)(hr:2+2 * hd.area≤N):LgI N X:=by
 unfold Zaq at h
 split at h
 ·split at h
  ·cases h
  ·exact Zs6 h hok hf hr
 ·cases h
theorem Zps (hd:Hd)(ps:List (List Int))(D:Dk):(Zar hd ps D).2.2.arr.length=D.arr.length:=by
 unfold Zar
 split<;> exact Zch _ _
theorem Zpq (hd:Hd)(R:List (List Int)×Int×Dk):(Zaq hd R).2.2.arr.length=R.2.2.arr.length:=by
 unfold Zaq
 split
 ·split
  ·rfl
  ·exact Zps _ _ _
 ·rfl
theorem Zpu (c:Hd×Bool)(D:Dk):(Za7 c D).2.2.arr.length=D.arr.length:=by
 unfold Za7
 split
 ·rfl
 ·rw[Zpq,Zgq]
theorem Zpw (D:Dk):(openD D).2.2.arr.length=D.arr.length:=by
 unfold openD
 split
 ·split
  ·rw[Zpu,Yp,Yp]
  ·exact(Yp _ _ _).trans (Yp _ _ _)
 ·exact Yp _ _ _
theorem Zs7 (h:(openD D).1=some X)(hok:X.Ok)(ha:0≤X.h.area):LgI D.arr.length X:=by
 unfold openD at h
 split at h
 ·split at h
  ·have hl:((D.callD 0 false).callD 1 false).arr.length=D.arr.length:=by rw[Yp,Yp]
   unfold Za7 at h
   split at h
   ·cases h
   ·rename_i hc
    have a0:2+2 * (Yx (D.reads 0) ((D.callD 0 false).reads 1)).1.area≤D.arr.length:=by
     rw[←hl]
     omega
    have hx:X.h.area=(Yx (D.reads 0) ((D.callD 0 false).reads 1)).1.area:=by
     unfold Zaq at h
     split at h
     ·split at h
      ·cases h
      ·unfold Zar at h
       split at h
       ·injection h with h
        rw[←h]
       ·cases h
     ·cases h
    refine Zs5 h hok (Zgp _ _ _ _ rfl ?_) a0
    rw[←hx]
    exact ha
  ·cases h
 ·cases h
theorem Zqj (D:Dk)(keep:List Bool):(D.crash keep).arr.length=D.arr.length:=by simp[Dk.crash,Dk.arrive]
theorem Ztq (X:Lg)(D:Dk)(b:List Int)(hb:Bytes b):(X.cpD D b hb).arr.length=D.arr.length:=by
 unfold Lg.cpD
 split
 ·rw[Zch,Zch]
 ·exact Zch _ _
end
end Go.Proofs.YtbimkhdiplnbfaaGreat
