/- Walks. -/
import Derived.Test.YtbimkhdiplnbfaaGreatU11
import Derived.Test.YtbimkhdiplnbfaaGreatU15
import Derived.Test.YtbimkhdiplnbfaaGreatU16
import Derived.Scope
import Derived.Maps.AppendAt
set_option linter.unusedVariables false
set_option linter.unusedSimpArgs false
namespace Go.Proofs.YtbimkhdiplnbfaaGreat
set_option maxRecDepth 1000000
set_option maxHeartbeats 16000000
variable {snap:Bool} {D:Dk} {h:Hd} {E number place:Int} {b:List Int} {B K bb bh bn bp bs k n p q:Nat} {F G S:Nat→Prop} {v:Value} {W W' w w' w1:World}
section
open Go.RowKit Go.Shelf
attribute [local go_sem] Oper.semAt_some
abbrev Sc:={x:Int×List Int // okBlk x.2}
def raw (l:List Sc):List (Int×List Int):=l.map (·.1)
def Dk.wr (D:Dk)(l:List Sc):Dk:=l.foldl (fun D x=>D.write x.1.1 x.1.2) D
theorem Dk.wr_snoc (D:Dk)(l:List Sc)(x:Sc):D.wr (l++[x])=(D.wr l).write x.1.1 x.1.2:=by simp[Dk.wr]
theorem Dk.wr_ok: ∀(l:List Sc) {D:Dk} {K:Nat},D.Ok K→(D.wr l).Ok (K+2 * l.length)
 | [],_,_,h=>h
 |x :: l,D,K,h=>by
  have:=Dk.wr_ok l (h.write x.1.1 x.2)
  rw[List.length_cons,show K+2 * (l.length+1)=K+2+2 * l.length by omega]
  exact this
def okSo (D:Dk)(pre:List Sc):Prop:= ∀rest,D.lays (raw pre++rest)=(D.wr pre).lays rest∧D.laysE (raw pre++rest)=(D.wr pre).laysE rest
theorem okSo.start (D:Dk):okSo D []:=fun _=>⟨rfl,rfl⟩
theorem okSo.step {pre:List Sc}{x:Sc}(h:okSo D pre)(he:(D.wr pre).callE x.1.1 true=0):okSo D (pre++[x]):=by
 intro rest
 have e:raw (pre++[x])++rest=raw pre++(x.1 :: rest):=by simp[raw]
 rw[e,Dk.wr_snoc,(h _).1,(h _).2]
 obtain⟨⟨i,b⟩,hx⟩:=x
 simp only[Dk.lays,Dk.laysE]
 simp only at he
 rw[if_pos he,if_pos he]
 exact⟨rfl,rfl⟩
theorem okSo.stop {pre:List Sc}{x:Sc}(h:okSo D pre)(he:(D.wr pre).callE x.1.1 true≠0)(rest:List (Int×List Int)):D.lays (raw (pre++[x])++rest)=(D.wr pre).write x.1.1 x.1.2∧D.laysE (raw (pre++[x])++rest)=(D.wr pre).callE x.1.1 true:=by
 have e:raw (pre++[x])++rest=raw pre++(x.1 :: rest):=by simp[raw]
 rw[e,(h _).1,(h _).2]
 obtain⟨⟨i,b⟩,hx⟩:=x
 simp only[Dk.lays,Dk.laysE]
 simp only at he
 rw[if_neg he,if_neg he]
 exact⟨rfl,rfl⟩
theorem Dsk.cells (h:Dsk w p D F): ∀k,F k→ ∃o:Obj,w.heap[k]?=some o∧o.isCells=true:=by
 obtain⟨s,g,c,h1,h2⟩:=h
 intro k hk
 rcases(h2 k).1 hk with rfl | rfl | ⟨i,hi,rfl⟩
 ·exact⟨_,h1.main,rfl⟩
 ·exact⟨_,h1.sec,rfl⟩
 ·rcases(h1.rows i hi).2 with ⟨h3,_⟩ | ⟨gg,a1,a0,hv,hb,hh,r⟩
  ·simp at h3
  ·simp at hv
   rw[hv.1];exact⟨_,hh,rfl⟩
structure LayAt (w w1:World) (p:Nat) (F:Nat→Prop) (D:Dk) (E:Int) (W:World):Prop where
 dsk: ∃F',Dsk W p D F'∧ ∀k,F' k→F k∨w1.heap.size≤k
 upd:Upd F w W
 size:w1.heap.size≤W.heap.size
 box:W.heap[w.heap.size]?=some (.cells #[.pointer (some ⟨p,0,none⟩)] 25 (0,0))
 err:W.heap[w.heap.size+1]?=some (.cells #[.int .i64 E] 26 (0,0))
theorem LayAt.kept {row:Option Nat}(h:LayAt w w1 p F D E W)(h1:w1.heap.size=w.heap.size+2)(hg:W.grownBy W' row)(hr: ∀r,row=some r→w1.heap.size≤r∧ ∃o:Obj,W.heap[r]?=some o∧o.isCells=false):LayAt w w1 p F D E W':=by
 have hu:Upd (fun k=>row=some k) W W':=Upd.of_grown hg (fun k hk=>hk)
 obtain⟨F',d1,d2⟩:=h.dsk
 refine⟨⟨F',d1.kept hu (fun k hk e=>?_),d2⟩,h.upd.step hu (fun k hk e=>by have:=(hr k e).1;omega),Nat.le_trans h.size hg.size,?_,?_⟩
 ·obtain⟨_,o,ho,hc⟩:=hr k e
  obtain⟨o2,a1,a0⟩:=d1.cells k hk
  rw[ho] at a1;cases a1;rw[hc] at a0;cases a0
 ·exact(hu.block _ (Za h.box) (fun e=>by have:=(hr _ e).1;omega)).trans h.box
 ·exact(hu.block _ (Za h.err) (fun e=>by have:=(hr _ e).1;omega)).trans h.err
theorem LayAt.step {D2:Dk}{E1:Int}{F':Nat→Prop}(h:LayAt w w1 p F D E1 W)(h1:w1.heap.size=w.heap.size+2)(hF: ∀k,F k→k<w.heap.size)(d1:Dsk W p D F')(d2: ∀k,F' k→F k∨w1.heap.size≤k)
  (hl:Left W p D2 F' W') (E:Int):W'.heap[w.heap.size+1]?=some (.cells #[.int .i64 E1] 26 (0,0))∧W'.heap[w.heap.size]?=some (.cells #[.pointer (some ⟨p,0,none⟩)] 25 (0,0))∧LayAt w w1 p F D2 E (W'.setCell ⟨w.heap.size+1,0,none⟩ (.int .i64 E))∧
   (∀S:Nat→Prop,(∀k,S k→ ¬F k)→(∀k,S k→k<w.heap.size)→Keep S W (W'.setCell ⟨w.heap.size+1,0,none⟩ (.int .i64 E)))∧KeepsFrom w1.heap.size W (W'.setCell ⟨w.heap.size+1,0,none⟩ (.int .i64 E)):=by
 obtain⟨F2,e1,e2,e3⟩:=hl
 have a4:=h.size
 have n0: ¬F' w.heap.size:=fun e=>by rcases d2 _ e with q | q
                                     ·have:=hF _ q;omega
                                     ·omega
 have n1: ¬F' (w.heap.size+1):=fun e=>by rcases d2 _ e with q | q
                                         ·have:=hF _ q;omega
                                         ·omega
 have hb:=(e3.block _ (Za h.box) n0).trans h.box
 have he:=(e3.block _ (Za h.err) n1).trans h.err
 have hu:Upd (fun k=>k=w.heap.size+1) W' (W'.setCell ⟨w.heap.size+1,0,none⟩ (.int .i64 E)):=Zd _ _ _ _
 have n2: ∀k,F2 k→ ¬k=w.heap.size+1:=fun k hk e=>by
  rcases e2 k hk with q | q
  ·rw[e] at q;exact n1 q
  ·omega
 refine⟨he,hb,⟨⟨F2,?_,fun k hk=>?_⟩,?_,?_,?_,?_⟩,fun S hS1 hS2 k hk=>?_,⟨?_,fun k o hk ho hc=>?_⟩⟩
 ·exact e1.kept hu n2
 ·rcases e2 k hk with q | q
  ·exact d2 k q
  ·exact .inr (by omega)
 ·refine((h.upd.step (F:=F) e3 (fun k hk q=>(d2 k q).elim id (fun q=>by omega)))).step hu (fun k hk q=>by omega)
 ·have:=e3.size;simp[World.setCell];omega
 ·rw[Yd (by show w.heap.size≠w.heap.size+1;omega)];exact hb
 ·have:=Ze (i:=0) (v:=.int .i64 E) he
  simpa using this
 ·have a3:=hS2 k hk
  rw[Yd (by show k≠w.heap.size+1;omega)]
  exact e3.block k (by omega) (fun q=>(d2 k q).elim (hS1 k hk) (fun q=>by omega))
 ·have:=e3.size;simp[World.setCell];omega
 ·have a2:=Za ho
  have hn: ¬F' k:=fun q=>by
   obtain⟨o2,a1,a0⟩:=d1.cells k q
   rw[ho] at a1;cases a1;rw[hc] at a0;cases a0
  rw[Yd (by show k≠w.heap.size+1;omega),e3.block k a2 hn]
  exact ho
theorem LayAt.left (h:LayAt w w1 p F D E W)(h1:w1.heap.size=w.heap.size+2):Left w p D F W:=by
 obtain⟨F',d1,d2⟩:=h.dsk
 exact⟨F',d1,fun k hk=>(d2 k hk).imp id (fun q=>by omega),h.upd⟩
theorem LayAt.again (h:LayAt w w1 p F D E W)(h1:w1.heap.size=w.heap.size+2)(hF: ∀k,F k→k<w.heap.size):
  LayAt w w1 p F D E (W.setCell ⟨w.heap.size+1,0,none⟩ (.int .i64 E))∧KeepsFrom w1.heap.size W (W.setCell ⟨w.heap.size+1,0,none⟩ (.int .i64 E)):=by
 obtain⟨F',d1,d2⟩:=h.dsk
 have:=h.step h1 hF d1 d2 (Left.same d1) E
 exact⟨this.2.2.1,this.2.2.2.2⟩
theorem Zhm {b:Nat}(h:w.heap[b]?=some (.cells #[v] 26 (0,0))):(loadVar 26 ⟨b,0,none⟩).run Tryz.prog w=.ok v w:=by
 have hc:=Zf h
 have hu:Tryz.prog.underlying 26=some (.int .i64):=Tryz.underlying26
 simp[loadVar,isAgg,run_underlying hu,Sem.run_bind,hc]
theorem Zrh (hS: ∀k,S k→k<B): ∀(W:World) (l:Nat) (o o':Obj),B≤l→W.heap[l]?=some o→o.isCells=false→o.isWalk=false→Keep S W (W.putObj l o'):=fun W l o o' hl _ _ _ k hk=>by
 have h1:=hS k hk
 have h2: ¬l=k:=by omega
 simp[World.putObj,h2]
theorem Zip (W:World)(bs:List Int)(hl:bs.length=64):(W.alloc (.cells (bcells zblk).toArray 48)).there W.heap.size 0 (bcells bs).toArray.size∧((W.alloc (.cells (bcells zblk).toArray 48)).setCells W.heap.size 0 (bcells bs)).heap[W.heap.size]?=some (.cells (bcells bs).toArray 48 (0,0))∧
  U0 W ((W.alloc (.cells (bcells zblk).toArray 48)).setCells W.heap.size 0 (bcells bs)):=by
 have hz:(bcells zblk).toArray.size=64:=by simp[bcells,zblk]
 have a0:(W.alloc (.cells (bcells zblk).toArray 48)).heap[W.heap.size]?=some (.cells (bcells zblk).toArray 48 (0,0)):=Zc rfl
 refine⟨?_,Zi (vs:=bcells bs) a0 (by rw[hz,Z3,hl]),?_⟩
 ·have:=Zq a0
  rwa [show(bcells zblk).toArray.size=(bcells bs).toArray.size by rw[hz];simp[Z3,hl]] at this
 ·have:=Upd.setCells (F:=fun j=>W.heap.size≤j) (b:=W.heap.size) (Nat.le_refl _) (bcells bs) 0 ((Upd.refl _ W).alloc (.cells (bcells zblk).toArray 48))
  exact this.mono (fun j hj e=>by omega)
theorem Zg6 {gf:Nat}{lb:Array Value}(l:List Sc)(w:World)(hD:Dsk w p D F)(hok:D.Ok K)(hK:K+2 * l.length+2≤1099511627773)
  (eg: ∀args w,(callFunc gf args).run Tryz.prog w=.ok (.enter gf args) w) (hSF: ∀k,S k→ ¬F k) (hSw: ∀k,S k→k<w.heap.size)
  (hseq: ∀w1,U0 w w1→SeqStopsK Fence.wide (3 - 1) Tryz.prog gf lb (fun x:Sc=>#[.int .i64 x.1.1,.agg (bcells x.1.2).toArray]) (Keep S) (fun ys=>ys=l) (fun pre=>pre <+: l) l.length w1):
  Calls Tryz.prog 107 #[.pointer (some ⟨p,0,none⟩),.func (.func gf) #[] lb] w fun e w'=>e=.returned (.int .i64 (D.laysE (raw l)))∧Left w p (D.lays (raw l)) F w':=by
 have e4:=V hseq;have c5:=V hok;have e1:=V hSF;have d9:=V hSw;have b7:=V hD.lt
 have HD:=V hD
 clear hseq hok hSF hSw hD
 refine(callsIn_wide (n:=3)).1 ?_
 refine callsIn_of_wp_marks Tryz.func107 rfl trivial ?_ rfl
 simp only[Tryz.ntmps107,List.size_toArray,List.length_cons,List.length_nil,Nat.reduceAdd,Nat.reduceSub,Array.replicate_succ,Array.replicate_zero,List.push_toArray,List.append_toArray,List.nil_append,List.cons_append]
 gi_wp2
 refine wpIn_wide.2 (wp_scope_straight ((wpIn_wide (n:=3)).1 ?_))
 refine wpIn_seq_k (fun KL hKL=>wpIn_label ?_)
 refine hKL _ _ ?_
 clear hKL
 obtain⟨w1,b3⟩: ∃w1,w1=(w.alloc (.cells #[.pointer (some ⟨p,0,none⟩)] 25)).alloc (.cells #[.int .i64 0] 26):=⟨_,rfl⟩
 rw[←b3]
 have c7:w1.heap.size=w.heap.size+2:=by rw[b3];simp
 have b6:U0 w w1:=by rw[b3];exact((Upd.refl _ w).alloc _).alloc _
 have d3:LayAt w w1 p F D 0 w1:=by
  refine⟨⟨F,HD.o.kept b6 n3Z,fun k hk=>.inl hk⟩,b6.mono (fun _ _ e=>e.elim),Nat.le_refl _,?_,?_⟩
  ·rw[b3];exact(Zm (by simp)).trans (Zc rfl)
  ·rw[b3];exact Zc (by simp)
 have e6:=V d3;have c9:=V b6;have a5:=V c7
 clear d3 b6 c7 b3 HD
 gi_wp2
 have d7: ∀k,S k→k<w1.heap.size:=fun k hk=>by have:=d9.o k hk;have:=c9.o.size;omega
 refine wpIn_rangeFunc_ownH rfl (by omega) (gf:=gf) (lb:=lb) rfl trivial eg (e4.o w1 c9.o)
  (fun h k=>h.trans k) (Zrh d7) (Below.refl _ _) (fun _=>rfl)
  (fun pre W=>LayAt w w1 p F (D.wr pre) 0 W∧okSo D pre)
  (fun c pre W=>c=.exit 0∧ ∃(a0:List Sc) (x:Sc),pre=a0++[x]∧okSo D a0∧(D.wr a0).callE x.1.1 true≠0∧LayAt w w1 p F ((D.wr a0).write x.1.1 x.1.2) ((D.wr a0).callE x.1.1 true) W) ?hI ?hIx ⟨e6.o,okSo.start D⟩
  (fun x a' W=> ∃Bx,w1.heap.size≤Bx∧W.heap[Bx]?=some (.cells (bcells x.1.2).toArray 48 (0,0))∧a'={tmps:=#[.pointer (some ⟨p,0,none⟩),.func (.func gf) #[] lb,.pointer (some ⟨w.heap.size,0,none⟩),undef,.pointer (some ⟨w.heap.size+1,0,none⟩),.int .i64 x.1.1,.pointer (some ⟨Bx,0,none⟩),.func (.func gf) #[] lb,.int .i64 x.1.1,.agg (bcells x.1.2).toArray,undef,undef,undef,undef,undef,undef,undef,undef,undef,undef,undef],defers:=[]}) ?hAx ?assign ?body ?done ?stop
 case hI=>
  rintro pre W W' row ⟨hs,ho⟩ hg hr
  exact⟨hs.kept a5.o hg hr,ho⟩
 case hIx=>
  rintro c pre W W' row ⟨hc,a0,x,h1,h2,h3,hs⟩ hg hr
  exact⟨hc,a0,x,h1,h2,h3,hs.kept a5.o hg hr⟩
 case hAx=>
  rintro x a' _ W W' row ⟨Bx,h1,h2,h3⟩ hg hr
  refine⟨Bx,h1,(hg.block Bx (Za h2) (fun e=>?_)).trans h2,h3⟩
  obtain⟨_,o,ho,hc⟩:=hr Bx e.symm
  rw[h2] at ho
  cases ho
  cases hc
 case assign=>
  rintro l pre x W K ⟨hs,ho⟩ hK
  have b2:=x.2.1
  have e0:=V hK;have a8:=V hs;have HO:=V ho
  have hi:(Tryz.prog.info? 48).map (·.size)=some (bcells x.1.2).toArray.size:=by rw[Tryz.info56p];simp[bcells,b2]
  obtain⟨f1,f2,f3⟩:=Zip W x.1.2 b2
  have HI:=V hi;have F1:=V f1;have F2:=V f2;have F3:=V f3
  clear hK hs ho hi f1 f2 f3 b2
  gi_upto_region 3 with fail
  iterate 4 gi_step
  refine(?_:wpListIn _ _ _ _ _ _ _ (W.alloc (.cells (bcells zblk).toArray 48)))
  refine Zag rfl (fun _ h=>by cases h) rfl (Zbc rfl rfl rfl F1.out HI.o (all_oneCell_toArray (Z6 x.1.2))) ?_
  refine(?_:wpListIn _ _ _ _ _ _ _ ((W.alloc (.cells (bcells zblk).toArray 48)).setCells W.heap.size 0 (bcells x.1.2)))
  have d6:W.grownBy ((W.alloc (.cells (bcells zblk).toArray 48)).setCells W.heap.size 0 (bcells x.1.2)) none:=⟨F3.out.os,F3.out.tape,F3.out.output,F3.out.size,fun j hj _=>F3.out.block j hj id⟩
  gi_step
  refine e0.o _ _ (KeepsFrom.of_grownBy d6 (fun j e=>by cases e)) (fun k hk=>F3.out.block k (Nat.lt_of_lt_of_le (d7 k hk) a8.o.size) id) ⟨a8.o.kept a5.o d6 (fun r e=>by cases e),HO.o⟩ ⟨W.heap.size,a8.o.size,F2.out,rfl⟩
 case body=>
  rintro l2 pre x a' W hl e5 ⟨hs,ho⟩ ⟨Bx,e9,d8,rfl⟩ f0
  have b2:=x.2.1
  have a6:=(Dk.wr_ok pre c5.o).mono (K':=1099511627773) (by omega)
  have e3:=Zf hs.box;have b9:=Zf hs.err
  have c0:W.frozen? ⟨w.heap.size+1,0,none⟩=false:=Zb hs.err
  have hi:(Tryz.prog.info? 48).map (·.size)=some (bcells x.1.2).length:=by rw[Tryz.info56p];simp[bcells,b2]
  have c8:=V (Zh d8);have HI:=V hi;have a8:=V hs;have HO:=V ho;have a7:=V a6;have c6:=V b2
  clear d8 hi hs ho a6 b2 hl e5
  obtain⟨F',d1,d2⟩:=a8.o.dsk
  have D1:=V d1;have D2:=V d2
  clear d1 d2
  gi_upto_region 4 with fail
  iterate 7 gi_step
  refine Zcu rfl (fun _ h=>by cases h) rfl (Zv rfl rfl (bcells x.1.2) c8.o Tryz.underlying48 rfl HI.o) ?_
  gi_wp2_with (refine⟨trivial,?_⟩;gi_at_call 158;fail)
  refine⟨trivial,?_⟩
  refine(CallsIn.inRound l2 (callsIn_wide.2 (Zow x.1.1 x.1.2 W D1.out (a7.o.mono (by omega)) c6.o))).mono ?_
  rintro e W3 ⟨rfl,hl⟩
  obtain⟨E,hE⟩: ∃E,E=(D.wr pre).callE x.1.1 true:=⟨_,rfl⟩
  rw[←hE]
  obtain⟨g1,_,g2,g3,g4⟩:=a8.o.step a5.o b7.o D1.out D2.out hl E
  have b9:=Zf g1
  have c0:W3.frozen? ⟨w.heap.size+1,0,none⟩=false:=Zb g1
  have G2:=V g2;have G3:=V (g3 S e1.o d9.o);have G4:=V g4;have HE:=V hE
  clear g1 g2 g3 g4 hl hE a8 c8 HI D1 D2 a7 c6 e3
  simp only[]
  by_cases h0:E=0
  ·subst h0
   gi_wp2
   have he:=HE.o
   exact⟨G4.out,G3.out,by rw[Dk.wr_snoc];exact G2.out,HO.o.step he.symm⟩
  ·have hq:(E !=0)=true:=by simpa using h0
   gi_wp2
   have he:=HE.o
   exact⟨G4.out,rfl,pre,x,rfl,HO.o,by rw[←he];exact h0,by rw[←he];exact G2.out⟩
 case done=>
  rintro DD ys W b4 rfl ⟨hs,ho⟩ b5
  have a6:=(Dk.wr_ok ys c5.o).mono (K':=1099511627773) (by omega)
  obtain⟨F',d1,d2⟩:=hs.dsk
  have d0:=Zf hs.err;have f4:=Zf hs.box
  have a4:=ho []
  rw[List.append_nil] at a4
  have a8:=V hs;have c3:=V a4;have a7:=V a6;have D1:=V d1;have D2:=V d2;have e2:=V b5
  clear hs ho a6 d1 d2 a4 b5
  gi_wp2_with (refine⟨trivial,?_⟩;gi_at_call 159;fail)
  refine⟨trivial,?_⟩
  refine(callsIn_wide.2 (Zrc W D1.out a7.o)).mono ?_
  rintro e W3 ⟨rfl,hl⟩
  obtain⟨E,hE⟩: ∃E,E=(D.wr ys).callE 0 true:=⟨_,rfl⟩
  rw[←hE]
  have c2:=V hE
  clear hE
  obtain⟨g1,gb,g2,g3,g4⟩:=a8.o.step a5.o b7.o D1.out D2.out hl E
  have a9:=g4.same DD _ b4 e2.o rfl
  have b9:=Zf g1
  have c0:W3.frozen? ⟨w.heap.size+1,0,none⟩=false:=Zb g1
  simp only[]
  gi_upto_region 8 with fail
  obtain⟨W4,d5⟩: ∃W4,W4=W3.setCell ⟨w.heap.size+1,0,none⟩ (.int .i64 E):=⟨_,rfl⟩
  rw[←d5] at g2 a9 ⊢
  clear b9 c0 d5 g1 gb g3 g4 hl
  have hE:=c2.o
  obtain⟨a1,a2⟩:=g2.again a5.o b7.o
  have b1:=a2.same DD _ b4 a9 rfl
  have a3:=a1.kept (W':=World.putObj _ DD (.deferred none)) (row:=some DD) a5.o (grownBy_putObj' _ DD _) (fun r e=>by cases e;exact⟨b4,_,b1,rfl⟩)
  have e8:=Zf g2.err
  have e7:W4.frozen? ⟨w.heap.size+1,0,none⟩=false:=Zb g2.err
  have A3:=V a3;have c1:=V b1;have HE:=V hE
  clear g2 a9 a1 a2 b1 a3 hE
  gi_wp2
  refine⟨by simp,.inl ⟨_,_,rfl,run_takeDeferred c1.o,?_⟩⟩
  refine⟨_,Yt Tryz.results107 rfl (Zhm A3.out.err),?_⟩
  have hf:=c3.o
  refine⟨?_,?_⟩
  ·rw[hf.2,HE.o];rfl
  ·rw[hf.1];exact A3.out.left a5.o
 case stop=>
  rintro DD c pre W b4 c4 ⟨rfl,a0,x,rfl,ho,b8,hs⟩ b5
  obtain⟨rest,b0⟩:=c4
  have a4:=ho.stop b8 (raw rest)
  rw[show raw (a0++[x])++raw rest=raw l by rw[←b0];simp[raw]] at a4
  have c3:=V a4
  obtain⟨E,hE⟩: ∃E,E=(D.wr a0).callE x.1.1 true:=⟨_,rfl⟩
  rw[←hE] at hs b8
  have c2:=V hE
  clear hE
  have d0:=Zf hs.err
  have hq:(E == 0)=false:=by simpa using b8
  have g2:=hs
  have a9:=b5
  have G2:=V g2;have d4:=V a9
  clear hs a4 ho b0 b5 g2 a9
  gi_upto_region 8 with fail
  have g2:=G2.out;have a9:=d4.o
  clear G2 d4 d0
  obtain⟨W4,rfl⟩: ∃W4,W4=W:=⟨_,rfl⟩
  have hE:=c2.o
  obtain⟨a1,a2⟩:=g2.again a5.o b7.o
  have b1:=a2.same DD _ b4 a9 rfl
  have a3:=a1.kept (W':=World.putObj _ DD (.deferred none)) (row:=some DD) a5.o (grownBy_putObj' _ DD _) (fun r e=>by cases e;exact⟨b4,_,b1,rfl⟩)
  have e8:=Zf g2.err
  have e7:W4.frozen? ⟨w.heap.size+1,0,none⟩=false:=Zb g2.err
  have A3:=V a3;have c1:=V b1;have HE:=V hE
  clear g2 a9 a1 a2 b1 a3 hE
  gi_wp2
  refine⟨by simp,.inl ⟨_,_,rfl,run_takeDeferred c1.o,?_⟩⟩
  refine⟨_,Yt Tryz.results107 rfl (Zhm A3.out.err),?_⟩
  have hf:=c3.o
  refine⟨?_,?_⟩
  ·rw[hf.2,HE.o]
  ·rw[hf.1];exact A3.out.left a5.o
end
section
open Go.RowKit Go.Shelf
attribute [local go_sem] Oper.semAt_some
theorem Zqu (h:Hd)(place:Int)(w:World)(ha:1≤h.area∧h.area≤1000)(hp:0≤place∧place≤1099511627776):
  Calls Tryz.prog 161 #[h.val,.int .i64 place] w fun e w'=>e=.returned (.int .i64 (atF h.area place))∧U0 w w':=by
 have h1:place.tmod (2 * h.area)=place % (2 * h.area):=Int.tmod_eq_emod_of_nonneg hp.1
 have h2:=Int.emod_nonneg place (b:=2 * h.area) (by omega)
 have h3:=Int.emod_lt_of_pos place (b:=2 * h.area) (by omega)
 have h4: ¬(2 * h.area=0):=by omega
 have e:atF h.area place=2+place % (2 * h.area):=rfl
 rw[e]
 obtain⟨q,hq⟩: ∃q,q=place % (2 * h.area):=⟨_,rfl⟩
 rw[←hq] at h1 h2 h3 ⊢
 unfold Hd.val
 clear hq e
 go_enter Tryz.func161,Tryz.ntmps161
 go_wp2
 go_ret
 exact⟨rfl,(Upd.refl _ w).alloc _⟩
theorem Zlc (h:Hd):okBlk (headF h):=by
 rw[←Zeq]
 refine⟨Zaa (by rw[Zac h (Nat.le_refl 4)];omega),fun x hx=>?_⟩
 have:Bytes (Yl (headP h 4)):=(((Zgn h 4).append (Bytes.zeros _)).append (Yg _ _))
 exact this x hx
def zl (area:Nat):List Sc:=(List.range (2+2 * area)).map fun(i:Nat)=>⟨((i:Int),zblk),Zbo⟩
theorem Zbn (area:Nat):(zl area).length=2+2 * area:=by simp[zl]
theorem Zsk {area:Nat}(h:k<2+2 * area):(zl area).take (k+1)=(zl area).take k++[⟨((k:Int),zblk),Zbo⟩]:=by
 rw[List.take_add_one]
 have:(zl area)[k]?=some ⟨((k:Int),zblk),Zbo⟩:=by simp[zl,h]
 rw[this];rfl
theorem Zqy (F:Fence)(n:Nat)(hf:F.fn 108)(hro:F.round=none)(hn:1≤n)(l ba area:Nat)(S:Nat→Prop)(ha:area≤1000)(hg:S ba)(J Jx:List Sc→World→Prop)
  (W:World) (_hS: ∀k,S k→k<W.heap.size) (hJ:AbidesFrom W.heap.size J)
  (hY: ∀pre x W1,J pre W1→pre.length<(zl area).length→YieldAt F (n - 1) Tryz.prog l #[.int .i64 x.1.1,.agg (bcells x.1.2).toArray] W1 fun e W'=>
   (e=.returned (.bool true)∧J (pre++[x]) W'∧Keep S W1 W')∨(e=.returned (.bool false)∧Jx (pre++[x]) W'))
  (hc:W.cell? ⟨ba,0,none⟩=some (.int .i64 area)) (h0:J [] W):
  CallsIn F n Tryz.prog 108 #[.func (.yield l) #[] #[],.pointer (some ⟨ba,0,none⟩)] W fun e W'=>(∃v,e=.returned v)∧((∃ys,ys=zl area∧J ys W')∨(∃pre,pre <+: zl area∧Jx pre W')):=by
 have HJ:=V hJ;have HC:=V hc
 clear hJ hc
 refine callsIn_of_wp Tryz.func108 rfl hf ?_ hro
 simp only[Tryz.ntmps108,List.size_toArray,List.length_cons,List.length_nil,Nat.reduceAdd,Nat.reduceSub,Array.replicate_succ,Array.replicate_zero,List.push_toArray,List.append_toArray,List.nil_append,List.cons_append]
 gi_upto_region 1 with fail
 gi_loopg [3] (2+2 * area) (fun gi i wr=> ∃k:Nat,k≤2+2 * area∧gi=2+2 * area - k∧i=.int .i64 k∧J ((zl area).take k) wr∧Keep S W wr)
 case atStart=>exact⟨0,Nat.zero_le _,rfl,rfl,h0,Keep.refl _ _⟩
 case round=>
  obtain⟨k,hk,rfl,rfl,a7,a4⟩:=hrel
  have a6:=V a7;have a5:=V a4
  clear a7 a4 h0
  have c5:wr.cell? ⟨ba,0,none⟩=some (.int .i64 area):=(a5.o.cell hg).trans HC.o
  by_cases b2:k<2+2 * area
  ·have a9:(k:Int)<2+2 * area:=by omega
   obtain⟨fn,b4,a2,b0,hy,hR⟩:=hY _ ⟨((k:Int),zblk),Zbo⟩ wr a6.o (by rw[Zbn,List.length_take,Zbn];omega)
   rw[←Zsk b2] at hR
   dsimp only at hy
   rw[show(bcells zblk).toArray=#[.int .u8 0,.int .u8 0,.int .u8 0,.int .u8 0,.int .u8 0,.int .u8 0,.int .u8 0,.int .u8 0,.int .u8 0,.int .u8 0,.int .u8 0,.int .u8 0,.int .u8 0,.int .u8 0,.int .u8 0,.int .u8 0,.int .u8 0,.int .u8 0,.int .u8 0,.int .u8 0,.int .u8 0,.int .u8 0,.int .u8 0,.int .u8 0,.int .u8 0,.int .u8 0,.int .u8 0,.int .u8 0,.int .u8 0,.int .u8 0,.int .u8 0,.int .u8 0,.int .u8 0,.int .u8 0,.int .u8 0,.int .u8 0,.int .u8 0,.int .u8 0,.int .u8 0,.int .u8 0,.int .u8 0,.int .u8 0,.int .u8 0,.int .u8 0,.int .u8 0,.int .u8 0,.int .u8 0,.int .u8 0,.int .u8 0,.int .u8 0,.int .u8 0,.int .u8 0,.int .u8 0,.int .u8 0,.int .u8 0,.int .u8 0,.int .u8 0,.int .u8 0,.int .u8 0,.int .u8 0,.int .u8 0,.int .u8 0,.int .u8 0,.int .u8 0] from rfl] at hy
   have b1:=V hR
   clear hR
   gi_wp2
   refine b1.o.mono ?_
   rintro e W3 (⟨rfl,a3,a8⟩ | ⟨rfl,a0⟩)
   ·have a1:=V a3;have b3:=V a8
    clear a3 a8 hy c5
    gi_wp2
    gi_roundg (2+2 * area - (k+1))
    case measure=>omega
    case rel=>exact⟨k+1,by omega,rfl,by go_num,a1.o,a5.o.trans b3.o⟩
   ·have a1:=V a0
    clear a0 hy c5
    gi_wp2
    refine bodyPost_end (results_none rfl _ _ _) rfl ?_
    exact⟨⟨_,rfl⟩,.inr ⟨_,List.take_prefix _ _,a1.o⟩⟩
  ·obtain rfl:k=2+2 * area:=by omega
   have a9: ¬(2+2 * (area:Int)<2+2 * area):=by omega
   gi_wp2
   refine⟨fun _ h=>(by cases h),?_⟩
   gi_wp2
   refine bodyPost_end (results_none rfl _ _ _) rfl ?_
   have:=a6.o
   rw[List.take_of_length_le (by rw[Zbn];omega)] at this
   exact⟨⟨_,rfl⟩,.inl ⟨_,rfl,this⟩⟩
theorem Zly (F:Fence)(n:Nat)(hf:F.fn 108)(hro:F.round=none)(hn:1≤n)(ba area:Nat)(S:Nat→Prop)(ha:area≤1000)(w:World)(hS: ∀k,S k→k<w.heap.size)(hg:S ba)(hc:w.cell? ⟨ba,0,none⟩=some (.int .i64 area)):
  SeqStopsK F n Tryz.prog 108 #[.pointer (some ⟨ba,0,none⟩)] (fun x:Sc=>#[.int .i64 x.1.1,.agg (bcells x.1.2).toArray]) (Keep S) (fun ys=>ys=zl area) (fun pre=>pre <+: zl area) (zl area).length w:=fun l J Jx W hW hJ _ hY h0=>
 Zqy F n hf hro hn l ba area S ha hg J Jx W (fun k hk=>Nat.lt_of_lt_of_le (hS k hk) hW.size) hJ hY ((hW.cell (p:=⟨ba,0,none⟩) (hS ba hg)).trans hc) h0
def headSc (h:Hd):Sc:=⟨(h.turn % 2,headF h),Zlc h⟩
theorem Zte (F:Fence)(n:Nat)(hf:F.fn 163)(hwf:F=Fence.wide)(hro:F.round=none)(hn:1≤n)(l bh:Nat)(h:Hd)(hu:h.U32)(S:Nat→Prop)(_hg:S bh)(J Jx:List Sc→World→Prop)
  (W:World) (_hS: ∀k,S k→k<W.heap.size) (hJ:AbidesFrom W.heap.size J)
  (hY: ∀pre x W1,J pre W1→pre.length<[headSc h].length→YieldAt F (n - 1) Tryz.prog l #[.int .i64 x.1.1,.agg (bcells x.1.2).toArray] W1 fun e W'=>
   (e=.returned (.bool true)∧J (pre++[x]) W'∧Keep S W1 W')∨(e=.returned (.bool false)∧Jx (pre++[x]) W'))
  (hc:W.heap[bh]?=some (.cells #[.int .i64 h.turn,.int .i64 h.area,.int .i64 h.place,.int .i64 h.number] 184 (0,0))) (h0:J [] W):
  CallsIn F n Tryz.prog 163 #[.func (.yield l) #[] #[],.pointer (some ⟨bh,0,none⟩)] W fun e W'=>(∃v,e=.returned v)∧((∃ys,ys=[headSc h]∧J ys W')∨(∃pre,pre <+: [headSc h]∧Jx pre W')):=by
 subst hwf
 have HJ:=V hJ;have HC:=V hc;have HY:=V hY;have HU:=V hu
 have ht:=hu.turn
 have a8:h.turn.tmod 2=h.turn % 2:=Int.tmod_eq_emod_of_nonneg ht.1
 have a2:(Tryz.prog.info? 184).map (·.size)=some 4:=by kernel_rfl
 clear hJ hc hY hu
 refine callsIn_of_wp Tryz.func163 rfl hf ?_ hro
 simp only[Tryz.ntmps163,List.size_toArray,List.length_cons,List.length_nil,Nat.reduceAdd,Nat.reduceSub,Array.replicate_succ,Array.replicate_zero,List.push_toArray,List.append_toArray,List.nil_append,List.cons_append]
 gi_upto_region 0 with fail
 have hA:U0 W W.drew:=(Upd.refl _ W).drew
 refine Zcd 6 (fun W'=>U0 W W') [false,false,false,false,false,false,false] rfl (by kernel_rfl) ?_
 refine giZ 0 (.func (.yield l) #[] #[]) [] hA (fun w5 q1=>?_) ?_
 ·go_simp
 simp only[zz]
 refine giZ 1 (.pointer (some ⟨bh,0,none⟩)) [3,2] hA (fun w5 q1=>?_) ?_
 ·go_simp
 simp only[zz]
 refine giZ 2 (.int .i64 h.turn) [3] hA (fun w5 q1=>?_) ?_
 ·have hb:=kb q1 HC.o
  have d0:w5.cell? ⟨bh,0,none⟩=some (.int .i64 h.turn):=by simp[World.cell?,hb]
  go_simp
 simp only[zz]
 refine giZ 3 (.int .i64 (h.turn % 2)) [] hA (fun w5 q1=>?_) ?_
 ·go_simp
 simp only[zz]
 refine giZ 4 (h.val) [5] hA (fun w5 q1=>?_) ?_
 ·have hb:=kb q1 HC.o
  exact Zv rfl rfl [.int .i64 h.turn,.int .i64 h.area,.int .i64 h.place,.int .i64 h.number] (Zh (cs:=[.int .i64 h.turn,.int .i64 h.area,.int .i64 h.place,.int .i64 h.number]) hb) Tryz.underlying184 rfl a2
 simp only[zz]
 refine Z5 (i:=5) rfl (by kernel_rfl) rfl (fun K hK=>?_)
 have a1:=V hK
 clear hK
 gi_step
 refine⟨trivial,?_⟩
 refine(callsIn_wide.2 (Zjt h _ HU.o)).mono ?_
 rintro e W3 ⟨rfl,a6⟩
 have a0:U0 W W3:=hA.trans a6
 simp only[]
 refine a1.o _ _ ⟨fun _=>a0,?_⟩
 clear a1 hA a6
 simp only[zz]
 have a5:J [] W3:=HJ.o [] W W3 none h0 ⟨a0.os,a0.tape,a0.output,a0.size,fun j hj _=>a0.block j hj id⟩ (fun r e=>by cases e)
 obtain⟨fn,b1,a4,a7,hy,hR⟩:=HY.o [] (headSc h) W3 a5 (by simp)
 dsimp only[headSc] at hy
 have a9:=V hR
 have b3:RowKit.Hid (U0 W W3):=V a0
 clear hR a5 a0
 refine Z5 (i:=6) rfl (by kernel_rfl) rfl (fun K hK=>?_)
 have a1:=V hK
 clear hK
 gi_step
 refine a9.o.mono ?_
 rintro e W4 (⟨rfl,b0,b2⟩ | ⟨rfl,a3⟩)
 ·simp only[]
  refine a1.o _ _ ⟨fun hx=>(by simp at hx),?_⟩
  simp only[zz]
  refine Zah (by kernel_rfl) ?_
  refine bodyPost_end (results_none rfl _ _ _) rfl ?_
  exact⟨⟨_,rfl⟩,.inl ⟨_,rfl,b0⟩⟩
 ·simp only[]
  refine a1.o _ _ ⟨fun hx=>(by simp at hx),?_⟩
  simp only[zz]
  refine Zah (by kernel_rfl) ?_
  refine bodyPost_end (results_none rfl _ _ _) rfl ?_
  exact⟨⟨_,rfl⟩,.inr ⟨[]++[headSc h],List.prefix_refl _,a3⟩⟩
theorem Zoa (n:Nat)(hn:1≤n)(bh:Nat)(h:Hd)(hu:h.U32)(S:Nat→Prop)(w:World)(hS: ∀k,S k→k<w.heap.size)(hg:S bh)(hc:w.heap[bh]?=some (.cells #[.int .i64 h.turn,.int .i64 h.area,.int .i64 h.place,.int .i64 h.number] 184 (0,0))):
  SeqStopsK Fence.wide n Tryz.prog 163 #[.pointer (some ⟨bh,0,none⟩)] (fun x:Sc=>#[.int .i64 x.1.1,.agg (bcells x.1.2).toArray]) (Keep S) (fun ys=>ys=[headSc h]) (fun pre=>pre <+: [headSc h]) [headSc h].length w:=fun l J Jx W hW hJ _ hY h0=>
 Zte Fence.wide n trivial rfl rfl hn l bh h hu S hg J Jx W (fun k hk=>Nat.lt_of_lt_of_le (hS k hk) hW.size) hJ hY ((hW.block bh (Za hc)).trans hc) h0
end
section
open Go.RowKit Go.Shelf
attribute [local go_sem] Oper.semAt_some
theorem Zmu (b:List Int)(k:Nat):(allF b k).length=48:=by
 have e:(if k=0 then layF b.length 32 else([]:List Int)).length=if k=0 then 4 else 0:=by split<;> simp[layF_length]
 unfold allF
 simp only[List.length_append,List.length_replicate,e,List.length_take,List.length_drop]
 split<;> omega
theorem Zot (h:Bytes b)(k:Nat):Bytes (allF b k):=by
 unfold allF
 exact((Bytes.append (by split;exact Yg _ _;exact fun x hx=>by simp at hx) (Zh8 h _ _))).append (Bytes.zeros _)
theorem Zf8 {turn:Int}(h:Bytes b):okBlk (cutF turn number snap b k):=by
 have e:=Zir (turn:=turn) (number:=number) (snap:=snap) (b:=b) (k:=k) rfl rfl rfl
 rw[e]
 refine⟨by simp[layF_length,Zmu],fun x hx=>?_⟩
 exact((((((Yg _ _).append (Yg _ _)).append (Yg _ _)).append (Yg _ _)).append (Yg _ _)).append (Zot h k)) x hx
def partSc (h:Hd)(number:Int)(place:Int)(snap:Bool)(b:List Int)(hb:Bytes b):List Sc:=(List.range (secsN b.length)).map fun(k:Nat)=>⟨(atF h.area (place+k),cutF h.turn number snap b k),Zf8 hb⟩
theorem Yk (hb:Bytes b):(partSc h number place snap b hb).length=secsN b.length:=by simp[partSc]
theorem Zmd (hb:Bytes b)(hk:k<secsN b.length):(partSc h number place snap b hb).take (k+1)=(partSc h number place snap b hb).take k++[⟨(atF h.area (place+k),cutF h.turn number snap b k),Zf8 hb⟩]:=by
 rw[List.take_add_one]
 have:(partSc h number place snap b hb)[k]?=some ⟨(atF h.area (place+k),cutF h.turn number snap b k),Zf8 hb⟩:=by simp[partSc,hk]
 rw[this];rfl
theorem Keep.bytes (h:Keep S W W')(hb:BytesIn W v b)(hs:b≠[]→ ∀a n c,v=.slice (some a) n c→S a.block):BytesIn W' v b:=by
 rcases hb with hb | ⟨a,c,rfl,h2,h3,h4⟩
 ·exact .inl hb
 ·refine .inr ⟨a,c,rfl,h2,h3,fun i u hi=>?_⟩
  have:=h4 i u hi
  rw[←this]
  simp only[World.cell?]
  rw[show(a.add i).block=a.block by unfold Addr.add;split<;> rfl,h a.block (hs (by rintro rfl;simp[bcells] at hi) a _ _ rfl)]
theorem Ze4 {m:Nat}{P:Program}{Q:Exit→Act→World→Prop}{md:Region.Mode}{A:World→Prop}{l:List Oper}{i:Nat}{oi:Oper}{f:Nat}{L:Array Bool}{a:Act}(hi':l[i]?=some oi)(hr:Region.ready md l.toArray L=[i])(hg:Region.wanted oi (yielded l.toArray a.tmps)=false)(hA:A w)
  (h:wpGI Fence.wide m P md l.toArray Q n A f (L.setIfInBounds i true) (a.put oi.dst undef) w):wpGI Fence.wide m P md l.toArray Q n A (f+1) L a w:=by
 have hi:l.toArray[i]?=some oi:=by simpa using hi'
 refine⟨fun h0=>(by rw[hr] at h0;cases h0),fun j hj=>?_⟩
 rw[hr] at hj
 have a0:j=i:=by simpa using hj
 subst a0
 unfold wpOpIn
 simp only[hi,hg,Bool.false_eq_true,if_false]
 exact⟨fun _ _=>trivial,fun _=>hA,h⟩
structure PartIn (W:World) (bb bh bp bn bs:Nat) (v:Value) (b:List Int) (h:Hd) (number place:Int) (snap:Bool):Prop where
 cb:W.heap[bb]?=some (.cells #[v] 39 (0,0))
 ch:W.heap[bh]?=some (.cells #[.int .i64 h.turn,.int .i64 h.area,.int .i64 h.place,.int .i64 h.number] 184 (0,0))
 cp:W.heap[bp]?=some (.cells #[.int .i64 place] 3 (0,0))
 cn:W.heap[bn]?=some (.cells #[.int .i64 number] 3 (0,0))
 cs:W.heap[bs]?=some (.cells #[.bool snap] 4 (0,0))
 bytes:BytesIn W v b
structure PartS (S:Nat→Prop) (bb bh bp bn bs:Nat) (v:Value) (b:List Int):Prop where
 sb:S bb
 sh:S bh
 sp:S bp
 sn:S bn
 ss:S bs
 sv:b≠[]→ ∀a n c,v=.slice (some a) n c→S a.block
theorem PartIn.kept (hp:PartIn W bb bh bp bn bs v b h number place snap)(hs:PartS S bb bh bp bn bs v b)(hk:Keep S W W'):PartIn W' bb bh bp bn bs v b h number place snap:=
 ⟨(hk _ hs.sb).trans hp.cb,(hk _ hs.sh).trans hp.ch,(hk _ hs.sp).trans hp.cp,(hk _ hs.sn).trans hp.cn,(hk _ hs.ss).trans hp.cs,hk.bytes hp.bytes hs.sv⟩
theorem PartIn.upd (hp:PartIn W bb bh bp bn bs v b h number place snap)(hk:U0 W W'):PartIn W' bb bh bp bn bs v b h number place snap:=
 ⟨kb hk hp.cb,kb hk hp.ch,kb hk hp.cp,kb hk hp.cn,kb hk hp.cs,hp.bytes.kept hk⟩
theorem Zs0 (n:Nat)(hn:1≤n)(l:Nat)(hb:Bytes b)(hl:b.length≤40000)(ht:0≤h.turn∧h.turn≤4294967295)(ha:1≤h.area∧h.area≤1000)(hnb:0≤number∧number≤4294967295)(hp:0≤place∧place≤1000000000000)
  (J Jx:List Sc→World→Prop) (W:World) (_hS: ∀k,S k→k<W.heap.size) (hJ:AbidesFrom W.heap.size J)
  (hY: ∀pre x W1,J pre W1→pre.length<(partSc h number place snap b hb).length→YieldAt Fence.wide (n - 1) Tryz.prog l #[.int .i64 x.1.1,.agg (bcells x.1.2).toArray] W1 fun e W'=>
   (e=.returned (.bool true)∧J (pre++[x]) W'∧Keep S W1 W')∨(e=.returned (.bool false)∧Jx (pre++[x]) W'))
  (hPS:PartS S bb bh bp bn bs v b) (hP:PartIn W bb bh bp bn bs v b h number place snap) (h0:J [] W):
  CallsIn Fence.wide n Tryz.prog 160 #[.func (.yield l) #[] #[],.pointer (some ⟨bb,0,none⟩),.pointer (some ⟨bh,0,none⟩),.pointer (some ⟨bp,0,none⟩),.pointer (some ⟨bn,0,none⟩),.pointer (some ⟨bs,0,none⟩)] W fun e W'=>(∃v,e=.returned v)∧((∃ys,ys=partSc h number place snap b hb∧J ys W')∨(∃pre,pre <+: partSc h number place snap b hb∧Jx pre W')):=by
 obtain⟨sa,sc,rfl⟩:=hP.bytes.slice'
 have HJ:=V hJ;have HP:=V hP;have c1:=V hPS;have HY:=V hY;have HB:=V hb
 have a3:(Tryz.prog.info? 184).map (·.size)=some 4:=by kernel_rfl
 have c0:RowKit.Hid (secsN b.length≤834):=V (by unfold secsN;omega)
 have a9:RowKit.Hid (secsI (b.length:Int)=(secsN b.length:Int)):=V (Zcp hl)
 clear hJ hP hPS hY
 refine callsIn_of_wp Tryz.func160 rfl trivial ?_ rfl
 simp only[Tryz.ntmps160,List.size_toArray,List.length_cons,List.length_nil,Nat.reduceAdd,Nat.reduceSub,Array.replicate_succ,Array.replicate_zero,List.push_toArray,List.append_toArray,List.nil_append,List.cons_append]
 gi_upto_region 1 with fail
 gi_loopg [7] (secsN b.length) (fun gi i wr=> ∃k:Nat,k≤secsN b.length∧gi=secsN b.length - k∧i=.int .i64 k∧J ((partSc h number place snap b hb).take k) wr∧PartIn wr bb bh bp bn bs (.slice sa b.length sc) b h number place snap)
 case atStart=>exact⟨0,Nat.zero_le _,rfl,rfl,h0,HP.o⟩
 case round=>
  obtain⟨k,hk,rfl,rfl,b5,b3⟩:=hrel
  obtain⟨wo,rfl⟩: ∃wo,wo=wr:=⟨_,rfl⟩
  have a8:=V b5;have a1:=V b3
  clear b5 b3 h0 HP
  have hA:U0 wo wo.drew:=(Upd.refl _ wo).drew
  obtain⟨sn,a4⟩: ∃sn:Nat,sn=secsN b.length:=⟨_,rfl⟩
  rw[←a4] at hk c0 a9
  have a5:=V a4
  have c7:=c0.o
  clear a4
  gi_upto_region 1 with fail
  refine Zcd 19 (fun W'=>U0 wo W') [false,false,false,false,false,false,false,false,false,false,false,false,false,false,false,false,false,false,false,false,false] rfl (by kernel_rfl) ?_
  refine giZ 0 (.int .i64 k) [5,4] hA (fun w5 q1=>?_) ?_
  ·go_simp
  simp only[zz]
  refine giZ 1 (.slice sa b.length sc) [5,3,2] hA (fun w5 q1=>?_) ?_
  ·have hc:=Zf ((a1.o.upd q1).cb)
   go_simp
  simp only[zz]
  refine giZ 2 (.int .i64 b.length) [5,3] hA (fun w5 q1=>?_) ?_
  ·go_simp
  simp only[zz]
  refine Z5 (i:=3) rfl (by kernel_rfl) rfl (fun K hK=>?_)
  have a0:=V hK
  clear hK
  gi_step
  refine⟨trivial,?_⟩
  refine(callsIn_wide.2 (Yf _ _)).mono ?_
  rintro e W3 ⟨rfl,rfl⟩
  rw[a9.o]
  simp only[]
  refine a0.o _ _ ⟨fun _=>hA,?_⟩
  clear a0
  simp only[zz]
  by_cases b1:k<sn
  ·
   have a6:(k:Int)<sn:=by omega
   refine Zc5 (i:=4) (v:=.bool true) rfl rfl (by kernel_rfl) hA (fun _=>rfl) (.inl ⟨rfl,fun w5 q1=>?_⟩) ?_
   ·go_simp
   simp only[zz]
   refine Zc5 (i:=5) (v:=.bool true) rfl rfl (by kernel_rfl) hA (fun _=>rfl) (.inl ⟨rfl,fun w5 q1=>?_⟩) ?_
   ·go_simp
   simp only[zz]
   refine giZ 6 (.func (.yield l) #[] #[]) [] hA (fun w5 q1=>?_) ?_
   ·go_simp
   simp only[zz]
   refine giZ 7 (h.val) [11] hA (fun w5 q1=>?_) ?_
   ·exact Zv rfl rfl [.int .i64 h.turn,.int .i64 h.area,.int .i64 h.place,.int .i64 h.number] (Zh (cs:=[.int .i64 h.turn,.int .i64 h.area,.int .i64 h.place,.int .i64 h.number]) (a1.o.upd q1).ch) Tryz.underlying184 rfl a3
   simp only[zz]
   refine giZ 8 (.int .i64 place) [11,10] hA (fun w5 q1=>?_) ?_
   ·have hc:=Zf ((a1.o.upd q1).cp)
    go_simp
   simp only[zz]
   refine giZ 9 (.int .i64 k) [11,10] hA (fun w5 q1=>?_) ?_
   ·go_simp
   simp only[zz]
   refine giZ 10 (.int .i64 (place+k)) [11] hA (fun w5 q1=>?_) ?_
   ·go_simp
    rw[IntKind.wrap_i64];omega
   simp only[zz]
   refine giZ 12 (.pointer (some ⟨bh,0,none⟩)) [18,13] hA (fun w5 q1=>?_) ?_
   ·go_simp
   simp only[zz]
   refine giZ 13 (.int .i64 h.turn) [18] hA (fun w5 q1=>?_) ?_
   ·have hc:w5.cell? ⟨bh,0,none⟩=some (.int .i64 h.turn):=by simp[World.cell?,(a1.o.upd q1).ch]
    go_simp
   simp only[zz]
   refine giZ 14 (.int .i64 number) [18] hA (fun w5 q1=>?_) ?_
   ·have hc:=Zf ((a1.o.upd q1).cn)
    go_simp
   simp only[zz]
   refine giZ 15 (.bool snap) [18] hA (fun w5 q1=>?_) ?_
   ·have hc:=Zf ((a1.o.upd q1).cs)
    go_simp
   simp only[zz]
   refine giZ 16 (.slice sa b.length sc) [18] hA (fun w5 q1=>?_) ?_
   ·have hc:=Zf ((a1.o.upd q1).cb)
    go_simp
   simp only[zz]
   refine giZ 17 (.int .i64 k) [18] hA (fun w5 q1=>?_) ?_
   ·go_simp
   simp only[zz]
   refine Z5 (i:=11) rfl (by kernel_rfl) rfl (fun K hK=>?_)
   have a0:=V hK
   clear hK
   gi_step
   refine⟨trivial,?_⟩
   refine(callsIn_wide.2 (Zqu h (place+k) _ ha (by omega))).mono ?_
   rintro e W4 ⟨rfl,hu⟩
   have b2:U0 wo W4:=hA.trans hu
   clear hA hu
   have hA:=b2
   clear b2
   simp only[]
   refine a0.o _ _ ⟨fun _=>hA,?_⟩
   clear a0
   simp only[zz]
   refine Z5 (i:=18) rfl (by kernel_rfl) rfl (fun K hK=>?_)
   have a0:=V hK
   clear hK
   gi_step
   refine⟨trivial,?_⟩
   refine(callsIn_wide.2 (Zne _ ht hnb (a1.o.upd hA).bytes HB.o hl (by rw[←a5.o];exact b1))).mono ?_
   rintro e W5 ⟨rfl,hu⟩
   have b6:U0 wo W5:=hA.trans hu
   clear hA hu
   have hA:=b6
   clear b6
   simp only[]
   refine a0.o _ _ ⟨fun _=>hA,?_⟩
   clear a0
   simp only[zz]
   have b4:=HJ.o ((partSc h number place snap b hb).take k) wo W5 none a8.o ⟨hA.os,hA.tape,hA.output,hA.size,fun j hj _=>hA.block j hj id⟩ (fun r e=>by cases e)
   have b7:k<secsN b.length:=by rw[←a5.o];exact b1
   obtain⟨fn,c3,a7,c2,hy,hR⟩:=HY.o _ ⟨(atF h.area (place+k),cutF h.turn number snap b k),Zf8 hb⟩ W5 b4 (by rw[Yk,List.length_take,Yk];omega)
   rw[←Zmd hb b7] at hR
   dsimp only at hy
   have c5:=V hR;have c6:=V (a1.o.upd hA)
   clear hR b4 hA b7 a8 a1 HY a9
   refine Z5 (i:=19) rfl (by kernel_rfl) rfl (fun K hK=>?_)
   have a0:=V hK
   clear hK
   gi_step
   refine c5.o.mono ?_
   rintro e W6 (⟨rfl,b8,b9⟩ | ⟨rfl,a2⟩)
   ·have b0:=V b8;have c4:=V (c6.o.kept c1.o b9)
    clear b8 b9 hy
    simp only[]
    refine a0.o _ _ ⟨fun hx=>(by simp at hx),?_⟩
    clear a0
    simp only[zz]
    refine Z5 (i:=20) rfl (by kernel_rfl) rfl (fun K hK=>?_)
    have a0:=V hK
    clear hK
    gi_step
    refine a0.o _ _ ⟨fun hx=>(by simp at hx),?_⟩
    clear a0
    simp only[zz]
    refine Zah (by kernel_rfl) ?_
    gi_wp2
    have a4:=a5.o
    gi_roundg (secsN b.length - (k+1))
    case measure=>omega
    case rel=>exact⟨k+1,by omega,rfl,by go_num,b0.o,c4.o⟩
   ·have b0:=V a2
    clear a2 hy
    simp only[]
    refine a0.o _ _ ⟨fun hx=>(by simp at hx),?_⟩
    clear a0
    simp only[zz]
    refine Z5 (i:=20) rfl (by kernel_rfl) rfl (fun K hK=>?_)
    have a0:=V hK
    clear hK
    gi_step
    refine a0.o _ _ ⟨fun hx=>(by simp at hx),?_⟩
    clear a0
    simp only[zz]
    refine Zah (by kernel_rfl) ?_
    gi_wp2
    refine bodyPost_end (results_none rfl _ _ _) rfl ?_
    exact⟨⟨_,rfl⟩,.inr ⟨_,List.take_prefix _ _,b0.o⟩⟩
  ·
   have a6: ¬(k:Int)<sn:=by omega
   refine Zc5 (i:=4) (v:=.bool false) rfl rfl (by kernel_rfl) hA (fun _=>rfl) (.inl ⟨rfl,fun w5 q1=>?_⟩) ?_
   ·go_simp
   simp only[zz]
   refine Zc5 (i:=5) (v:=.bool false) rfl rfl (by kernel_rfl) hA (fun _=>rfl) (.inl ⟨rfl,fun w5 q1=>?_⟩) ?_
   ·go_simp
   simp only[zz]
   refine Yy (i:=6) (v:=undef) rfl rfl (fun L hc h=>(hc.waits (n:=19) (i:=6) (by kernel_rfl) h)) (by kernel_rfl) (fun _ _ _ h=>h) hA (fun _=>rfl) (.inr ⟨rfl,rfl⟩) ?_
   simp only[zz]
   refine Yy (i:=7) (v:=undef) rfl rfl (fun L hc h=>(hc.waits (n:=19) (i:=11) (by kernel_rfl) (hc.waits (n:=11) (i:=7) (by kernel_rfl) h))) (by kernel_rfl) (fun _ _ _ h=>h) hA (fun _=>rfl) (.inr ⟨rfl,rfl⟩) ?_
   simp only[zz]
   refine Yy (i:=8) (v:=undef) rfl rfl (fun L hc h=>(hc.waits (n:=19) (i:=11) (by kernel_rfl) (hc.waits (n:=11) (i:=10) (by kernel_rfl) (hc.waits (n:=10) (i:=8) (by kernel_rfl) h)))) (by kernel_rfl) (fun _ _ _ h=>h) hA (fun _=>rfl) (.inr ⟨rfl,rfl⟩) ?_
   simp only[zz]
   refine Yy (i:=9) (v:=undef) rfl rfl (fun L hc h=>(hc.waits (n:=19) (i:=11) (by kernel_rfl) (hc.waits (n:=11) (i:=10) (by kernel_rfl) (hc.waits (n:=10) (i:=9) (by kernel_rfl) h)))) (by kernel_rfl) (fun _ _ _ h=>h) hA (fun _=>rfl) (.inr ⟨rfl,rfl⟩) ?_
   simp only[zz]
   refine Yy (i:=10) (v:=undef) rfl rfl (fun L hc h=>(hc.waits (n:=19) (i:=11) (by kernel_rfl) (hc.waits (n:=11) (i:=10) (by kernel_rfl) h))) (by kernel_rfl) (fun _ _ _ h=>h) hA (fun _=>rfl) (.inr ⟨rfl,rfl⟩) ?_
   simp only[zz]
   refine Yy (i:=12) (v:=undef) rfl rfl (fun L hc h=>(hc.waits (n:=19) (i:=18) (by kernel_rfl) (hc.waits (n:=18) (i:=13) (by kernel_rfl) (hc.waits (n:=13) (i:=12) (by kernel_rfl) h)))) (by kernel_rfl) (fun _ _ _ h=>h) hA (fun _=>rfl) (.inr ⟨rfl,rfl⟩) ?_
   simp only[zz]
   refine Yy (i:=13) (v:=undef) rfl rfl (fun L hc h=>(hc.waits (n:=19) (i:=18) (by kernel_rfl) (hc.waits (n:=18) (i:=13) (by kernel_rfl) h))) (by kernel_rfl) (fun _ _ _ h=>h) hA (fun _=>rfl) (.inr ⟨rfl,rfl⟩) ?_
   simp only[zz]
   refine Yy (i:=14) (v:=undef) rfl rfl (fun L hc h=>(hc.waits (n:=19) (i:=18) (by kernel_rfl) (hc.waits (n:=18) (i:=14) (by kernel_rfl) h))) (by kernel_rfl) (fun _ _ _ h=>h) hA (fun _=>rfl) (.inr ⟨rfl,rfl⟩) ?_
   simp only[zz]
   refine Yy (i:=15) (v:=undef) rfl rfl (fun L hc h=>(hc.waits (n:=19) (i:=18) (by kernel_rfl) (hc.waits (n:=18) (i:=15) (by kernel_rfl) h))) (by kernel_rfl) (fun _ _ _ h=>h) hA (fun _=>rfl) (.inr ⟨rfl,rfl⟩) ?_
   simp only[zz]
   refine Yy (i:=16) (v:=undef) rfl rfl (fun L hc h=>(hc.waits (n:=19) (i:=18) (by kernel_rfl) (hc.waits (n:=18) (i:=16) (by kernel_rfl) h))) (by kernel_rfl) (fun _ _ _ h=>h) hA (fun _=>rfl) (.inr ⟨rfl,rfl⟩) ?_
   simp only[zz]
   refine Yy (i:=17) (v:=undef) rfl rfl (fun L hc h=>(hc.waits (n:=19) (i:=18) (by kernel_rfl) (hc.waits (n:=18) (i:=17) (by kernel_rfl) h))) (by kernel_rfl) (fun _ _ _ h=>h) hA (fun _=>rfl) (.inr ⟨rfl,rfl⟩) ?_
   simp only[zz]
   refine Ze4 (i:=11) rfl (by kernel_rfl) rfl hA ?_
   simp only[zz]
   refine Ze4 (i:=18) rfl (by kernel_rfl) rfl hA ?_
   simp only[zz]
   refine Ze4 (i:=19) rfl (by kernel_rfl) rfl hA ?_
   simp only[zz]
   refine Zc5 (i:=20) (v:=.bool false) rfl rfl (by kernel_rfl) hA (fun _=>rfl) (.inl ⟨rfl,fun w5 q1=>?_⟩) ?_
   ·go_simp
   simp only[zz]
   refine Zah (by kernel_rfl) ?_
   gi_wp2
   refine bodyPost_end (results_none rfl _ _ _) rfl ?_
   have hj:=a8.o
   rw[List.take_of_length_le (by rw[Yk,←a5.o];omega)] at hj
   exact⟨⟨_,rfl⟩,.inl (HJ.o _ wo wo.drew none hj ⟨hA.os,hA.tape,hA.output,hA.size,fun j hj _=>hA.block j hj id⟩ (fun r e=>by cases e))⟩
theorem Zny (n:Nat)(hn:1≤n)(hb:Bytes b)(hl:b.length≤40000)(ht:0≤h.turn∧h.turn≤4294967295)(ha:1≤h.area∧h.area≤1000)(hnb:0≤number∧number≤4294967295)(hp:0≤place∧place≤1000000000000)
  (w:World) (hS: ∀k,S k→k<w.heap.size) (hPS:PartS S bb bh bp bn bs v b) (hP:PartIn w bb bh bp bn bs v b h number place snap):
  SeqStopsK Fence.wide n Tryz.prog 160 #[.pointer (some ⟨bb,0,none⟩),.pointer (some ⟨bh,0,none⟩),.pointer (some ⟨bp,0,none⟩),.pointer (some ⟨bn,0,none⟩),.pointer (some ⟨bs,0,none⟩)] (fun x:Sc=>#[.int .i64 x.1.1,.agg (bcells x.1.2).toArray]) (Keep S) (fun ys=>ys=partSc h number place snap b hb) (fun pre=>pre <+: partSc h number place snap b hb) (partSc h number place snap b hb).length w:=fun l J Jx W hW hJ _ hY h0=>
 Zs0 n hn l hb hl ht ha hnb hp J Jx W (fun k hk=>Nat.lt_of_lt_of_le (hS k hk) hW.size) hJ hY hPS (hP.kept hPS (fun k hk=>hW.block k (hS k hk))) h0
end
section
open Go.RowKit Go.Shelf
theorem BytesIn.lt {a:Addr}(h: ∀(i:Nat) u,(bcells b)[i]?=some u→w.cell? (a.add i)=some u)(hne:b≠[]):a.block<w.heap.size:=by
 cases b with
 |nil=>exact absurd rfl hne
 |cons x b=>
  have:=h 0 (.int .u8 x) (by simp[bcells])
  rw[show a.add 0=a by unfold Addr.add;simp] at this
  rcases Nat.lt_or_ge a.block w.heap.size with h' | h'
  ·exact h'
  ·simp[World.cell?,Array.getElem?_eq_none h'] at this
theorem Zbh (h:n≤40000):secsN n≤834:=by unfold secsN;omega
theorem Zg4 (w:World)(hD:Dsk w p D F)(hok:D.Ok K)(hK:K≤1099511620000)(hb:Bytes b)(hl:b.length≤40000)(ht:0≤h.turn∧h.turn≤4294967295)(ha:1≤h.area∧h.area≤1000)(hnb:0≤number∧number≤4294967295)(hp:0≤place∧place≤1000000000000)
  (hbi:BytesIn w v b) (hsv:b≠[]→ ∀a n c,v=.slice (some a) n c→ ¬F a.block):
  Calls Tryz.prog 110 #[h.val,.pointer (some ⟨p,0,none⟩),.int .i64 number,.int .i64 place,.bool snap,v] w fun e w'=>e=.returned (.int .i64 (D.laysE (raw (partSc h number place snap b hb))))∧Left w p (D.lays (raw (partSc h number place snap b hb))) F w':=by
 obtain⟨sa,sc,rfl⟩:=hbi.slice'
 have a3:=hD.lt
 obtain⟨w5,a0⟩: ∃w5,w5=((((w.alloc (.cells #[.int .i64 h.turn,.int .i64 h.area,.int .i64 h.place,.int .i64 h.number] 184)).alloc (.cells #[.int .i64 number] 3)).alloc (.cells #[.int .i64 place] 3)).alloc (.cells #[.bool snap] 4)).alloc (.cells #[.slice sa b.length sc] 39):=⟨_,rfl⟩
 have a4:U0 w w5:=by rw[a0];exact(((((Upd.refl _ w).alloc _).alloc _).alloc _).alloc _).alloc _
 have b2:w5.heap.size=w.heap.size+5:=by rw[a0];simp
 have hP:PartIn w5 (w.heap.size+4) w.heap.size (w.heap.size+2) (w.heap.size+1) (w.heap.size+3) (.slice sa b.length sc) b h number place snap:=by
  refine⟨?_,?_,?_,?_,?_,hbi.kept a4⟩
  ·rw[a0];exact Zc (by simp)
  ·rw[a0,Zm (by simp only[World.size_alloc];omega),Zm (by simp only[World.size_alloc];omega),Zm (by simp only[World.size_alloc];omega),Zm (by simp only[World.size_alloc];omega)];exact Zc rfl
  ·rw[a0,Zm (by simp),Zm (by simp)];exact Zc (by simp)
  ·rw[a0,Zm (by simp only[World.size_alloc];omega),Zm (by simp only[World.size_alloc];omega),Zm (by simp only[World.size_alloc];omega)];exact Zc (by simp)
  ·rw[a0,Zm (by simp)];exact Zc (by simp)
 obtain⟨S,a5⟩: ∃S:Nat→Prop,S=fun k=>(w.heap.size≤k∧k<w.heap.size+5)∨(b≠[]∧ ∃a n c,Value.slice sa b.length sc=.slice (some a) n c∧k=a.block):=⟨_,rfl⟩
 have a9:PartS S (w.heap.size+4) w.heap.size (w.heap.size+2) (w.heap.size+1) (w.heap.size+3) (.slice sa b.length sc) b:=by
  rw[a5]
  exact⟨.inl (by omega),.inl (by omega),.inl (by omega),.inl (by omega),.inl (by omega),fun a1 a n c e=>.inr ⟨a1,a,n,c,e,rfl⟩⟩
 have a6: ∀k,S k→k<w5.heap.size:=by
  rw[a5]
  rintro k (hk | ⟨a1,a,n,c,e,rfl⟩)
  ·omega
  ·rcases hbi with ⟨_,q⟩ | ⟨a',c',q1,_,_,q4⟩
   ·exact absurd q a1
   ·rw[q1] at e
    simp only[Value.slice.injEq,Option.some.injEq] at e
    obtain⟨rfl,_,_⟩:=e
    have:=BytesIn.lt (a:=a') q4 a1
    omega
 have a8: ∀k,S k→ ¬F k:=by
  rw[a5]
  rintro k (hk | ⟨a1,a,n,c,e,rfl⟩) hF
  ·have:=a3 k hF;omega
  ·exact hsv a1 a n c e hF
 have b1:=Zbh hl
 have a2:=Zg6 (gf:=160) (lb:=#[.pointer (some ⟨w.heap.size+4,0,none⟩),.pointer (some ⟨w.heap.size,0,none⟩),.pointer (some ⟨w.heap.size+2,0,none⟩),.pointer (some ⟨w.heap.size+1,0,none⟩),.pointer (some ⟨w.heap.size+3,0,none⟩)]) (S:=S) (partSc h number place snap b hb) w5 (hD.kept a4 n3Z) hok (by rw[Yk];omega) (enters_of Tryz.func160 (by kernel_rfl) rfl) a8 a6
  (fun w1 hu1=>Zny (3 - 1) (by omega) hb hl ht ha hnb hp w1 (fun k hk=>Nat.lt_of_lt_of_le (a6 k hk) hu1.size) a9 (hP.upd hu1))
 have HR:=V a2;have b3:=V a4;have a7:=V a0
 clear a2 hP a9 a6 a8 a5 a4 hD hok hbi hsv b2 a0 a3
 unfold Hd.val
 go_enter Tryz.func110,Tryz.ntmps110
 go_wp2_with (go_at_call 107;fail)
 rw[a7.o] at HR
 refine HR.o.mono ?_
 rintro e w6 ⟨rfl,b0⟩
 have HL:=V (b0.of_upd ((by rw[←a7.o];exact b3.o.mono (fun _ _ e=>e.elim))) (by simp;omega))
 clear b0 HR
 simp only[]
 go_wp2
 go_ret
 exact⟨rfl,HL.o⟩
theorem Zg7 (w:World)(hD:Dsk w p D F)(hok:D.Ok K)(hK:K≤1099511620000)(hu:h.U32):
  Calls Tryz.prog 112 #[h.val,.pointer (some ⟨p,0,none⟩)] w fun e w'=>e=.returned (.int .i64 (D.laysE (raw [headSc h])))∧Left w p (D.lays (raw [headSc h])) F w':=by
 have a1:=hD.lt
 obtain⟨w5,a2⟩: ∃w5,w5=w.alloc (.cells #[.int .i64 h.turn,.int .i64 h.area,.int .i64 h.place,.int .i64 h.number] 184):=⟨_,rfl⟩
 have a3:U0 w w5:=by rw[a2];exact(Upd.refl _ w).alloc _
 have a9:w5.heap.size=w.heap.size+1:=by rw[a2];simp
 have hc:w5.heap[w.heap.size]?=some (.cells #[.int .i64 h.turn,.int .i64 h.area,.int .i64 h.place,.int .i64 h.number] 184 (0,0)):=by rw[a2];exact Zc rfl
 have a4: ∀k,k=w.heap.size→k<w5.heap.size:=fun k hk=>by omega
 have a7: ∀k,k=w.heap.size→ ¬F k:=fun k hk e=>by have:=a1 k e;omega
 have a0:=Zg6 (gf:=163) (lb:=#[.pointer (some ⟨w.heap.size,0,none⟩)]) (S:=fun k=>k=w.heap.size) [headSc h] w5 (hD.kept a3 n3Z) hok (by simp;omega) (enters_of Tryz.func163 (by kernel_rfl) rfl) a7 a4
  (fun w1 hu1=>Zoa (3 - 1) (by omega) w.heap.size h hu (fun k=>k=w.heap.size) w1 (fun k hk=>Nat.lt_of_lt_of_le (a4 k hk) hu1.size) rfl (kb hu1 hc))
 have HR:=V a0;have a8:=V a3;have a5:=V a2
 clear a0 a4 a7 a3 hD hok a9 a2 a1 hc
 unfold Hd.val
 go_enter Tryz.func112,Tryz.ntmps112
 go_wp2_with (go_at_call 107;fail)
 rw[a5.o] at HR
 refine HR.o.mono ?_
 rintro e w6 ⟨rfl,a6⟩
 have HL:=V (a6.of_upd ((by rw[←a5.o];exact a8.o.mono (fun _ _ e=>e.elim))) (by simp))
 clear a6 HR
 simp only[]
 go_wp2
 go_ret
 exact⟨rfl,HL.o⟩
end
section
open Go.RowKit
structure Lg where
 h:Hd
 parts:List (List Int)
 used:Int
 broken:Bool
def Lg.cells (X:Lg)(p:Nat)(PV:Value):Array Value:=#[.int .i64 X.h.turn,.int .i64 X.h.area,.int .i64 X.h.place,.int .i64 X.h.number,.pointer (some ⟨p,0,none⟩),PV,.int .i64 X.used,.bool X.broken]
structure LogAt (w:World) (q p:Nat) (X:Lg) (PV:Value) (vs:List Value):Prop where
 main:w.heap[q]?=some (.cells (X.cells p PV) 193 (0,0))
 row:w.ownsRow 0 39 1 PV X.parts.length vs
 parts: ∀(i:Nat) v b,vs[i]?=some v→X.parts[i]?=some b→OwnB w 0 v b
 nq: ∀k,PV.ownBlock=some k→k≠q
 nv: ∀v k,v∈vs→v.ownBlock=some k→k≠q∧PV.ownBlock≠some k
def Gp (q:Nat)(PV:Value)(vs:List Value)(k:Nat):Prop:=k=q∨PV.ownBlock=some k∨ ∃v∈vs,v.ownBlock=some k
def Log (w:World)(q p:Nat)(X:Lg)(G:Nat→Prop):Prop:= ∃PV vs,LogAt w q p X PV vs∧ ∀k,G k↔Gp q PV vs k
theorem LogAt.vslen {X:Lg}{PV:Value}{vs:List Value}(h:LogAt w q p X PV vs):vs.length=X.parts.length:=by have:=h.row.1;omega
theorem LogAt.kept {X:Lg}{PV:Value}{vs:List Value}(h:LogAt w q p X PV vs)(hu:Upd F w w')(hd: ∀k,Gp q PV vs k→ ¬F k):LogAt w' q p X PV vs where
 main:=(hu.block _ (Za h.main) (hd _ (.inl rfl))).trans h.main
 row:=Zy h.row hu (fun k hk=>hd k (.inr (.inl hk)))
 parts i v b hv hb:=(h.parts i v b hv hb).keptF hu (fun k hk=>hd k (.inr (.inr ⟨v,List.mem_of_getElem? hv,hk⟩)))
 nq:=h.nq
 nv:=h.nv
theorem Log.kept {X:Lg}(h:Log w q p X G)(hu:Upd F w w')(hd: ∀k,G k→ ¬F k):Log w' q p X G:=by
 obtain⟨PV,vs,h1,h2⟩:=h
 exact⟨PV,vs,h1.kept hu (fun k hk=>hd k ((h2 k).2 hk)),h2⟩
theorem Log.lt {X:Lg}(h:Log w q p X G): ∀k,G k→k<w.heap.size:=by
 obtain⟨PV,vs,h1,h2⟩:=h
 intro k hk
 rcases(h2 k).1 hk with rfl | hk | ⟨v,hv,hk⟩
 ·exact Za h1.main
 ·exact(World.ownsRow.lt h1.row k hk).2
 ·obtain⟨i,hi⟩:=List.getElem?_of_mem hv
  have hl:=h1.vslen
  have a0:i<X.parts.length:=by rw[←hl];exact(List.getElem?_eq_some_iff.1 hi).1
  exact(World.ownsRow.lt (h1.parts i v X.parts[i] hi (by simp[a0])) k hk).2
theorem Log.mem {X:Lg}(h:Log w q p X G):G q:=by
 obtain⟨PV,vs,_,h2⟩:=h
 exact(h2 q).2 (.inl rfl)
theorem Zbv {b:Nat}{x0 x1 x2 x3 x4 x5 x6 x7:Value}{t:TypeId}(h:w.heap[b]?=some (.cells #[x0,x1,x2,x3,x4,x5,x6,x7] t (0,0))):
  w.cell? ⟨b,0,none⟩=some x0∧w.cell? ⟨b,1,none⟩=some x1∧w.cell? ⟨b,2,none⟩=some x2∧w.cell? ⟨b,3,none⟩=some x3∧w.cell? ⟨b,4,none⟩=some x4∧w.cell? ⟨b,5,none⟩=some x5∧w.cell? ⟨b,6,none⟩=some x6∧w.cell? ⟨b,7,none⟩=some x7:=by simp[World.cell?,h]
theorem rowV {e:TypeId}{xs:List Value}(h:w.ownsRow B e 1 v n xs): ∃sa c,v=.slice sa n c:=by
 rcases h.2 with ⟨h1,h2⟩ | ⟨g,a0,a1,h1,_⟩
 ·exact⟨none,0,by rw[h1,h2]⟩
 ·exact⟨_,a0,h1⟩
structure Lg.Ok (X:Lg):Prop where
 turn:0≤X.h.turn∧X.h.turn≤1073741824
 area:4≤X.h.area∧X.h.area≤1000
 place:0≤X.h.place∧X.h.place≤100000
 number:0≤X.h.number∧X.h.number≤1073741825
 used:0≤X.used∧X.used≤1000
 len:X.parts.length≤1000
 bytes: ∀b∈X.parts,Bytes b∧b.length≤40000
theorem Zdd {X:Lg}(w:World)(h:Log w q p X G)(hok:X.Ok):
  Calls Tryz.prog 116 #[.pointer (some ⟨q,0,none⟩)] w fun e w'=>e=.returned (.int .i64 (X.h.number+X.parts.length))∧U0 w w':=by
 obtain⟨PV,vs,h1,_⟩:=h
 obtain⟨sa,c,rfl⟩:=rowV h1.row
 obtain⟨c0,c1,c2,c3,c4,c5,c6,c7⟩:=Zbv h1.main
 have hn:=hok.number;have hl:=hok.len
 have hw:IntKind.i64.wrap (X.h.number+X.parts.length)=X.h.number+X.parts.length:=by rw[IntKind.wrap_i64];omega
 clear h1 c0 c1 c2 c4 c6 c7
 go_enter Tryz.func116,Tryz.ntmps116
 go_upto_region 1 with fail
 go_quiet (fail)
 go_wp2
 go_ret
 exact⟨rfl,⟨rfl,rfl,rfl,Nat.le_refl _,fun _ _ _=>rfl⟩⟩
theorem Zem {X:Lg}(w:World)(h:Log w q p X G)(hok:X.Ok):
  Calls Tryz.prog 54 #[.pointer (some ⟨q,0,none⟩)] w fun e w'=>e=.returned (.int .i64 (X.h.area - X.used))∧U0 w w':=by
 obtain⟨PV,vs,h1,_⟩:=h
 obtain⟨c0,c1,c2,c3,c4,c5,c6,c7⟩:=Zbv h1.main
 have hn:=hok.area;have hl:=hok.used
 have hw:IntKind.i64.wrap (X.h.area - X.used)=X.h.area - X.used:=by rw[IntKind.wrap_i64];omega
 clear h1 c0 c2 c3 c4 c5 c7
 go_enter Tryz.func54,Tryz.ntmps54
 go_upto_region 3 with fail
 go_quiet (fail)
 go_wp2
 go_ret
 exact⟨rfl,⟨rfl,rfl,rfl,Nat.le_refl _,fun _ _ _=>rfl⟩⟩
theorem Zn6 {X:Lg}(w:World)(h:Log w q p X G)(hok:X.Ok):
  Calls Tryz.prog 55 #[.pointer (some ⟨q,0,none⟩)] w fun e w'=>e=.returned (.int .i64 (X.parts.length - 1))∧U0 w w':=by
 obtain⟨PV,vs,h1,_⟩:=h
 obtain⟨sa,c,rfl⟩:=rowV h1.row
 obtain⟨c0,c1,c2,c3,c4,c5,c6,c7⟩:=Zbv h1.main
 have hl:=hok.len
 have hw:IntKind.i64.wrap ((X.parts.length:Int) - 1)=(X.parts.length:Int) - 1:=by rw[IntKind.wrap_i64];omega
 clear h1 c0 c1 c2 c3 c4 c6 c7
 go_enter Tryz.func55,Tryz.ntmps55
 go_wp2
 go_ret
 exact⟨rfl,Upd.refl _ w⟩
theorem Tryz.info28p:(Tryz.prog.info? 39).map (fun i=>(i.zero,i.size,i.bytes))=some (some (.slice none 0 0),1,24):=by kernel_rfl
def Lg.add (X:Lg)(b:List Int):Lg:={X with parts:=X.parts++[b],used:=X.used+secsN b.length}
theorem Zhd {X:Lg}(w:World)(h:Log w q p X G)(hok:X.Ok)(hlen:X.parts.length<1000)(hb:OwnB w B v b)(hvG: ∀k,v.ownBlock=some k→ ¬G k)(hl:b.length≤40000):
  Calls Tryz.prog 117 #[.pointer (some ⟨q,0,none⟩),v] w fun e w'=>e=.returned (.tuple #[])∧(∃G',Log w' q p (X.add b) G'∧ ∀k,G' k→G k∨v.ownBlock=some k∨w.heap.size≤k)∧Upd G w w':=by
 have a7:=h.lt
 obtain⟨PV,vs,h1,h2⟩:=h
 obtain⟨pa,pc,rfl⟩:=rowV h1.row
 obtain⟨sa,sc,rfl⟩:=hb.slice'
 have a9:=World.ownsRow.lt hb
 have d6:RowKit.Hid (secsI (b.length:Int)=(secsN b.length:Int)):=V (Zcp hl)
 have e6:=Zbh hl
 have e7:=hok.used
 have e8:IntKind.i64.wrap (X.used+(secsN b.length:Int))=X.used+(secsN b.length:Int):=by rw[IntKind.wrap_i64];omega
 have HM:=V h1.main
 have c5:w.cell? ⟨q,5,none⟩=some (.slice pa X.parts.length pc):=by simp[World.cell?,h1.main,Lg.cells]
 have H1:=V h1;have H2:=V h2;have HB:=V hb;have c3:=V hvG;have d5:=V a7;have e1:=V a9
 clear h1 h2 hb hvG a7 a9
 go_enter Tryz.func117,Tryz.ntmps117
 go_upto_region 0 with fail
 iterate 22 go_step
 obtain⟨i0,c4,c8,d2,c0⟩:=info_parts Tryz.info28p
 refine wpList_append_own_at _ rfl (.tmp 8) (.tmp 10) 32 rfl 0 39 i0 (.slice none 0 0) 1 24 Tryz.underlying32 c4 c8 d2 c0 rfl (by omega) _ _ _ rfl (H1.o.row.alloc _) ⟨w.heap.size,0,none⟩ 1 1 [.slice sa b.length sc] rfl rfl (cell_one_new _ _ _) (by simp[Value.oneCell']) (by unfold maxLen;omega) (by omega) (by omega) ?_
 intro v' w4 a3 a2 _ c9
 obtain⟨g,a0,rfl⟩:=ownsRow_succ a3
 have b3:Upd (fun k=>(Value.slice pa X.parts.length pc).ownBlock=some k) w w4:=((Upd.refl _ w).alloc _).trans (Upd.of_grown a2 (fun k hk=>hk))
 have c7: ¬(Value.slice pa X.parts.length pc).ownBlock=some q:=fun e=>H1.o.nq q e rfl
 have b1:=(b3.block _ (Za HM.o) c7).trans HM.o
 have e3:w4.cell? ⟨q,5,none⟩=some (.slice pa X.parts.length pc):=by simp[World.cell?,b1,Lg.cells]
 have f5:w4.frozen? ⟨q,5,none⟩=false:=Zb b1
 have a8:g=w.heap.size+1∨(Value.slice pa X.parts.length pc).ownBlock=some g:=by
  rcases c9 with e | e
  ·exact .inr (show(Value.slice pa X.parts.length pc).ownBlock=some g from e.symm)
  ·simp[Value.ownBlock] at e;exact .inl e
 have a5:=V a3;have d1:=V b3;have b7:=V b1;have b5:=V a8
 clear a3 a2 c9 a8 b3 b1 c7 c4 c8 d2 c0 c5
 go_upto_region 1 with fail
 obtain⟨w5,b0⟩: ∃w5,w5=w4.setCell ⟨q,5,none⟩ (.slice (some ⟨g,0,none⟩) (X.parts.length+1) a0):=⟨_,rfl⟩
 rw[←b0]
 have c1:w5.heap[q]?=some (.cells [.int .i64 X.h.turn,.int .i64 X.h.area,.int .i64 X.h.place,.int .i64 X.h.number,.pointer (some ⟨p,0,none⟩),.slice (some ⟨g,0,none⟩) (X.parts.length+1) a0,.int .i64 X.used,.bool X.broken].toArray 193 (0,0)):=by
  rw[b0]
  have:=Ze (i:=5) (v:=.slice (some ⟨g,0,none⟩) (X.parts.length+1) a0) b7.o
  simpa [Lg.cells] using this
 have d0:Upd (fun k=>(Value.slice pa X.parts.length pc).ownBlock=some k∨k=q) w w5:=by
  rw[b0]
  exact Upd.setCell (p:=⟨q,5,none⟩) (d1.o.mono (fun _ _ e=>.inl e)) (.inl (.inr rfl)) _
 have b9:g≠q:=by
  rcases b5.o with e | e
  ·have:=Za HM.o;omega
  ·exact H1.o.nq g e
 have a1:w5.ownsRow 0 39 1 (.slice (some ⟨g,0,none⟩) (X.parts.length+1) a0) (X.parts.length+1) (vs++[.slice sa b.length sc]):=by
  rw[b0]
  exact Zy a5.o (Zd w4 q 5 _) (fun k hk e=>by simp[Value.ownBlock] at hk;omega)
 have b8:=V c1;have d8:=V d0;have e0:=V a1;have c2:=V b9
 clear c1 d0 a1 b9 b0 a5 d1 b7 HM e3 f5
 have hA:w5.drew.heap[q]?=some (.cells [.int .i64 X.h.turn,.int .i64 X.h.area,.int .i64 X.h.place,.int .i64 X.h.number,.pointer (some ⟨p,0,none⟩),.slice (some ⟨g,0,none⟩) (X.parts.length+1) a0,.int .i64 X.used,.bool X.broken].toArray 193 (0,0)):=b8.o
 refine Zj 10 (fun W=>W.heap[q]?=some (.cells [.int .i64 X.h.turn,.int .i64 X.h.area,.int .i64 X.h.place,.int .i64 X.h.number,.pointer (some ⟨p,0,none⟩),.slice (some ⟨g,0,none⟩) (X.parts.length+1) a0,.int .i64 X.used,.bool X.broken].toArray 193 (0,0))) [false,false,false,false,false,false,false,false,false,false,false] rfl (by kernel_rfl) ?_
 refine tpZ 0 (.pointer (some ⟨q,0,none⟩)) hA ?_
 simp only[zz]
 refine tpZ 1 (.pointer (some ⟨q,0,none⟩)) hA ?_
 simp only[zz]
 refine tpZ 2 (.pointer (some ⟨q,6,none⟩)) hA ?_
 simp only[zz]
 refine tqZ 3 (.int .i64 X.used) [7] hA (fun w5 q1=>?_) ?_
 ·have c6:w5.cell? ⟨q,6,none⟩=some (.int .i64 X.used):=by simp[World.cell?,q1]
  go_simp
 simp only[zz]
 refine tpZ 4 (.slice sa b.length sc) hA ?_
 simp only[zz]
 refine tpZ 5 (.int .i64 b.length) hA ?_
 simp only[zz]
 refine diZ 6 (fun K HKK=>?_)
 go_step
 refine(Yf _ _).mono ?_
 rintro e W3 ⟨rfl,rfl⟩
 rw[d6.o]
 simp only[]
 refine HKK.o _ _ hA ?_
 clear HKK
 simp only[zz]
 refine tpZ 7 (.int .i64 (X.used+secsN b.length)) hA ?_
 simp only[zz]
 refine tpZ 8 (.pointer (some ⟨q,0,none⟩)) hA ?_
 simp only[zz]
 refine tpZ 9 (.pointer (some ⟨q,6,none⟩)) hA ?_
 simp only[zz]
 refine tlZ 10 ?_
 simp only[List.drop]
 have c6:w5.drew.cell? ⟨q,6,none⟩=some (.int .i64 X.used):=by simp[World.cell?,hA]
 have f6:w5.drew.frozen? ⟨q,6,none⟩=false:=Zb hA
 clear hA
 go_wp2
 refine bodyPost_end (results_none rfl _ _ _) rfl ?_
 obtain⟨w6,b2⟩: ∃w6,w6=(w5.setCell ⟨q,6,none⟩ (.int .i64 (X.used+(secsN b.length:Int)))).drew:=⟨_,rfl⟩
 rw[←b2]
 have a6:Upd (fun k=>k=q) w5 w6:=by rw[b2];exact(Zd w5 q 6 _).drew
 have d4:w6.heap[q]?=some (.cells ((X.add b).cells p (.slice (some ⟨g,0,none⟩) (X.parts.length+1) a0)) 193 (0,0)):=by
  rw[b2]
  show(w5.setCell ⟨q,6,none⟩ (.int .i64 (X.used+(secsN b.length:Int)))).heap[q]?=_
  have:=Ze (i:=6) (v:=.int .i64 (X.used+(secsN b.length:Int))) b8.o
  simpa [Lg.cells,Lg.add] using this
 have b4:Upd (fun k=>(Value.slice pa X.parts.length pc).ownBlock=some k∨k=q) w w6:=d8.o.trans (a6.mono (fun _ _ e=>.inr e))
 have d9:=H1.o.vslen
 have a4: ∀k,((Value.slice pa X.parts.length pc).ownBlock=some k∨k=q)→G k:=fun k hk=>(H2.o k).2 (hk.elim (fun e=>.inr (.inl e)) .inl)
 have d7: ∀u∈vs,∀k,u.ownBlock=some k→k<w.heap.size:=fun u hu k hk=>d5.o k ((H2.o k).2 (.inr (.inr ⟨u,hu,hk⟩)))
 have d3: ∀k,k<w.heap.size→ ¬(Value.slice pa X.parts.length pc).ownBlock=some k→k≠g:=fun k hk hn e=>by
  rcases b5.o with q1 | q1
  ·omega
  ·rw[e] at hn;exact hn q1
 refine⟨rfl,⟨Gp q (.slice (some ⟨g,0,none⟩) (X.parts.length+1) a0) (vs++[.slice sa b.length sc]),⟨_,_,⟨d4,?_,?_,?_,?_⟩,fun _=>Iff.rfl⟩,?_⟩,b4.mono (fun k _ e=>a4 k e)⟩
 ·have e5:(X.add b).parts.length=X.parts.length+1:=by simp[Lg.add]
  rw[e5]
  exact Zy e0.o a6 (fun k hk e=>by simp[Value.ownBlock] at hk;have:=c2.o;omega)
 ·intro i u c hu hc
  by_cases hi:i<vs.length
  ·rw[List.getElem?_append_left hi] at hu
   have b6:X.parts[i]?=some c:=by
    simp only[Lg.add] at hc
    rwa [List.getElem?_append_left (by omega)] at hc
   have hm:=List.mem_of_getElem? hu
   refine(H1.o.parts i u c hu b6).keptF b4 (fun k hk e=>?_)
   obtain⟨n1,n2⟩:=H1.o.nv u k hm hk
   rcases e with e | e
   ·exact n2 e
   ·exact n1 e
  ·have e4:i=vs.length:=by
    have:=(List.getElem?_eq_some_iff.1 hu).1
    simp at this;omega
   subst e4
   rw[List.getElem?_append_right (Nat.le_refl _)] at hu
   have b6:b=c:=by
    simp only[Lg.add] at hc
    rw[List.getElem?_append_right (by omega)] at hc
    simpa [d9] using hc
   simp at hu
   subst hu;subst b6
   exact(OwnB.mono HB.o (Nat.zero_le _)).keptF b4 (fun k hk e=>c3.o k hk (a4 k e))
 ·intro k hk
  simp[Value.ownBlock] at hk
  have:=c2.o;omega
 ·intro u k hu hk
  rw[List.mem_append] at hu
  rcases hu with hu | hu
  ·obtain⟨n1,n2⟩:=H1.o.nv u k hu hk
   refine⟨n1,fun e=>?_⟩
   simp[Value.ownBlock] at e
   exact d3 k (d7 u hu k hk) n2 e.symm
  ·simp at hu;subst hu
   have n0:=c3.o k hk
   refine⟨fun e=>n0 (a4 k (.inr e)),fun e=>?_⟩
   simp[Value.ownBlock] at e
   exact d3 k (e1.o k hk).2 (fun e2=>n0 (a4 k (.inl e2))) e.symm
 ·rintro k (rfl | hk | ⟨u,hu,hk⟩)
  ·exact .inl (a4 _ (.inr rfl))
  ·simp[Value.ownBlock] at hk
   subst hk
   rcases b5.o with q1 | q1
   ·exact .inr (.inr (by omega))
   ·exact .inl (a4 _ (.inl q1))
  ·rw[List.mem_append] at hu
   rcases hu with hu | hu
   ·exact .inl ((H2.o k).2 (.inr (.inr ⟨u,hu,hk⟩)))
   ·simp at hu;subst hu
    exact .inr (.inl hk)
def Lg.refuses (X:Lg)(n:Nat)(u:Int):Int:=if X.broken then 8 else if 40000<n then 3 else if X.h.area<u+secsN n∨1073741824<X.h.number+X.parts.length then 6 else 0
theorem Zge {X:Lg}{fu:Nat}{lb:Array Value}{sa:Option Addr}{sc:Nat}{u:Int}(w:World)(h:Log w q p X G)(hok:X.Ok)(hu:0≤u∧u≤1000)(eg: ∀args w,(callFunc fu args).run Tryz.prog w=.ok (.enter fu args) w)
  (hc: ∀W',U0 w W'→Calls Tryz.prog fu lb W' fun e w'=>e=.returned (.int .i64 u)∧U0 W' w'):
  Calls Tryz.prog 114 #[.pointer (some ⟨q,0,none⟩),.slice sa n sc,.func (.func fu) #[] lb] w fun e w'=>e=.returned (.int .i64 (X.refuses n u))∧U0 w w':=by
 have a5:=h
 obtain⟨PV,vs,h1,_⟩:=h
 have hm:=h1.main
 obtain⟨pa,pc,rfl⟩:=rowV h1.row
 have c7:w.cell? ⟨q,7,none⟩=some (.bool X.broken):=by simp[World.cell?,hm,Lg.cells]
 have a0:X.refuses n u=if X.broken then 8 else if 40000<n then 3 else if X.h.area<u+secsN n∨1073741824<X.h.number+X.parts.length then 6 else 0:=rfl
 obtain⟨r,hr⟩: ∃r,r=X.refuses n u:=⟨_,rfl⟩
 rw[←hr] at a0 ⊢
 obtain⟨br,a6⟩: ∃br,br=X.broken:=⟨_,rfl⟩
 rw[←a6] at c7 a0
 have HC:=V hc;have HM:=V hm;have b0:=V a5
 clear hc hm h1 hr a6 a5
 cases br with
 |true=>
  rw[if_pos rfl] at a0
  subst a0
  go_enter Tryz.func114,Tryz.ntmps114
  go_wp2
  go_ret
  exact⟨rfl,Upd.refl _ _⟩
 |false=>
  rw[if_neg (by simp)] at a0
  by_cases hn:40000<n
  ·rw[if_pos hn] at a0
   subst a0
   have b2:(n:Int) > 40000:=by omega
   go_enter Tryz.func114,Tryz.ntmps114
   go_wp2
   go_ret
   exact⟨rfl,Upd.refl _ _⟩
  ·rw[if_neg hn] at a0
   have b2: ¬(n:Int) > 40000:=by omega
   have b3:RowKit.Hid (secsI (n:Int)=(secsN n:Int)):=V (Zcp (by omega))
   have b4:=Zbh (n:=n) (by omega)
   have b5:IntKind.i64.wrap (u+(secsN n:Int))=u+(secsN n:Int):=by rw[IntKind.wrap_i64];omega
   have a2:=V a0
   clear a0
   have hA:U0 w w.drew:=(Upd.refl _ w).drew
   go_enter Tryz.func114,Tryz.ntmps114
   go_upto_region 7 with fail
   clear c7
   refine Zj 17 (fun W=>U0 w W) [false,false,false,false,false,false,false,false,false,false,false,false,false,false,false,false,false,false] rfl (by kernel_rfl) ?_
   refine tpZ 0 (.func (.func fu) #[] lb) hA ?_
   simp only[zz]
   refine tpZ 2 (.slice sa n sc) hA ?_
   simp only[zz]
   refine tpZ 3 (.int .i64 n) hA ?_
   simp only[zz]
   refine tpZ 6 (.pointer (some ⟨q,0,none⟩)) hA ?_
   simp only[zz]
   refine tpZ 7 (.pointer (some ⟨q,0,none⟩)) hA ?_
   simp only[zz]
   refine tpZ 8 (.pointer (some ⟨q,0,none⟩)) hA ?_
   simp only[zz]
   refine tpZ 9 (.pointer (some ⟨q,1,none⟩)) hA ?_
   simp only[zz]
   refine tqZ 10 (.int .i64 X.h.area) [16,12,11] hA (fun w5 q1=>?_) ?_
   ·have cc:w5.cell? ⟨q,1,none⟩=some (.int .i64 X.h.area):=by simp[World.cell?,kb q1 HM.o,Lg.cells]
    go_simp
   simp only[zz]
   refine diZ 1 (fun K HKK=>?_)
   go_step
   refine(HC.o _ hA).mono ?_
   rintro e W3 ⟨rfl,a3⟩
   have a1:U0 w W3:=hA.trans a3
   clear hA a3
   have hA:=a1
   clear a1
   simp only[]
   refine HKK.o _ _ hA ?_
   clear HKK
   simp only[zz]
   refine diZ 4 (fun K HKK=>?_)
   go_step
   refine(Yf _ _).mono ?_
   rintro e W4 ⟨rfl,rfl⟩
   rw[b3.o]
   simp only[]
   refine HKK.o _ _ hA ?_
   clear HKK
   simp only[zz]
   refine tpZ 5 (.int .i64 (u+secsN n)) hA ?_
   simp only[zz]
   by_cases a8:X.h.area<u+(secsN n:Int)
   ·
    have b1:u+(secsN n:Int) > X.h.area:=a8
    refine tpZ 11 (.bool true) hA ?_
    simp only[zz]
    refine tpZ 12 (.bool true) hA ?_
    simp only[zz]
    refine trZ 13 [14] hA ?_
    simp only[zz]
    refine trZ 14 [] hA ?_
    simp only[zz]
    refine trZ 15 [16] hA ?_
    simp only[zz]
    refine tpZ 16 (.bool true) hA ?_
    simp only[zz]
    refine tlZ 17 ?_
    simp only[List.drop]
    have HA:=V hA
    clear hA
    go_wp2
    go_ret
    have a0:=a2.o
    rw[if_pos (by omega)] at a0
    exact⟨Zbr a0.symm,HA.o⟩
   ·
    have b1: ¬u+(secsN n:Int) > X.h.area:=a8
    refine tpZ 11 (.bool false) hA ?_
    simp only[zz]
    refine tpZ 12 (.bool false) hA ?_
    simp only[zz]
    refine tpZ 13 (.pointer (some ⟨q,0,none⟩)) hA ?_
    simp only[zz]
    refine diZ 14 (fun K HKK=>?_)
    go_step
    refine(Zdd _ (b0.o.kept hA n3Z) hok).mono ?_
    rintro e W5 ⟨rfl,a4⟩
    have a1:U0 w W5:=hA.trans a4
    clear hA a4
    have hA:=a1
    clear a1
    simp only[]
    refine HKK.o _ _ hA ?_
    clear HKK
    simp only[zz]
    by_cases a7:1073741824<X.h.number+(X.parts.length:Int)
    ·
     have a9:X.h.number+(X.parts.length:Int) > 1073741824:=a7
     refine tpZ 15 (.bool true) hA ?_
     simp only[zz]
     refine tpZ 16 (.bool true) hA ?_
     simp only[zz]
     refine tlZ 17 ?_
     simp only[List.drop]
     have HA:=V hA
     clear hA
     go_wp2
     go_ret
     have a0:=a2.o
     rw[if_pos (by omega)] at a0
     exact⟨Zbr a0.symm,HA.o⟩
    ·
     have a9: ¬X.h.number+(X.parts.length:Int) > 1073741824:=a7
     refine tpZ 15 (.bool false) hA ?_
     simp only[zz]
     refine tpZ 16 (.bool false) hA ?_
     simp only[zz]
     refine tlZ 17 ?_
     simp only[List.drop]
     have HA:=V hA
     clear hA
     go_wp2
     go_ret
     have a0:=a2.o
     rw[if_neg (by omega)] at a0
     exact⟨Zbr a0.symm,HA.o⟩
theorem BytesIn.keptF {bs:List Int}(h:BytesIn w v bs)(hu:Upd G w w')(hg:bs≠[]→ ∀a n c,v=.slice (some a) n c→ ¬G a.block):BytesIn w' v bs:=by
 rcases h with h | ⟨a,c,rfl,h2,h3,h4⟩
 ·exact .inl h
 ·refine .inr ⟨a,c,rfl,h2,h3,fun i u hi=>Zo hu ?_ (h4 i u hi)⟩
  rw[show(a.add i).block=a.block by unfold Addr.add;split<;> rfl]
  exact hg (by rintro rfl;simp[bcells] at hi) a _ _ rfl
def Lg.brk (X:Lg)(x:Bool):Lg:={X with broken:=x}
theorem Log.setBroken {X:Lg}(h:Log w q p X G)(x:Bool):Log (w.setCell ⟨q,7,none⟩ (.bool x)) q p (X.brk x) G:=by
 obtain⟨PV,vs,h1,h2⟩:=h
 have hu:=Zd w q 7 (.bool x)
 refine⟨PV,vs,⟨?_,?_,?_,h1.nq,h1.nv⟩,h2⟩
 ·have:=Ze (i:=7) (v:=.bool x) h1.main
  simpa [Lg.cells,Lg.brk] using this
 ·exact Zy h1.row hu (fun k hk e=>h1.nq k hk e)
 ·intro i v b hv hb
  exact(h1.parts i v b hv hb).keptF hu (fun k hk e=>(h1.nv v k (List.mem_of_getElem? hv) hk).1 e)
theorem Log.main' {X:Lg}(h:Log w q p X G): ∃PV,w.heap[q]?=some (.cells (X.cells p PV) 193 (0,0)):=by
 obtain⟨PV,vs,h1,_⟩:=h
 exact⟨PV,h1.main⟩
theorem Zq7 {bx:Nat}{X:Lg}(w:World)(h:Log w q p X G)(hb:w.heap[bx]?=some (.cells #[.pointer (some ⟨q,0,none⟩)] 38 (0,0))):
  Calls Tryz.prog 118 #[.pointer (some ⟨bx,0,none⟩)] w fun e w'=>e=.returned (.int .i64 X.used)∧U0 w w':=by
 obtain⟨PV,hm⟩:=h.main'
 have c6:w.cell? ⟨q,6,none⟩=some (.int .i64 X.used):=by simp[World.cell?,hm,Lg.cells]
 have c0:=Zf hb
 clear hm hb
 go_enter Tryz.func118,Tryz.ntmps118
 go_wp2
 go_ret
 exact⟨rfl,Upd.refl _ _⟩
def Wal (w:World)(q p:Nat)(X:Lg)(D:Dk)(G F:Nat→Prop):Prop:=Log w q p X G∧Dsk w p D F∧ ∀k,G k→ ¬F k
def Lg.after (X:Lg)(b:List Int)(E:Int):Lg:=if E=0 then X.add b else X.brk true
theorem Zor {X:Lg}(w:World)(hX:Wal w q p X D G F)(hok:X.Ok)(hlen:X.parts.length<1000)(hDok:D.Ok K)(hK:K≤1099511620000)(hb:Bytes b)(hbl:b.length≤1099511627700)(hbi:BytesIn w v b)
  (hsv:b≠[]→ ∀a n c,v=.slice (some a) n c→ ¬F a.block∧a.block≠q):
  Calls Tryz.prog 43 #[.pointer (some ⟨q,0,none⟩),v] w fun e w'=>
   (X.refuses b.length X.used≠0∧e=.returned (.int .i64 (X.refuses b.length X.used))∧U0 w w')∨
   (X.refuses b.length X.used=0∧e=.returned (.int .i64 (D.laysE (raw (partSc X.h (X.h.number+X.parts.length) (X.h.place+X.used) false b hb))))∧
    ∃G' F',Wal w' q p (X.after b (D.laysE (raw (partSc X.h (X.h.number+X.parts.length) (X.h.place+X.used) false b hb)))) (D.lays (raw (partSc X.h (X.h.number+X.parts.length) (X.h.place+X.used) false b hb))) G' F'∧
     (∀k,G' k→G k∨w.heap.size≤k)∧(∀k,F' k→F k∨w.heap.size≤k)∧Upd (fun k=>G k∨F k) w w'):=by
 obtain⟨d0,hD,i2⟩:=hX
 obtain⟨sa,sc,rfl⟩:=hbi.slice'
 have b2:=d0.lt;have b7:=hD.lt;have h6:=d0.mem
 have c3:=V d0;have HD:=V hD;have f2:=V i2;have c5:=V b2;have j0:=V b7;have c8:=V h6;have h3:=V hbi;have f0:=V hsv;have d8:=V hDok;have HB:=V hb
 obtain⟨r,hr⟩: ∃r,r=X.refuses b.length X.used:=⟨_,rfl⟩
 have HR:=V hr
 rw[←hr]
 clear d0 hD i2 b2 b7 h6 hbi hsv hDok hr
 obtain⟨w1,g5,h9,i4⟩:=nb w (.cells #[.pointer (some ⟨q,0,none⟩)] 38)
 have c6:=V h9;have f1:=V i4
 go_enter Tryz.func43,Tryz.ntmps43
 go_wp2_with (go_at_call 114;fail)
 rw[←g5]
 clear g5 h9 i4
 refine(Zge (fu:=118) (lb:=#[.pointer (some ⟨w.heap.size,0,none⟩)]) w1 (c3.o.kept c6.o n3Z) hok hok.used (enters_of Tryz.func118 (by kernel_rfl) rfl) (fun W' hu=>Zq7 W' ((c3.o.kept c6.o n3Z).kept hu n3Z) (kb hu f1.o))).mono ?_
 rintro e w2 ⟨rfl,d6⟩
 rw[←HR.o]
 have b6:=V (c6.o.trans d6);have a3:=V (kb d6 f1.o)
 clear d6 c6 f1
 simp only[]
 by_cases b9:r≠0
 ·have j9:(r !=0)=true:=by simpa using b9
  go_wp2
  go_ret
  exact .inl ⟨b9,rfl,b6.o⟩
 ·have b9:r=0:=Decidable.not_not.1 b9
  subst b9
  have a6:=HR.o
  have e4:X.broken=false:=by
   cases hx:X.broken with
   |false=>rfl
   |true=>rw[Lg.refuses,hx,if_pos rfl] at a6;omega
  rw[Lg.refuses,e4,if_neg (by simp)] at a6
  have i3:b.length≤40000:=by
   rcases Nat.lt_or_ge 40000 b.length with q1 | q1
   ·rw[if_pos q1] at a6;omega
   ·exact q1
  rw[if_neg (by omega)] at a6
  have g8: ¬(X.h.area<X.used+secsN b.length∨1073741824<X.h.number+X.parts.length):=by
   intro hx
   rw[if_pos hx] at a6
   omega
  have j6:=V e4
  clear a6 e4
  have t1:=hok.turn;have t2:=hok.area;have t3:=hok.place;have t4:=hok.number;have t5:=hok.used;have t6:=hok.len
  have j7:IntKind.i64.wrap (X.h.place+X.used)=X.h.place+X.used:=by rw[IntKind.wrap_i64];omega
  obtain⟨PV,hm⟩:=c3.o.main'
  have HM:=V (kb b6.o hm)
  clear hm
  have hA:U0 w2 w2.drew:=(Upd.refl _ w2).drew
  have b5:(Tryz.prog.info? 184).map (·.size)=some 4:=by kernel_rfl
  go_upto_region 4 with fail
  refine Zj 21 (fun W=>U0 w2 W) [false,false,false,false,false,false,false,false,false,false,false,false,false,false,false,false,false,false,false,false,false,false,false] rfl (by kernel_rfl) ?_
  refine tqZ 0 (.pointer (some ⟨q,0,none⟩)) [3,2,1] hA (fun w5 q1=>?_) ?_
  ·have cc:=Zf (kb q1 a3.o)
   go_simp
  simp only[zz]
  refine tqZ 4 (.pointer (some ⟨q,0,none⟩)) [7,6,5] hA (fun w5 q1=>?_) ?_
  ·have cc:=Zf (kb q1 a3.o)
   go_simp
  simp only[zz]
  refine tqZ 8 (.pointer (some ⟨q,0,none⟩)) [9] hA (fun w5 q1=>?_) ?_
  ·have cc:=Zf (kb q1 a3.o)
   go_simp
  simp only[zz]
  refine tqZ 10 (.pointer (some ⟨q,0,none⟩)) [19,14,13,12,11] hA (fun w5 q1=>?_) ?_
  ·have cc:=Zf (kb q1 a3.o)
   go_simp
  simp only[zz]
  refine tqZ 15 (.pointer (some ⟨q,0,none⟩)) [19,18,17,16] hA (fun w5 q1=>?_) ?_
  ·have cc:=Zf (kb q1 a3.o)
   go_simp
  simp only[zz]
  refine tpZ 1 (.pointer (some ⟨q,0,none⟩)) hA ?_
  simp only[zz]
  refine tpZ 5 (.pointer (some ⟨q,0,none⟩)) hA ?_
  simp only[zz]
  refine tpZ 11 (.pointer (some ⟨q,0,none⟩)) hA ?_
  simp only[zz]
  refine tpZ 16 (.pointer (some ⟨q,0,none⟩)) hA ?_
  simp only[zz]
  refine tpZ 2 (.pointer (some ⟨q,0,none⟩)) hA ?_
  simp only[zz]
  refine tpZ 6 (.pointer (some ⟨q,4,none⟩)) hA ?_
  simp only[zz]
  refine tpZ 12 (.pointer (some ⟨q,0,none⟩)) hA ?_
  simp only[zz]
  refine tpZ 13 (.pointer (some ⟨q,2,none⟩)) hA ?_
  simp only[zz]
  refine tpZ 17 (.pointer (some ⟨q,6,none⟩)) hA ?_
  simp only[zz]
  refine tqZ 3 (X.h.val) [] hA (fun w5 q1=>?_) ?_
  ·refine Zv rfl rfl [.int .i64 X.h.turn,.int .i64 X.h.area,.int .i64 X.h.place,.int .i64 X.h.number] (fun j v hj=>?_) Tryz.underlying184 rfl b5
   have hm:=kb q1 HM.o
   match j,hj with
   | 0,hj=>simp at hj;subst hj;simp[World.cell?,hm,Lg.cells]
   | 1,hj=>simp at hj;subst hj;simp[World.cell?,hm,Lg.cells]
   | 2,hj=>simp at hj;subst hj;simp[World.cell?,hm,Lg.cells]
   | 3,hj=>simp at hj;subst hj;simp[World.cell?,hm,Lg.cells]
   |j+4,hj=>simp at hj
  simp only[zz]
  refine tqZ 7 (.pointer (some ⟨p,0,none⟩)) [] hA (fun w5 q1=>?_) ?_
  ·have cc:w5.cell? ⟨q,4,none⟩=some (.pointer (some ⟨p,0,none⟩)):=by simp[World.cell?,kb q1 HM.o,Lg.cells]
   go_simp
  simp only[zz]
  refine tqZ 14 (.int .i64 X.h.place) [19] hA (fun w5 q1=>?_) ?_
  ·have cc:w5.cell? ⟨q,2,none⟩=some (.int .i64 X.h.place):=by simp[World.cell?,kb q1 HM.o,Lg.cells]
   go_simp
  simp only[zz]
  refine tqZ 18 (.int .i64 X.used) [19] hA (fun w5 q1=>?_) ?_
  ·have cc:w5.cell? ⟨q,6,none⟩=some (.int .i64 X.used):=by simp[World.cell?,kb q1 HM.o,Lg.cells]
   go_simp
  simp only[zz]
  refine tpZ 19 (.int .i64 (X.h.place+X.used)) hA ?_
  simp only[zz]
  refine tpZ 20 (.slice sa b.length sc) hA ?_
  simp only[zz]
  refine diZ 9 (fun K HKK=>?_)
  go_step
  refine(Zdd _ ((c3.o.kept b6.o n3Z).kept hA n3Z) hok).mono ?_
  rintro e W5 ⟨rfl,i0⟩
  have b8:U0 w2 W5:=hA.trans i0
  clear hA i0
  have hA:=b8
  clear b8
  simp only[]
  refine HKK.o _ _ hA ?_
  clear HKK
  simp only[zz]
  refine tlZ 21 ?_
  simp only[List.drop]
  have a7:=V (b6.o.trans hA);have f4:=V (kb hA a3.o)
  clear hA b6 a3 HM
  go_wp2_with (go_at_call 110;fail)
  refine(Zg4 W5 (HD.o.kept a7.o n3Z) d8.o hK HB.o i3 (by omega) (by omega) (by omega) (by omega) (h3.o.kept a7.o) (fun hne a n c e=>(f0.o hne a n c e).1)).mono ?_
  rintro e W6 ⟨rfl,hl⟩
  obtain⟨sl,e3⟩: ∃sl,sl=raw (partSc X.h (X.h.number+X.parts.length) (X.h.place+X.used) false b hb):=⟨_,rfl⟩
  obtain⟨E,hE⟩: ∃E,E=D.laysE sl:=⟨_,rfl⟩
  rw[←e3] at hl ⊢
  rw[←hE]
  obtain⟨F',d1,d2,d3⟩:=hl
  have j2:=a7.o.size
  have a4:Log W6 q p X G:=(c3.o.kept a7.o n3Z).kept d3 (fun k hk=>f2.o k hk)
  have e8:=(d3.block _ (Za f4.o) (fun e=>by have:=j0.o _ e;omega)).trans f4.o
  have h8: ¬F' q:=fun e=>by
   rcases d2 q e with e2 | e2
   ·exact f2.o q c8.o e2
   ·have:=c5.o q c8.o;omega
  have b0:=V a4;have e0:=V e8;have h0:=V h8;have g6:=V d1;have d5:=V d2;have d4:RowKit.Hid (Upd F w W6):=V ((a7.o.mono (fun _ _ e=>e.elim)).trans d3);have i1:=V e3;have HE:=V hE
  obtain⟨j8,e6⟩:=a4.main'
  have c7:W6.cell? ⟨q,7,none⟩=some (.bool X.broken):=by simp[World.cell?,e6,Lg.cells]
  have f7:W6.frozen? ⟨q,7,none⟩=false:=Zb e6
  have i7:=Zf e8
  clear a4 e8 h8 d1 d2 d3 e3 hE e6 a7 f4
  simp only[]
  go_upto_region 6 with fail
  obtain⟨W7,c9⟩: ∃W7,W7=W6.setCell ⟨q,7,none⟩ (.bool (E !=0)):=⟨_,rfl⟩
  rw[←c9]
  have e7:Log W7 q p (X.brk (E !=0)) G:=by rw[c9];exact b0.o.setBroken _
  have a0:Upd (fun k=>k=q) W6 W7:=by rw[c9];exact Zd _ _ _ _
  have g3:Dsk W7 p (D.lays sl) F':=g6.o.kept a0 (fun k hk e=>h0.o (e ▸ hk))
  have i9:w.heap.size≠q:=fun e=>by have:=c5.o q c8.o;omega
  have f6:=(a0.block _ (Za e0.o) i9).trans e0.o
  have g7:Upd (fun k=>G k∨F k) w W7:=(d4.o.mono (fun _ _ e=>.inr e)).trans (a0.mono (fun k _ e=>.inl (e ▸ c8.o)))
  have a8:BytesIn W7 (.slice sa b.length sc) b:=(h3.o.keptF d4.o (fun hne a n c e=>(f0.o hne a n c e).1)).keptF a0 (fun hne a n c e=>(f0.o hne a n c e).2)
  obtain⟨k0,g4⟩:=e7.main'
  have d9:W7.cell? ⟨q,7,none⟩=some (.bool (E !=0)):=by simp[World.cell?,g4,Lg.cells,Lg.brk]
  have i6:=Zf f6
  have b1: ∀k,G k→ ¬F' k:=fun k hk e=>by
   rcases d5.o k e with e2 | e2
   ·exact f2.o k hk e2
   ·have:=c5.o k hk;omega
  have h4: ∀k,F' k→F k∨w.heap.size≤k:=fun k hk=>(d5.o k hk).imp id (fun e=>by omega)
  have c2:=V e7;have e9:=V g3;have j1:=V f6;have d7:=V g7;have f5:=V a8;have a5:=V b1;have a9:=V h4
  clear e7 a0 g3 f6 g7 a8 g4 b1 h4 c9 c7 f7 i7 b0 e0 h0 g6 d5 d4
  by_cases b3:E≠0
  ·
   have i5:(E !=0)=true:=by simpa using b3
   rw[i5] at d9 c2
   go_wp2
   go_ret
   have he:=HE.o
   have a2:=i1.o
   subst a2
   refine⟨by rw[←he];rfl,G,F',⟨?_,e9.o,a5.o⟩,fun k hk=>.inl hk,a9.o,d7.o⟩
   rw[←he,Lg.after,if_neg b3]
   exact c2.o
  ·
   have b3:E=0:=Decidable.not_not.1 b3
   subst b3
   have hz:((0:Int) !=0)=false:=rfl
   rw[hz] at d9 c2
   have b4:X.brk false=X:=by
    have:=j6.o
    cases X
    simp only[Lg.brk] at *
    rw[this]
   rw[b4] at c2
   clear b4
   go_upto_region 7 with fail
   clear d9 i6
   have hA:U0 W7 W7.drew:=(Upd.refl _ W7).drew
   refine Zj 3 (fun W=>U0 W7 W) [false,false,false,false] rfl (by kernel_rfl) ?_
   refine tqZ 0 (.pointer (some ⟨q,0,none⟩)) [] hA (fun w5 q1=>?_) ?_
   ·have cc:=Zf (kb q1 j1.o)
    go_simp
   simp only[zz]
   refine tpZ 1 (.slice sa b.length sc) hA ?_
   simp only[zz]
   refine diZ 2 (fun K HKK=>?_)
   go_step
   refine(Y4 _ (by omega) (f5.o.kept hA)).mono ?_
   rintro e W8 ⟨u8,rfl,g0,_,h7⟩
   have c4:=V (g0.mono hA.size)
   have b8:U0 W7 W8:=hA.trans h7
   clear hA h7 g0
   have hA:=b8
   clear b8
   simp only[]
   refine HKK.o _ _ hA ?_
   clear HKK
   simp only[zz]
   refine tlZ 3 ?_
   simp only[List.drop]
   have c1:=V hA
   clear hA
   go_wp2_with (go_at_call 117;fail)
   have f9:=d7.o.size
   refine(Zhd W8 (c2.o.kept c1.o n3Z) hok hlen c4.o (fun k hk e=>by have h1:=(World.ownsRow.lt c4.o k hk).1;have h2:=c5.o k e;omega) i3).mono ?_
   rintro e W9 ⟨rfl,⟨G9,g1,g2⟩,f8⟩
   have a1: ∀k,u8.ownBlock=some k→w.heap.size≤k:=fun k hk=>by have h1:=(World.ownsRow.lt c4.o k hk).1;omega
   have h5: ∀k,G9 k→G k∨w.heap.size≤k:=fun k hk=>by
    rcases g2 k hk with e1 | e1 | e1
    ·exact .inl e1
    ·exact .inr (a1 k e1)
    ·exact .inr (by have:=c1.o.size;omega)
   have e5: ∀k,F' k→k<W7.heap.size:=e9.o.lt
   have c0: ∀k,G9 k→ ¬F' k:=fun k hk e=>by
    rcases g2 k hk with e1 | e1 | e1
    ·exact a5.o k e1 e
    ·have h1:=(World.ownsRow.lt c4.o k e1).1;have:=e5 k e;omega
    ·have:=e5 k e;have:=c1.o.size;omega
   have g9:Dsk W9 p (D.lays sl) F':=(e9.o.kept c1.o n3Z).kept f8 (fun k hk e=>a5.o k e hk)
   have j4:=V g9;have j3:=V h5;have f3:=V c0;have i8:=V g1
   have j5:RowKit.Hid (Upd (fun k=>G k∨F k) w W9):=V ((d7.o.trans (c1.o.mono (fun _ _ e=>e.elim))).trans (f8.mono (fun k _ e=>.inl e)))
   clear g1 g2 f8 a1 h5 e5 c0 g9 f9
   simp only[]
   go_wp2
   go_ret
   have he:=HE.o
   have a2:=i1.o
   subst a2
   refine⟨by rw[←he];rfl,G9,F',⟨?_,j4.o,f3.o⟩,j3.o,a9.o,j5.o⟩
   rw[←he,Lg.after,if_pos rfl]
   exact i8.o
end
end Go.Proofs.YtbimkhdiplnbfaaGreat
