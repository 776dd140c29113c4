/- Walks. -/
import Derived.Test.YtbimkhdiplnbfaaGreatU24
set_option linter.unusedVariables false
set_option linter.unusedSimpArgs false
namespace Go.Proofs.YtbimkhdiplnbfaaGreat
set_option maxRecDepth 1000000
set_option maxHeartbeats 16000000
variable {D:Dk} {τ:Int} {X:Lg} {a b:List Int} {B K N k p q:Nat} {F G:Nat→Prop} {t:TypeId} {W w:World}
section
open Go.RowKit Go.Shelf
def Zar (hd:Hd)(ps:List (List Int))(D:Dk):Option Lg×Int×Dk:=
 if D.laysE [hd.laid]=0 then(some ⟨hd,ps,Zx ps,false⟩,0,D.lays [hd.laid]) else(none,D.laysE [hd.laid],D.lays [hd.laid])
def Zaq (hd:Hd)(R:List (List Int)×Int×Dk):Option Lg×Int×Dk:=
 if R.2.1=0 then(if R.1=[]∨hd.turn=1073741824 then(none,140,R.2.2) else Zar {hd with turn:=hd.turn+1} R.1 R.2.2) else(none,R.2.1,R.2.2)
noncomputable def Za7 (c:Hd×Bool)(D:Dk):Option Lg×Int×Dk:=
 if c.2=false∨(D.arr.length:Int)<2+2 * c.1.area then(none,140,D) else Zaq c.1 (Ys c.1 1001 [] 0 D)
noncomputable def openD (D:Dk):Option Lg×Int×Dk:=
 if D.callE 0 false=0 then
  if(D.callD 0 false).callE 1 false=0 then Za7 (Yx (D.reads 0) ((D.callD 0 false).reads 1)) ((D.callD 0 false).callD 1 false)
  else(none,(D.callD 0 false).callE 1 false,(D.callD 0 false).callD 1 false)
 else(none,D.callE 0 false,D.callD 0 false)
def OpenAns (w:World)(p:Nat)(F:Nat→Prop)(R:Option Lg×Int×Dk)(N:Nat)(e:Ending)(w':World):Prop:=
 ∃F',Dsk w' p R.2.2 F'∧(∀k,F' k→F k∨w.heap.size≤k)∧Upd F w w'∧R.2.2.Ok (N+1002000)∧match R.1 with
 |none=>e=.returned (.tuple #[.pointer none,.int .i64 R.2.1])
 |some X=> ∃q G',e=.returned (.tuple #[.pointer (some ⟨q,0,none⟩),.int .i64 0])∧Log w' q p X G'∧(∀k,G' k→w.heap.size≤k)∧(∀k,G' k→ ¬F' k)∧X.Ok
theorem Zha {b o:Nat}{old vs:List Value}(h:w.heap[b]?=some (.cells old.toArray t (0,0)))(hs:o+vs.length≤old.length):
  (w.setCells b o vs).heap[b]?=some (.cells (old.take o++vs++old.drop (o+vs.length)).toArray t (0,0)):=by
 rw[Zbm b t vs o w old.toArray h]
 have:=Zan vs 0 o old.toArray (by simpa using hs)
 congr 2
 apply Array.toList_inj.1
 rw[this]
 simp
theorem Zo4 {b o m:Nat}{cs:Array Value}(h:w.heap[b]?=some (.cells cs t (0,0)))(hs:o+m≤cs.size):w.there b o m:=fun j hj=>
 ⟨by rw[Zr h];simp;omega,Zb h⟩
theorem Zgg {b o:Nat}{cs ds:List Value}(h:w.heap[b]?=some (.cells cs.toArray t (0,0)))(hs:(cs.drop o).take ds.length=ds):w.rangeAt b o ds:=fun j v hj=>by
 rw[Zr h,List.getElem?_toArray]
 have hjl:=(List.getElem?_eq_some_iff.1 hj).1
 rw[←hs,List.getElem?_take_of_lt hjl,List.getElem?_drop] at hj
 exact hj
structure HdsAt (w:World) (p:Nat) (F:Nat→Prop) (a b:List Int) (D:Dk) (W:World):Prop where
 dsk:Dsk W p D F
 upd:Upd F w W
 two:W.heap[w.heap.size]?=some (.cells (bcells a++bcells b).toArray 209 (0,0))
 la:okBlk a
 lb:okBlk b
theorem HdsAt.kept {W':World}(h:HdsAt w p F a b D W)(hu:Upd G W W')(hG: ∀k,G k→w.heap.size<k)(hF: ∀k,F k→k<w.heap.size):HdsAt w p F a b D W':=
 ⟨h.dsk.kept hu (fun k h1 h2=>by have:=hG k h2;have:=hF k h1;omega),h.upd.step hu (fun k h1 h2=>by have:=hG k h2;omega),(hu.block _ (Za h.two) (fun e=>by have:=hG _ e;omega)).trans h.two,h.la,h.lb⟩
theorem HdsAt.read {W':World}{D':Dk}(h:HdsAt w p F a b D W)(hd':Dsk W' p D' F)(hu:Upd F W W')(hF: ∀k,F k→k<w.heap.size):HdsAt w p F a b D' W':=
 ⟨hd',h.upd.step hu (fun k _ h2=>h2),(hu.block _ (Za h.two) (fun e=>by have:=hF _ e;omega)).trans h.two,h.la,h.lb⟩
def hdA (D:Dk)(k:Nat):List Int:=if k=0 then zblk else D.reads 0
def hdB (D:Dk)(k:Nat):List Int:=if k≤1 then zblk else(D.callD 0 false).reads 1
def hdD (D:Dk)(k:Nat):Dk:=if k=0 then D else if k=1 then D.callD 0 false else(D.callD 0 false).callD 1 false
theorem HdsAt.store {s:List Int}(h:HdsAt w p F (hdA D k) (hdB D k) (hdD D (k+1)) W)(hk:k<2)(hs:s=(hdD D k).reads (k:Int))(hl:okBlk s)(hF: ∀k,F k→k<w.heap.size):
  HdsAt w p F (hdA D (k+1)) (hdB D (k+1)) (hdD D (k+1)) (W.setCells w.heap.size (k * 64) (bcells s)):=by
 have hu:Upd (fun j=>j=w.heap.size) W (W.setCells w.heap.size (k * 64) (bcells s)):=Upd.setCells (F:=fun j=>j=w.heap.size) rfl _ _ (Upd.refl _ W)
 have la:=h.la.1;have lb:=h.lb.1
 have a0:=hl.1
 have h2:=Zha (o:=k * 64) (vs:=bcells s) h.two (by simp[bcells,la,lb,a0];omega)
 have hd:=h.dsk.kept hu (fun j h1 h2=>by have:=hF j h1;omega)
 have a1:Upd F w (W.setCells w.heap.size (k * 64) (bcells s)):=h.upd.step hu (fun j h1 h2=>by omega)
 have a2:k=0∨k=1:=by omega
 rcases a2 with rfl | rfl
 ·refine⟨hd,a1,?_,by subst hs;exact hl,h.lb⟩
  rw[h2]
  have e1:(bcells (hdA D 0)++bcells (hdB D 0)).drop (0 * 64+(bcells s).length)=bcells (hdB D 0):=by
   rw[Nat.zero_mul,Nat.zero_add]
   exact List.drop_left' (by rw[Z3,Z3,la,a0])
  rw[e1,hs]
  simp[hdA,hdB,hdD]
 ·refine⟨hd,a1,?_,h.la,by subst hs;exact hl⟩
  rw[h2]
  have e1:(bcells (hdA D 1)++bcells (hdB D 1)).drop (1 * 64+(bcells s).length)=[]:=by
   apply List.drop_eq_nil_of_le
   simp[bcells,la,lb,a0]
  have e2:(bcells (hdA D 1)++bcells (hdB D 1)).take (1 * 64)=bcells (hdA D 1):=List.take_left' (by rw[Z3,la])
  rw[e1,e2,hs]
  simp[hdA,hdB,hdD]
theorem Zh0 (h:D.Ok N)(k:Nat):(hdD D k).Ok (N+2):=by
 unfold hdD
 split
 ·exact Dk.Ok.mono h (by omega)
 ·split
  ·exact Dk.Ok.mono (h.callD _ _) (by omega)
  ·exact Dk.Ok.mono ((h.callD _ _).callD _ _) (by omega)
theorem Zrt (hk:k<2):(hdD D k).callD (k:Int) false=hdD D (k+1):=by
 have a0:k=0∨k=1:=by omega
 rcases a0 with rfl | rfl<;> rfl
theorem Zmf (hk:k<2)(h0:k=1→D.callE 0 false=0)(he:(hdD D k).callE (k:Int) false≠0):openD D=(none,(hdD D k).callE (k:Int) false,hdD D (k+1)):=by
 have a0:k=0∨k=1:=by omega
 rcases a0 with rfl | rfl
 ·unfold openD
  rw[if_neg (by exact he)]
  rfl
 ·unfold openD
  rw[if_pos (h0 rfl),if_neg (by exact he)]
  rfl
theorem Log.begin {hd:Hd}(hq:w.heap[q]?=some (.cells #[.int .i64 hd.turn,.int .i64 hd.area,.int .i64 hd.place,.int .i64 hd.number,.pointer (some ⟨p,0,none⟩),.slice none 0 0,.int .i64 0,.bool false] 193 (0,0))):Log w q p ⟨hd,[],0,false⟩ (fun k=>k=q):=by
 refine⟨.slice none 0 0,[],⟨hq,World.ownsRow_nil _ _ _ _,fun i v b hv=>by simp at hv,fun k hk=>by simp[Value.ownBlock] at hk,fun v k hv=>by simp at hv⟩,fun k=>?_⟩
 simp[Gp,Value.ownBlock]
theorem Log.turned (h:Log w q p X G)(t:Int):Log (w.setCell ⟨q,0,none⟩ (.int .i64 t)) q p {X with h:={X.h with turn:=t}} G:=by
 obtain⟨PV,vs,h1,h2⟩:=h
 have hu:=Zd w q 0 (.int .i64 t)
 refine⟨PV,vs,⟨?_,Zy h1.row hu (fun k hk e=>h1.nq k hk e),fun i v b hv hb=>(h1.parts i v b hv hb).keptF hu (fun k hk e=>(h1.nv v k (List.mem_of_getElem? hv) hk).1 e),h1.nq,h1.nv⟩,h2⟩
 have:=Ze (i:=0) (v:=.int .i64 t) h1.main
 simpa [Lg.cells] using this
theorem Zlo (ha:Bytes a)(hb:Bytes b)(h:(Yx a b).2=true):(Yx a b).1.Says∧0≤(Yx a b).1.place:=by
 have hp: ∀s,Bytes s→0≤(readF s).place:=fun s hs=>Zju (fun x hx=>hs x (List.mem_of_mem_drop hx))
 unfold Yx at h ⊢
 split at h
 ·rename_i h1
  rw[if_pos h1]
  exact⟨((Zci a).1 h1.1).1,hp a ha⟩
 ·rename_i h1
  rw[if_neg h1]
  exact⟨((Zci b).1 h).1,hp b hb⟩
theorem Zg5 (w:World)(hD:Dsk w p D F)(hdok:D.Ok N)(hN:N≤1099500000000):
  Calls Tryz.prog 61 #[.pointer (some ⟨p,0,none⟩)] w fun e w'=>OpenAns w p F (openD D) N e w':=by
 have m6:=hD.lt
 obtain⟨R,hR⟩: ∃R,R=openD D:=⟨_,rfl⟩
 rw[←hR]
 have j1:U0 w (w.alloc (.cells (bcells zblk++bcells zblk).toArray 209)):=(Upd.refl _ w).alloc _
 have a1:HdsAt w p F (hdA D 0) (hdB D 0) (hdD D 0) (w.alloc (.cells (bcells zblk++bcells zblk).toArray 209)):=⟨hD.kept j1 n3Z,j1.mono (fun _ _ e=>e.elim),Zc rfl,Zbo,Zbo⟩
 obtain⟨w1,h7⟩: ∃w1,w1=w.alloc (.cells (bcells zblk++bcells zblk).toArray 209):=⟨_,rfl⟩
 rw[←h7] at a1
 have l1:=V a1;have e4:=V hdok;have b1:=V m6;have HR:=V hR
 clear hD hdok m6 hR j1 a1
 go_enter Tryz.func61,Tryz.ntmps61
 go_upto_region 2 with fail
 refine(?_:Code.wp _ _ _ _ (w.alloc (.cells (bcells zblk++bcells zblk).toArray 209)))
 rw[←h7]
 clear h7
 go_upto_region 3 with fail
 go_loopg [13] 2 (fun gk i wr=> ∃k:Nat,k≤2∧gk=2 - k∧i=.int .i64 k∧(1≤k→D.callE 0 false=0)∧(2≤k→(D.callD 0 false).callE 1 false=0)∧HdsAt w p F (hdA D k) (hdB D k) (hdD D k) wr)
 case atStart=>exact⟨0,by omega,rfl,rfl,fun e=>by omega,fun e=>by omega,l1.o⟩
 case round=>
  obtain⟨k,hk,rfl,rfl,a2,l2,a1⟩:=hrel
  obtain⟨wo,rfl⟩: ∃wo,wo=wr:=⟨_,rfl⟩
  have HA:=V a1;have d8:=V a2;have j0:=V l2
  clear a1 a2 l2 l1
  by_cases i3:k<2
  ·have o3:(k:Int)<2:=by omega
   go_wp2_with (go_at_call 17;fail)
   refine(Zg3 (k:Int) wo HA.o.dsk (Dk.Ok.mono (Zh0 e4.o k) (by omega))).mono ?_
   rintro e w3 ⟨rfl,h5,m8⟩
   rw[Zrt i3] at h5
   have c8:=HA.o.read h5 m8 b1.o
   have e5:=Zdp (Dk.Ok.mono (Zh0 e4.o k) (show N+2≤1099511627774 by omega)) (k:Int)
   have a9:=Zmf (D:=D) i3 (fun e=>d8.o (by omega))
   obtain⟨s,hs⟩: ∃s,s=(hdD D k).reads (k:Int):=⟨_,rfl⟩
   obtain⟨E,hE⟩: ∃E,E=(hdD D k).callE (k:Int) false:=⟨_,rfl⟩
   rw[←hs] at e5 ⊢
   rw[←hE] at a9 ⊢
   obtain⟨f1,f2,f3⟩:=Zip w3 s e5.1
   have d7:RowKit.Hid ((Tryz.prog.info? 48).map (·.size)=some (bcells s).length):=V (by rw[Tryz.info56p];simp[bcells,e5.1])
   have i7:=V (all_oneCell_toArray (Z6 s))
   have F1:=V f1;have g4:=V f2;have n5:=V e5;have c4:=V a9;have HE:=V hE;have HS:=V hs
   have c6:=V (c8.kept f3 (fun _ e=>e.elim) b1.o)
   have o8:RowKit.Hid (w.heap.size<w3.heap.size):=V (Za c8.two)
   clear f1 f2 f3 e5 m8 h5 c8 a9 hE hs HA
   simp only[]
   iterate 13 go_step
   refine(?_:wpList _ _ _ _ _ (w3.alloc (.cells (bcells zblk).toArray 48)))
   refine wpList_store_mid rfl 48 (.tmp 6) (.tmp 20) rfl w3.heap.size 0 (bcells s).toArray rfl rfl F1.out (by rw[d7.o];simp) i7.o ?_
   obtain⟨w4,g9⟩: ∃w4,w4=(w3.alloc (.cells (bcells zblk).toArray 48)).setCells w3.heap.size 0 (bcells s):=⟨_,rfl⟩
   rw[←g9] at c6 g4
   rw[show(bcells s).toArray.toList=bcells s from rfl,←g9]
   clear g9 F1
   obtain⟨gs,m1⟩: ∃gs,gs=w3.heap.size:=⟨_,rfl⟩
   rw[←m1] at g4 o8 ⊢
   clear m1
   by_cases a2:E=0
   rotate_left
   ·have g0:(E !=0)=true:=by simpa using a2
    have b5:=V (c4.o a2)
    clear a2
    go_wp2
    go_returns
    rw[HR.o,b5.o]
    exact⟨F,c6.o.dsk,fun k hk=>.inl hk,c6.o.upd,Dk.Ok.mono (Zh0 e4.o (k+1)) (by omega),rfl⟩
   ·subst a2
    go_upto_region 8 with fail
    have g5:=V (c6.o.store i3 HS.o n5.o b1.o)
    have n7:=V (Zo4 (o:=k * 64) (m:=(bcells s).toArray.size) c6.o.two (by have h1:=c6.o.la.1;have h2:=c6.o.lb.1;have h3:=n5.o.1;simp[bcells,h1,h2,h3];omega))
    have e1:RowKit.Hid (1≤k+1→D.callE 0 false=0):=V (fun _=>by
     by_cases e:k=0
     ·have:=HE.o;rw[e] at this;exact this.symm
     ·exact d8.o (by omega))
    have f4:RowKit.Hid (2≤k+1→(D.callD 0 false).callE 1 false=0):=V (fun e2=>by
     have e:k=1:=by omega
     have:=HE.o;rw[e] at this;exact this.symm)
    have e8:k=0∨k=1:=by omega
    clear d8 j0 HE HS c4
    rcases e8 with rfl | rfl
    ·iterate 4 go_step
     refine wpList_load_mid rfl 48 (.tmp 6) rfl gs 0 rfl (bcells s) _ (Zh g4.o) Tryz.underlying48 rfl d7.o ?_
     iterate 3 go_step
     refine wpList_store_mid rfl 48 (.tmp 27) (.tmp 26) rfl w.heap.size 0 (bcells s).toArray rfl rfl n7.o (by rw[d7.o];simp) i7.o ?_
     obtain⟨w5,c7⟩: ∃w5,w5=w4.setCells w.heap.size (0 * 64) (bcells s):=⟨_,rfl⟩
     rw[←c7] at g5
     refine(?_:wpList _ _ _ _ _ (w4.setCells w.heap.size (0 * 64) (bcells s)))
     rw[←c7]
     clear c7
     go_wp2
     go_roundg (2 - (0+1))
     case measure=>omega
     case rel=>exact⟨0+1,by omega,rfl,rfl,e1.o,f4.o,g5.o⟩
    ·iterate 4 go_step
     refine wpList_load_mid rfl 48 (.tmp 6) rfl gs 0 rfl (bcells s) _ (Zh g4.o) Tryz.underlying48 rfl d7.o ?_
     iterate 3 go_step
     refine wpList_store_mid rfl 48 (.tmp 27) (.tmp 26) rfl w.heap.size 64 (bcells s).toArray rfl rfl n7.o (by rw[d7.o];simp) i7.o ?_
     obtain⟨w5,c7⟩: ∃w5,w5=w4.setCells w.heap.size (1 * 64) (bcells s):=⟨_,rfl⟩
     rw[←c7] at g5
     refine(?_:wpList _ _ _ _ _ (w4.setCells w.heap.size (1 * 64) (bcells s)))
     rw[←c7]
     clear c7
     go_wp2
     go_roundg (2 - (1+1))
     case measure=>omega
     case rel=>exact⟨1+1,by omega,rfl,rfl,e1.o,f4.o,g5.o⟩
  ·obtain rfl:k=2:=by omega
   have e9:R=Za7 (Yx (D.reads 0) ((D.callD 0 false).reads 1)) (hdD D 2):=by
    rw[HR.o];unfold openD
    rw[if_pos (d8.o (by omega)),if_pos (j0.o (by omega))]
    rfl
   have k2:hdA D 2=D.reads 0:=rfl
   have l7:hdB D 2=(D.callD 0 false).reads 1:=rfl
   have i0:=Zh0 e4.o 2
   have a1:=HA.o
   rw[k2,l7] at a1
   obtain⟨a,ha⟩: ∃a,a=D.reads 0:=⟨_,rfl⟩
   obtain⟨b,hb⟩: ∃b,b=(D.callD 0 false).reads 1:=⟨_,rfl⟩
   obtain⟨D2,f8⟩: ∃D2,D2=hdD D 2:=⟨_,rfl⟩
   rw[←ha,←hb,←f8] at e9
   rw[←ha,←hb,←f8] at a1
   rw[←f8] at i0
   have g6:=a1.la.1;have j6:=a1.lb.1
   have j8:=Zgg (o:=0) (ds:=bcells a) a1.two (by rw[List.drop_zero];exact List.take_left' rfl)
   have n6:=Zgg (o:=64) (ds:=bcells b) a1.two (by rw[List.drop_left' (by rw[Z3,g6])];exact List.take_of_length_le (Nat.le_refl _))
   have m3:RowKit.Hid ((Tryz.prog.info? 48).map (·.size)=some (bcells a).length):=V (by rw[Tryz.info56p];simp[bcells,g6])
   have k9:RowKit.Hid ((Tryz.prog.info? 48).map (·.size)=some (bcells b).length):=V (by rw[Tryz.info56p];simp[bcells,j6])
   have f7:=Zok wo g6 j6 a1.la.2 a1.lb.2
   have g1:=Zlo a1.la.2 a1.lb.2
   obtain⟨cf,b0⟩: ∃cf,cf=Yx a b:=⟨_,rfl⟩
   rw[←b0] at f7 g1 e9
   obtain⟨hh,p2⟩:=cf
   simp only at f7 g1 e9
   have o0:=V j8;have j9:=V n6;have l3:=V f7;have o1:=V g1;have f9:=V e9;have g2:=V i0;have m2:=V a1
   clear e9 k2 l7 i0 a1 ha hb f8 g6 j6 j8 n6 f7 g1 b0 d8 j0 HA e4
   go_upto_region 10 with fail
   iterate 4 go_step
   refine wpList_load_mid rfl 48 (.tmp 30) rfl w.heap.size 0 rfl (bcells a) _ o0.o Tryz.underlying48 rfl m3.o ?_
   iterate 3 go_step
   refine wpList_load_mid rfl 48 (.tmp 32) rfl w.heap.size 64 rfl (bcells b) _ j9.o Tryz.underlying48 rfl k9.o ?_
   go_wp2_with (go_at_call 130;fail)
   refine l3.o.mono ?_
   rintro e w6 ⟨rfl,n2⟩
   have j4:=V (m2.o.kept n2 (fun _ e=>e.elim) b1.o)
   clear n2 l3 o0 j9 m3 k9 m2
   simp only[Hd.val]
   go_upto_region 11 with fail
   obtain⟨bh,g7⟩: ∃bh,bh=w6.heap.size:=⟨_,rfl⟩
   obtain⟨w7,g8⟩: ∃w7,w7=w6.alloc (.cells #[.int .i64 hh.turn,.int .i64 hh.area,.int .i64 hh.place,.int .i64 hh.number] 184):=⟨_,rfl⟩
   have i8:RowKit.Hid (w7.heap[bh]?=some (.cells #[.int .i64 hh.turn,.int .i64 hh.area,.int .i64 hh.place,.int .i64 hh.number] 184 (0,0))):=V (by rw[g8,g7];exact Zc rfl)
   have p6:RowKit.Hid (w.heap.size<bh):=V (by rw[g7];exact Za j4.o.two)
   have f5:RowKit.Hid (HdsAt w p F a b D2 w7):=V (by rw[g8];exact j4.o.kept ((Upd.refl (fun _=>False) w6).alloc _) (fun _ e=>e.elim) b1.o)
   rw[←g7,←g8]
   have m9:=V f5.o.dsk
   clear g7 g8 j4
   cases p2 with
   |false=>
    have b5:RowKit.Hid (R=(none,140,D2)):=V (by rw[f9.o];unfold Za7;rw[if_pos (.inl rfl)])
    go_quiet (fail)
    go_wp2
    go_returns
    rw[b5.o]
    have f6: ∀n,U0 w7 (w7.drewN n):=fun n=>⟨rfl,rfl,rfl,Nat.le_refl _,fun _ _ _=>rfl⟩
    exact⟨F,f5.o.dsk.kept (f6 _) n3Z,fun k hk=>.inl hk,f5.o.upd.trans ((f6 _).mono (fun _ _ e=>e.elim)),Dk.Ok.mono g2.o (by omega),rfl⟩
   |true=>
    obtain⟨a0,p7⟩:=o1.o rfl
    have o2:=a0.area;have p3:=a0.number;have p8:=a0.turn;have o9:=a0.place
    have hA:U0 w7 w7.drew:=(Upd.refl _ w7).drew
    have i5:IntKind.i64.wrap (2 * hh.area)=2 * hh.area:=by rw[IntKind.wrap_i64];omega
    have o6:IntKind.i64.wrap (2+2 * hh.area)=2+2 * hh.area:=by rw[IntKind.wrap_i64];omega
    have m7:=V a0
    clear a0 o1
    refine Zj 10 (fun W=>U0 w7 W) [false,false,false,false,false,false,false,false,false,false,false] rfl (by kernel_rfl) ?_
    refine tpZ 0 (.bool true) hA ?_
    simp only[zz]
    refine tpZ 1 (.bool false) hA ?_
    simp only[zz]
    refine tpZ 2 (.bool false) hA ?_
    simp only[zz]
    refine tpZ 3 (.pointer (some ⟨p,0,none⟩)) hA ?_
    simp only[zz]
    refine tpZ 5 (.pointer (some ⟨bh,1,none⟩)) hA ?_
    simp only[zz]
    refine tqZ 6 (.int .i64 hh.area) [9,8,7] hA (fun w5 q1=>?_) ?_
    ·have cc:w5.cell? ⟨bh,1,none⟩=some (.int .i64 hh.area):=by simp[World.cell?,kb q1 i8.o]
     go_simp
    simp only[zz]
    refine tpZ 7 (.int .i64 (2 * hh.area)) hA ?_
    simp only[zz]
    refine tpZ 8 (.int .i64 (2+2 * hh.area)) hA ?_
    simp only[zz]
    refine diZ 4 (fun K HKK=>?_)
    go_step
    refine(Zin _ (m9.o.kept hA n3Z)).mono ?_
    rintro e w8 ⟨rfl,rfl⟩
    simp only[]
    refine HKK.o _ _ hA ?_
    clear HKK
    simp only[zz]
    refine tpZ 9 (.bool (decide ((D2.arr.length:Int)<2+2 * hh.area))) hA ?_
    simp only[zz]
    refine tlZ 10 ?_
    simp only[List.drop]
    clear i5 o6
    have b6:=V (f5.o.kept hA (fun _ e=>e.elim) b1.o)
    have a3:=V (kb hA i8.o)
    clear hA f5 i8 m9
    obtain⟨w8,m4⟩: ∃w8,w8=w7.drew:=⟨_,rfl⟩
    rw[←m4] at b6 a3 ⊢
    clear m4
    by_cases h6:(D2.arr.length:Int)<2+2 * hh.area
    ·have hq:decide ((D2.arr.length:Int)<2+2 * hh.area)=true:=by simpa using h6
     have b5:RowKit.Hid (R=(none,140,D2)):=V (by rw[f9.o];unfold Za7;rw[if_pos (.inr h6)])
     go_wp2
     go_returns
     rw[b5.o]
     exact⟨F,b6.o.dsk,fun k hk=>.inl hk,b6.o.upd,Dk.Ok.mono g2.o (by omega),rfl⟩
    ·have hq:decide ((D2.arr.length:Int)<2+2 * hh.area)=false:=by simpa using h6
     have b5:RowKit.Hid (R=Zaq hh (Ys hh 1001 [] 0 D2)):=V (by rw[f9.o];unfold Za7;rw[if_neg (by simp;omega)])
     have c0:w8.cell? ⟨bh,0,none⟩=some (.int .i64 hh.turn):=by simp[World.cell?,a3.o]
     have c1:w8.cell? ⟨bh,1,none⟩=some (.int .i64 hh.area):=by simp[World.cell?,a3.o]
     have c2:w8.cell? ⟨bh,2,none⟩=some (.int .i64 hh.place):=by simp[World.cell?,a3.o]
     have c3:w8.cell? ⟨bh,3,none⟩=some (.int .i64 hh.number):=by simp[World.cell?,a3.o]
     go_wp2_with (go_at_call 131;fail)
     have b0:=Zqa (q:=w8.heap.size) (X:=⟨hh,[],0,false⟩) (G:=fun k=>k=w8.heap.size) (F:=F) (D:=D2) (N:=N+2) (p:=p) (w8.alloc (.cells #[.int .i64 hh.turn,.int .i64 hh.area,.int .i64 hh.place,.int .i64 hh.number,.pointer (some ⟨p,0,none⟩),.slice none 0 0,.int .i64 0,.bool false] 193))
      (Log.begin (Zc rfl)) ⟨by show 0≤hh.turn∧hh.turn≤_;omega,o2,by show 0≤hh.place∧hh.place≤_;omega,by show 0≤hh.number∧hh.number≤_;omega,by show(0:Int)≤0∧(0:Int)≤1000;omega,by simp,fun b hb=>by simp at hb⟩ rfl (by show(0:Int)≤hh.area;omega) (by simp)
      (b6.o.dsk.kept ((Upd.refl (fun _=>False) w8).alloc _) n3Z) g2.o (by omega) (fun k hk e=>by have:=b1.o k e;have:=Za b6.o.two;omega)
     have j5:U0 w8 (w8.alloc (.cells #[.int .i64 hh.turn,.int .i64 hh.area,.int .i64 hh.place,.int .i64 hh.number,.pointer (some ⟨p,0,none⟩),.slice none 0 0,.int .i64 0,.bool false] 193)):=(Upd.refl _ w8).alloc _
     obtain⟨w9,h0⟩: ∃w9,w9=w8.alloc (.cells #[.int .i64 hh.turn,.int .i64 hh.area,.int .i64 hh.place,.int .i64 hh.number,.pointer (some ⟨p,0,none⟩),.slice none 0 0,.int .i64 0,.bool false] 193):=⟨_,rfl⟩
     refine(?_:Calls _ _ _ (w8.alloc (.cells #[.int .i64 hh.turn,.int .i64 hh.area,.int .i64 hh.place,.int .i64 hh.number,.pointer (some ⟨p,0,none⟩),.slice none 0 0,.int .i64 0,.bool false] 193)) _)
     have j2:w9.heap.size=w8.heap.size+1:=by rw[h0];simp
     rw[←h0] at b0 j5 ⊢
     clear h0
     obtain⟨q,i6⟩: ∃q,q=w8.heap.size:=⟨_,rfl⟩
     have p5:w.heap.size<q:=by rw[i6];exact Za b6.o.two
     have f0:Upd F w w9:=b6.o.upd.trans (j5.mono (fun _ _ e=>e.elim))
     have n4: ¬F q:=fun e=>by have:=b1.o q e;omega
     rw[←i6] at b0 j2 ⊢
     obtain⟨RF,n1⟩: ∃RF,RF=Ys hh 1001 [] 0 D2:=⟨_,rfl⟩
     simp only at b0
     rw[←n1] at b0 b5
     have k5:=V f0;have o5:=V n4;have n9:=V j2
     clear i6 j5 f0 n4 j2 n1 b6 a3 c0 c1 c2 c3 f9 g2 hq
     refine b0.mono ?_
     clear b0
     rintro e b9 ⟨Y,G',D',rfl,y1,y2,y3,y4,y5,y6,rfl,y8,y9,j7,k7,k3⟩
     have a6:RowKit.Hid (Upd F w b9):=V (k5.o.step k3 (fun k hk e=>e.elim (fun e=>by omega) id))
     have l6:RowKit.Hid (∀k,G' k→w.heap.size≤k):=V (fun k hk=>(y9 k hk).elim (fun e=>by omega) (fun e=>by have:=n9.o;omega))
     have n3:RowKit.Hid (∀k,G' k→ ¬F k):=V (fun k hk e=>by have:=l6.o k hk;have:=b1.o k e;omega)
     have k6:Y.h=hh:=y1
     have l9:=y8
     obtain⟨PV,vs,i1,o7⟩:=y8
     obtain⟨pa,pc,rfl⟩:=rowV i1.row
     have HM:=V i1.main;have n8:=V l9;have b2:=V j7;have a8:=V k7;have g3:=V y3;have n0:=V y6;have i4:=V k6;have l4:=V y4;have l8:=V y2
     clear y1 y2 y3 y4 y5 y6 l9 y9 j7 k7 k3 i1 o7 k6 k5 n9
     simp only[]
     by_cases hE:RF.2.1=0
     rotate_left
     ·have g0:(RF.2.1 !=0)=true:=by simpa using hE
      have a5:RowKit.Hid (R=(none,RF.2.1,RF.2.2)):=V (by rw[b5.o];unfold Zaq;rw[if_neg hE])
      clear hE
      go_wp2
      go_returns
      rw[a5.o]
      exact⟨F,b2.o,fun k hk=>.inl hk,a6.o,Dk.Ok.mono a8.o (by omega),rfl⟩
     ·have g0:(RF.2.1 !=0)=false:=by simpa using hE
      have a5:RowKit.Hid (R=if RF.1=[]∨hh.turn=1073741824 then(none,140,RF.2.2) else Zar {hh with turn:=hh.turn+1} RF.1 RF.2.2):=V (by rw[b5.o];unfold Zaq;rw[if_pos hE])
      have c0:b9.cell? ⟨q,0,none⟩=some (.int .i64 hh.turn):=by rw[←i4.o];simp[World.cell?,HM.o,Lg.cells]
      have c5:b9.cell? ⟨q,5,none⟩=some (.slice pa Y.parts.length pc):=by simp[World.cell?,HM.o,Lg.cells]
      clear hE
      go_upto_region 17 with fail
      by_cases d4:Y.parts=[]
      ·have hz:((Y.parts.length:Int) == 0)=true:=by rw[d4];rfl
       have a4:RowKit.Hid (R=(none,140,RF.2.2)):=V (by rw[a5.o,if_pos (.inl (by rw[←g3.o,d4]))])
       clear d4
       go_wp2
       go_returns
       rw[a4.o]
       exact⟨F,b2.o,fun k hk=>.inl hk,a6.o,Dk.Ok.mono a8.o (by omega),rfl⟩
      ·have hz:((Y.parts.length:Int) == 0)=false:=by
        have:Y.parts.length≠0:=fun e=>d4 (List.length_eq_zero_iff.1 e)
        simp;omega
       by_cases d5:hh.turn=1073741824
       ·have k8:(hh.turn == 1073741824)=true:=by simpa using d5
        have a4:RowKit.Hid (R=(none,140,RF.2.2)):=V (by rw[a5.o,if_pos (.inr d5)])
        clear d4 d5
        go_wp2
        go_returns
        rw[a4.o]
        exact⟨F,b2.o,fun k hk=>.inl hk,a6.o,Dk.Ok.mono a8.o (by omega),rfl⟩
       ·have k8:(hh.turn == 1073741824)=false:=by simpa using d5
        have a4:RowKit.Hid (R=Zar {hh with turn:=hh.turn+1} RF.1 RF.2.2):=V (by rw[a5.o,if_neg (fun e=>e.elim (fun e=>d4 (by rw[g3.o,e])) d5)])
        have i5:IntKind.i64.wrap (hh.turn+1)=hh.turn+1:=by rw[IntKind.wrap_i64];omega
        have p1:b9.frozen? ⟨q,0,none⟩=false:=Zb HM.o
        clear d4 d5 a5
        go_upto_region 20 with fail
        have b4:Upd (fun k=>k=q) b9 (b9.setCell ⟨q,0,none⟩ (.int .i64 (hh.turn+1))):=Zd b9 q 0 _
        have a7:=n8.o.turned (hh.turn+1)
        have i2:({Y with h:={Y.h with turn:=hh.turn+1}}:Lg)=⟨{hh with turn:=hh.turn+1},RF.1,Zx RF.1,false⟩:=by
         have h1:=i4.o;have h2:=g3.o;have h3:=l4.o;have h4:=l8.o
         rcases Y with ⟨ya,yb,yc,yd⟩
         simp only at h1 h2 h3 h4
         subst h1 h4
         rw[h3,h2]
        rw[i2] at a7
        have b8:(⟨{hh with turn:=hh.turn+1},RF.1,Zx RF.1,false⟩:Lg).Ok:=by
         rw[←i2]
         have h:=n0.o
         exact⟨by show 0≤hh.turn+1∧hh.turn+1≤1073741824;have:hh.turn≠1073741824:=by simpa using k8
                  omega,h.area,h.place,h.number,h.used,h.len,h.bytes⟩
        obtain⟨b3,e0⟩: ∃b3,b3=b9.setCell ⟨q,0,none⟩ (.int .i64 (hh.turn+1)):=⟨_,rfl⟩
        rw[←e0] at b4 a7 ⊢
        obtain⟨o4,p0,j3,l5⟩:=a7
        have hm:=j3.main
        have d0:b3.cell? ⟨q,0,none⟩=some (.int .i64 (hh.turn+1)):=by simp[World.cell?,hm,Lg.cells]
        have d1:b3.cell? ⟨q,1,none⟩=some (.int .i64 hh.area):=by simp[World.cell?,hm,Lg.cells]
        have d2:b3.cell? ⟨q,2,none⟩=some (.int .i64 hh.place):=by simp[World.cell?,hm,Lg.cells]
        have d3:b3.cell? ⟨q,3,none⟩=some (.int .i64 hh.number):=by simp[World.cell?,hm,Lg.cells]
        have b7:RowKit.Hid (Log b3 q p ⟨{hh with turn:=hh.turn+1},RF.1,Zx RF.1,false⟩ G'):=V ⟨o4,p0,j3,l5⟩
        have e3:=V b8
        have d9:RowKit.Hid (Upd F w b3):=V (a6.o.step b4 (fun k hk e=>by omega))
        have h8:=V (b2.o.kept b4 (fun k hk e=>o5.o (by rw[←e];exact hk)))
        have f6:({hh with turn:=hh.turn+1}:Hd).U32:=⟨by show 0≤hh.turn+1∧hh.turn+1≤4294967295;omega,by show 0≤hh.area∧hh.area≤4294967295;omega,by show 0≤hh.place∧hh.place≤4294967295;omega,by show 0≤hh.number∧hh.number≤4294967295;omega⟩
        have m5:=V (Zg7 b3 h8.o a8.o (by omega) f6)
        have m0:=Dk.lays_ok [headSc ({hh with turn:=hh.turn+1}:Hd)] a8.o
        have i9:=V m0
        clear b4 i2 b8 e0 j3 l5 hm f6 m0 c0 c5 p1 i5 HM n8 a6 n0 i4 g3 l4 l8
        go_wp2_with (go_at_call 112;fail)
        refine m5.o.mono ?_
        rintro e p4 ⟨rfl,F',c9,l0,e7⟩
        rw[show raw [headSc ({hh with turn:=hh.turn+1}:Hd)]=[({hh with turn:=hh.turn+1}:Hd).laid] from rfl] at c9 ⊢
        rw[show raw [headSc ({hh with turn:=hh.turn+1}:Hd)]=[({hh with turn:=hh.turn+1}:Hd).laid] from rfl] at i9
        have e6:=V c9;have k0:=V l0;have d6:=V e7
        clear c9 l0 e7 m5
        obtain⟨E,hE⟩: ∃E,E=RF.2.2.laysE [({hh with turn:=hh.turn+1}:Hd).laid]:=⟨_,rfl⟩
        have HE:=V hE
        rw[←hE]
        clear hE
        have k1:RowKit.Hid (Upd F w p4):=V (d9.o.step d6.o (fun k _ e=>e))
        have k4:RowKit.Hid (∀k,F' k→F k∨w.heap.size≤k):=V (fun k hk=>(k0.o k hk).imp id (fun e=>by have:=d9.o.size;omega))
        simp only[]
        by_cases a2:E=0
        ·have g0:(E !=0)=false:=by simpa using a2
         have h9:RowKit.Hid (R=(some ⟨{hh with turn:=hh.turn+1},RF.1,Zx RF.1,false⟩,0,RF.2.2.lays [({hh with turn:=hh.turn+1}:Hd).laid])):=V (by
          rw[a4.o];unfold Zar;rw[if_pos (by rw[←HE.o];exact a2)])
         clear a2
         go_wp2
         go_returns
         rw[h9.o]
         exact⟨F',e6.o,k4.o,k1.o,Dk.Ok.mono i9.o (by simp),q,G',rfl,b7.o.kept d6.o n3.o,l6.o,fun k hk e=>(k0.o k e).elim (fun e=>n3.o k hk e) (fun e=>by have:=b7.o.lt k hk;omega),e3.o⟩
        ·have g0:(E !=0)=true:=by simpa using a2
         have h9:RowKit.Hid (R=(none,E,RF.2.2.lays [({hh with turn:=hh.turn+1}:Hd).laid])):=V (by
          rw[a4.o];unfold Zar;rw[if_neg (by rw[←HE.o];exact a2),HE.o])
         clear a2
         go_wp2
         go_returns
         rw[h9.o]
         exact⟨F',e6.o,k4.o,k1.o,Dk.Ok.mono i9.o (by simp),rfl⟩
attribute [local go_sem] Oper.semAt_some
theorem Zb6 {w':World}{e:TypeId}{s:Nat}{v:Value}{n:Nat}{xs:List Value}(h:w.ownsRow B e s v n xs)(hk: ∀g,v.ownBlock=some g→w'.heap[g]?=w.heap[g]?):w'.ownsRow B e s v n xs:=by
 refine⟨h.1,?_⟩
 rcases h.2 with h | ⟨g,a1,a0,rfl,h2,h3,h4⟩
 ·exact .inl h
 ·exact .inr ⟨g,a1,a0,rfl,h2,(hk g rfl).trans h3,h4⟩
theorem Log.keep {w':World}(h:Log w q p X G)(hk: ∀k,G k→w'.heap[k]?=w.heap[k]?):Log w' q p X G:=by
 obtain⟨PV,vs,h1,h2⟩:=h
 refine⟨PV,vs,⟨(hk q ((h2 q).2 (.inl rfl))).trans h1.main,Zb6 h1.row (fun g hg=>hk g ((h2 g).2 (.inr (.inl hg)))),fun i v b hv hb=>Zb6 (h1.parts i v b hv hb) (fun g hg=>hk g ((h2 g).2 (.inr (.inr ⟨v,List.mem_of_getElem? hv,hg⟩)))),h1.nq,h1.nv⟩,h2⟩
theorem Zkh (n:Nat)(hn:1≤n)(l:Nat){bp:Nat}(hok:X.Ok)(hne:X.parts≠[])(J:List (Nat×Value)→World→Prop)(W:World)(hlog:Log W q p X G)(hbp:W.heap[bp]?=some (.cells #[.pointer (some ⟨q,0,none⟩)] 38 (0,0)))
  (hY: ∀pre x W0 W1 b,J pre W0→U0 W0 W1→x.1=pre.length→X.parts[pre.length+1]?=some b→OwnB W1 W0.heap.size x.2 b→YieldAt Fence.wide (n - 1) Tryz.prog l #[.int .i64 x.1,x.2] W1 fun e W'=>
   e=.returned (.bool true)∧J (pre++[x]) W'∧ ∀k,G k∨k=bp→W'.heap[k]?=W1.heap[k]?) (h0:J [] W) (hJA: ∀pre W W',J pre W→U0 W W'→J pre W'):
  CallsIn Fence.wide n Tryz.prog 165 #[.func (.yield l) #[] #[],.pointer (some ⟨bp,0,none⟩)] W fun e W'=>(∃v,e=.returned v)∧ ∃xs,xs.length+1=X.parts.length∧J xs W':=by
 have b6:=V hlog;have c1:=V hbp;have HY:=V hY;have b8:=V hok;have d1:=V hJA
 have hc:=Zf hbp
 have d8:1≤X.parts.length:=by
  rcases hX:X.parts with _ | ⟨a,b⟩
  ·exact absurd hX hne
  ·simp
 have d3:=hok.len
 have H0:=V h0
 clear hlog hbp hY hok hne h0 hJA
 refine callsIn_of_wp Tryz.func165 rfl trivial ?_ rfl
 simp only[Tryz.ntmps165,List.size_toArray,List.length_cons,List.length_nil,Nat.reduceAdd,Nat.reduceSub,Array.replicate_succ,Array.replicate_zero,List.push_toArray,List.append_toArray,List.nil_append,List.cons_append]
 gi_wp2_with (refine⟨trivial,?_⟩;gi_at_call 55;fail)
 refine⟨trivial,?_⟩
 refine(callsIn_wide.2 (Zn6 W b6.o b8.o)).mono ?_
 rintro e w1 ⟨rfl,c3⟩
 have c2:=V c3
 clear c3 hc
 simp only[]
 gi_upto_region 1 with fail
 obtain⟨N,hN⟩: ∃N:Nat,N+1=X.parts.length:=⟨X.parts.length - 1,by omega⟩
 rw[show((X.parts.length:Int) - 1)=(N:Int) by omega]
 gi_loopg [6] N (fun gi i wr=> ∃(k:Nat) (pre:List (Nat×Value)) (W0:World),k≤N∧gi=N - k∧i=.int .i64 k∧pre.length=k∧J pre W0∧U0 W0 wr∧Log W0 q p X G∧W0.heap[bp]?=some (.cells #[.pointer (some ⟨q,0,none⟩)] 38 (0,0)))
 case atStart=>exact⟨0,[],W,by omega,rfl,rfl,rfl,H0.o,c2.o,b6.o,c1.o⟩
 case round=>
  obtain⟨k,pre,W0,hk,rfl,rfl,a2,hJ,hu,b0,hbp⟩:=hrel
  obtain⟨wo,rfl⟩: ∃wo,wo=wr:=⟨_,rfl⟩
  by_cases e0:k<N
  ·have b4:=b0.kept hu n3Z
   have a7:=kb hu hbp
   have d5:=Zf a7
   have b3:(k:Int)<N:=by omega
   obtain⟨PV,vs,h1,h2⟩:=b4
   have d4:=h1.vslen
   obtain⟨b,hb⟩: ∃b,X.parts[k+1]?=some b:=⟨_,List.getElem?_eq_getElem (by omega)⟩
   obtain⟨v,hv⟩: ∃v,vs[k+1]?=some v:=⟨_,List.getElem?_eq_getElem (by omega)⟩
   have a8:=h1.parts _ _ _ hv hb
   have d7:=(b8.o.bytes b (List.mem_of_getElem? hb)).2
   obtain⟨g,a9,c7⟩: ∃g a9,PV=.slice (some ⟨g,0,none⟩) X.parts.length a9:=by
    rcases h1.row.2 with ⟨_,h⟩ | ⟨g,a9,d9,h,_⟩
    ·omega
    ·exact⟨g,a9,h⟩
   subst c7
   have c5:wo.cell? ⟨q,5,none⟩=some (.slice (some ⟨g,0,none⟩) X.parts.length a9):=by simp[World.cell?,h1.main,Lg.cells]
   have cv:wo.cell? ⟨g,k+1,none⟩=some v:=by
    have:=h1.row.cells (g:=g) rfl (k+1) v hv
    rwa [Addr.add_mid,Nat.zero_add] at this
   have a4:=V a8;have HB:=V hb;have HJ:=V hJ;have HU:=V hu;have a6:=V b0;have a5:=V hbp;have a0:=V a2
   have e1:(k:Int)+1<X.parts.length:=by omega
   clear h1 h2 a8 hb hJ hu b0 hbp a7 d4 hv a2 b6 c1 c2 H0
   gi_wp2_with (refine⟨trivial,?_⟩;gi_at_call 99;fail)
   refine⟨trivial,?_⟩
   refine(callsIn_wide.2 (Y4 wo (by omega) a4.o.bytesIn)).mono ?_
   rintro e w3 ⟨u,rfl,b7,_,b9⟩
   have a1:U0 W0 w3:=HU.o.trans b9
   have d0:=HY.o pre (k,u) W0 w3 b HJ.o a1 a0.o.symm (by rw[a0.o];exact HB.o) (b7.mono HU.o.size)
   obtain⟨fn,c8,b1,c6,hy,hR⟩:=d0
   dsimp only at hy
   have c4:=V hR;have a3:=V a1
   clear b7 b9 hR a1 a4 HB HJ HU HY cv c5 d5
   simp only[]
   iterate 3 gi_step
   refine c4.o.mono ?_
   rintro e w4 ⟨rfl,c0,b5⟩
   have d6:=V c0
   have d2:=V ((a6.o.kept a3.o n3Z).keep (fun j hj=>b5 j (.inl hj)))
   have c9:=V ((b5 bp (.inr rfl)).trans (kb a3.o a5.o))
   clear c0 b5 hy c4 a3 a6 a5
   simp only[]
   gi_wp2
   gi_roundg (N - (k+1))
   case measure=>omega
   case rel=>exact⟨k+1,pre++[(k,u)],w4,by omega,rfl,congrArg _ (by omega),by simp[a0.o],d6.o,Upd.refl _ _,d2.o,c9.o⟩
  ·obtain rfl:k=N:=by omega
   have b3: ¬(k:Int)<k:=by omega
   have b2:RowKit.Hid (∃xs:List (Nat×Value),xs.length+1=X.parts.length∧J xs wo):=V ⟨pre,by omega,d1.o _ _ _ hJ hu⟩
   clear hJ hu b0 hbp a2
   gi_wp2
   refine bodyPost_end (results_none rfl _ _ _) rfl ?_
   exact⟨⟨_,rfl⟩,b2.o⟩
theorem Zhg (q:Nat)(w:World):Calls Tryz.prog 120 #[.pointer (some ⟨q,0,none⟩)] w fun e w'=>e=.returned (.func (.func 165) #[] #[.pointer (some ⟨w.heap.size,0,none⟩)])∧w'=w.alloc (.cells #[.pointer (some ⟨q,0,none⟩)] 38):=by
 go_enter Tryz.func120,Tryz.ntmps120
 go_wp2
 go_ret
 exact⟨rfl,rfl⟩
end
section
open Go.RowKit Go.Shelf
attribute [local go_sem] Oper.semAt_some
theorem Zd5 {l:Nat}(o:Obj):Upd (fun k=>k=l) W (W.putObj l o):=Upd.of_grown (grownBy_putObj' W l o) (fun k hk=>by injection hk with hk;exact hk.symm)
end
section
open Go.RowKit Go.Shelf
def RowsIn (w:World)(v:Value)(txs:List (List Int)):Prop:= ∃vs,w.ownsRow 0 39 1 v txs.length vs∧ ∀(i:Nat) u b,vs[i]?=some u→txs[i]?=some b→BytesIn w u b
theorem Zmj (l:List (List Int)):(l.length:Int)≤Zx l:=by
 induction l with
 |nil=>simp[Zx]
 |cons b l ih=>
  have:=Yu b.length
  rw[Yj]
  simp
  omega
end
section
open Go.RowKit
theorem Ztc {area:Nat}(hg:D.Good N)(ha:4≤area∧area≤1000)(hN:2+2 * area≤N):LawD (fmtX area) 1 (fmtD D area 3).S:=by
 have b1:=Zj8 (area:=area) (N:=N) hN
 have b2: ∀x∈raw (partSc (fmtH area) 1 0 true [] bytes_nil),0≤x.1∧x.1<N:=Zb5 bytes_nil (by show(1:Int)≤area;omega) (by show(2:Int)+2 * area≤N;omega)
 have b3: ∀x∈raw [headSc (fmtH area)],0≤x.1∧x.1<N:=Zdf (by omega)
 obtain⟨_,g1⟩:=hg.lays _ (by omega) b1
 obtain⟨_,g2⟩:=g1.lays _ (by omega) b2
 have hz: ∀i:Int,0≤i→i<2+2 * area→(D.lays (fmt1 area)).S i=zblk:=fun i h1 h2=>by
  show(D.lays (raw (zl area))).S i=zblk
  rw[hg.S_lays _ b1 i h1 (by omega)]
  exact Ztb h1 h2
 refine(LawD.fmt ha hz).congr (fun i h1 h2=>?_)
 have a0:i<2+2 * (area:Int):=h2
 show(((D.lays (raw (zl area))).lays (raw (partSc (fmtH area) 1 0 true [] bytes_nil))).lays (raw [headSc (fmtH area)])).S i=_
 rw[Dk.Good.S_lays _ g2 b3 i h1 (by omega)]
 refine Zen (N:=N) _ _ _ (fun j h3 h4=>?_) i h1 (by omega)
 rw[Dk.Good.S_lays _ g1 b2 j h3 h4,Zja]
 rfl
theorem Ztd (h:LawD X τ D.S)(hg:D.Good N)(hN:2+2 * X.h.area≤N)(hb:Bytes b)(hl:b.length≤40000)(hr:X.used+secsN b.length≤X.h.area)(hn:X.h.number+X.parts.length+1≤2000000000):LawD (X.add b) 1 (D.lays (X.apS b hb)).S:=by
 have ha:=h.says.area
 refine(h.add (τ':=1) hl hr hn (by omega)).congr (fun i h1 h2=>?_)
 have a0:i<2+2 * X.h.area:=h2
 unfold Lg.apS
 rw[hg.S_lays _ (Zb5 hb (by omega) hN) i h1 (by omega),Zja]
theorem Zo9 (h:D.Ok K){i:Nat}(hi:D.arr.length≤i):D.shows i=[]:=by
 have e:D.row.filter (fun x=>x.1 == i)=[]:=by
  rw[List.filter_eq_nil_iff]
  intro x hx
  have:=(h.rblks x hx).2.1
  simp;omega
 unfold Dk.shows Dk.vers
 rw[e,List.getD_eq_getElem?_getD,List.getElem?_eq_none hi]
 rfl
theorem Zj2 (h:D.Ok K)(i:Int):0≤startN (D.S i):=by
 unfold startN Dk.S
 by_cases hi:i.toNat<D.arr.length
 ·exact Zju (fun x hx=>(Zdn h hi).2 x (List.mem_of_mem_drop hx))
 ·rw[Zo9 h (by omega)]
  show(0:Int)≤0
  omega
theorem Zpx (h:LawD X τ D.S)(hg:D.Good N)(hok:D.Ok K)(hN:2+2 * X.h.area≤N)(ht:X.h.turn<1073741824)(hτ:τ≤X.h.turn+1):
  ∃D',openD D=(some X.on,0,D')∧D'.Good N∧LawD X.on (X.h.turn+1) D'.S:=by
 have ha:=h.says.area
 obtain⟨e0,g0,r0,s0⟩:=hg.callR (i:=0) (by omega)
 obtain⟨e1,g1,r1,s1⟩:=g0.callR (i:=1) (by omega)
 have hc:=h.counts
 obtain⟨D2,f1,f2,f3,f4⟩:=Zgo (h:=X.h) (N:=N) (by omega) hN 1001 [] 0 ((D.callD 0 false).callD 1 false) (by omega) g1
 have a2:(X.parts.length:Int)≤X.used:=by rw[h.sum];exact Zmj _
 have a1:=h.fits
 rw[s1,s0,h.found (Zj2 hok) (by omega)] at f1
 rw[s1,s0] at f3
 have hb:=Zdf (h:=X.on.h) (N:=N) (by omega)
 obtain⟨l1,l2⟩:=f2.lays (raw [headSc X.on.h]) (by omega) hb
 have a0:=h.opened ht hτ
 refine⟨D2.lays (raw [headSc X.on.h]),?_,l2,a0.congr (fun i h1 h2=>?_)⟩
 ·unfold openD
  rw[if_pos e0,if_pos e1,r0,r1,s0,hc]
  unfold Za7
  rw[if_neg (by have:=g1.len;simp;omega)]
  show Zaq X.h (Ys X.h 1001 [] 0 _)=_
  rw[f1]
  unfold Zaq
  rw[if_pos rfl,if_neg (by have:=h.one;simp;exact⟨this,by omega⟩)]
  unfold Zar
  rw[if_pos (by exact l1)]
  unfold Lg.on
  rw[h.sum]
  rfl
 ·have a3:i<2+2 * X.h.area:=h2
  rw[Dk.Good.S_lays _ f2 hb i h1 (by omega),f3]
  rfl
theorem Zpp (w:World)(hD:Dsk w p D F)(h:LawD X τ D.S)(hg:D.Good N)(hok:D.Ok K)(hK:K≤1000000000)(hN:2+2 * X.h.area≤N)(ht:X.h.turn<1073741824)(hτ:τ≤X.h.turn+1):
  Calls Tryz.prog 61 #[.pointer (some ⟨p,0,none⟩)] w fun e w'=> ∃q D' G' F',e=.returned (.tuple #[.pointer (some ⟨q,0,none⟩),.int .i64 0])∧WalG w' q p X.on D' G' F' N (K+1002000)∧LawD X.on (X.h.turn+1) D'.S∧(∀k,G' k→w.heap.size≤k)∧(∀k,F' k→F k∨w.heap.size≤k)∧Upd F w w':=by
 obtain⟨D',e1,e2,e3⟩:=Zpx h hg hok hN ht hτ
 refine(Zg5 w hD hok (by omega)).mono ?_
 rintro e w' hx
 rw[e1] at hx
 obtain⟨F',h1,h2,h3,h4,q,G',rfl,h5,h6,h7,h8⟩:=hx
 exact⟨q,D',G',F',rfl,⟨⟨h5,h1,h7⟩,h8,rfl,e2,h4,hN⟩,e3,h6,h2,h3⟩
end
section
open Go.RowKit Go.Shelf
theorem Zcc {o:Oper}{a:Act}{K:Act→World→Prop}{Q:Exit→Act→World→Prop}(s x:Operand)(ho:o.op=.call {callee:=.builtin .append,args:=#[s,x],argTypes:=#[39,39]})
  {base:Nat} {v vx:Value} {bs cs:List Int} (hs:a.eval s=v) (hown:OwnB w base v bs) (hx:a.eval x=vx) (hxx:BytesIn w vx cs) (hm:bs.length+cs.length≤140737488351232) (hbase:base≤w.heap.size)
  (h: ∀v' w',OwnB w' base v' (bs++cs)→Upd (fun k=>v.ownBlock=some k) w w'→(v'.ownBlock=v.ownBlock∨v'.ownBlock=some w.heap.size)→K (a.put o.dst v') w'):o.wp Tryz.prog a w K Q:=by
 have a0: ∃v' w',(Builtin.append_ #[39,39] o.type #[v,vx]).run Tryz.prog w=.ok v' w'∧OwnB w' base v' (bs++cs)∧Upd (fun k=>v.ownBlock=some k) w w'∧(v'.ownBlock=v.ownBlock∨v'.ownBlock=some w.heap.size):=by
  obtain⟨i,hi,hz,a1,hb⟩:=info_parts Tryz.info5p
  rcases hxx with ⟨rfl,rfl⟩ | ⟨ad,c,rfl,h1,h2,h3⟩
  ·have hr:=run_append_owned_none (P:=Tryz.prog) (w:=w) base 39 o.type 5 i 1 Tryz.underlying39 hi v bs.length (bcells bs) hown
   exact⟨_,_,hr,by simpa using hown,Upd.refl _ _,.inl rfl⟩
  ·obtain⟨v',w',hr,g1,g2,_,g3⟩:=run_append_own_at (P:=Tryz.prog) w base 39 o.type 5 i (.int .u8 0) 1 1 Tryz.underlying39 hi hz a1 hb rfl (by omega) v bs.length (bcells bs) hown ad cs.length c (bcells cs) (by simp[bcells]) h3 (Z6 cs) (by unfold maxLen;omega) (by omega) hbase
   refine⟨v',w',hr,?_,Upd.of_grown g2 (fun k hk=>hk),g3⟩
   unfold OwnB
   rw[Y6,List.length_append]
   exact g1
 obtain⟨v',w',hr,g1,g2,g3⟩:=a0
 exact Lib.wp_append_run w s x 39 39 ho v vx hs hx v' w' hr (h v' w' g1 g2 g3)
theorem Zc4 (W:World)(hb:B≤W.heap.size):OwnB (W.alloc (.cells #[] 5)) B (.slice (some ⟨W.heap.size,0,none⟩) 0 0) []:=
 ⟨rfl,.inr ⟨W.heap.size,0,_,rfl,hb,Zc rfl,Nat.le_refl _,by unfold maxLen;omega,rfl,rfl⟩⟩
theorem SetRow.low {B':Nat}{C:Nat→Prop}{sv:Value}{l:List SetV}(h:SetRow w B C sv l)(hb:B'≤B):SetRow w B' C sv l:=by
 obtain⟨L,h0,⟨h1,h2⟩,h3,h4⟩:=h
 refine⟨L,h0,⟨h1,?_⟩,h3,h4⟩
 rcases h2 with h2 | ⟨g,a1,a0,e,hg,r⟩
 ·exact .inl h2
 ·exact .inr ⟨g,a1,a0,e,Nat.le_trans hb hg,r⟩
structure CpAt (w:World) (ev:Int) (fl:Bool) (l:List SetV) (W:World):Prop where
 out: ∃(C:Nat→Prop) (a:Option Addr) (c:Nat),W.heap[w.heap.size+2]?=some (.cells #[.int .u64 ev,.bool fl,.slice a l.length c] 56 (0,0))∧SetRow W (w.heap.size+2+1) C (.slice a l.length c) l∧RowC W C∧ ∀k,C k→w.heap.size+2<k
 res:W.heap[w.heap.size+1]?=some (.cells #[.int .u64 0,.bool false,.slice none 0 0] 56 (0,0))
 upd:U0 w W
def CopyAns (w:World)(B:BatchV)(e:Ending)(w':World):Prop:=
 ∃a c,e=.returned (batchV B a c)∧(∃C,SetRow w' w.heap.size C (.slice a B.sets.length c) B.sets∧RowC w' C∧ ∀k,C k→w.heap.size≤k)∧B.sets.length≤c∧U0 w w'
theorem Zet {c:Nat}{a:Option Addr}{B:BatchV}(w:World)(hs:SetsIn w a B.sets)(hb: ∀x∈B.sets,Bytes x.old∧Bytes x.new)(hl:B.sets.length≤1000000):
  Calls Tryz.prog 20 #[batchV B a c] w (CopyAns w B):=by
 obtain⟨w1,e0⟩: ∃w1,w1=(w.alloc (.cells #[.int .u64 B.epoch,.bool B.large,.slice a B.sets.length c] 56)).alloc (.cells #[.int .u64 0,.bool false,.slice none 0 0] 56):=⟨_,rfl⟩
 have j6:w1.heap[w.heap.size]?=some (.cells #[.int .u64 B.epoch,.bool B.large,.slice a B.sets.length c] 56 (0,0)):=by rw[e0,Zm (by simp)];exact Zc rfl
 have k2:w1.heap[w.heap.size+1]?=some (.cells #[.int .u64 0,.bool false,.slice none 0 0] 56 (0,0)):=by rw[e0];exact Zc (by simp)
 have g0:w1.heap.size=w.heap.size+2:=by rw[e0];simp
 have n0:U0 w w1:=by rw[e0];exact((Upd.refl _ w).alloc _).alloc _
 obtain⟨z0,z1,z2⟩:=Zk j6
 have m4:=V e0;have HS:=V hs;have o4:=V hb;have l5:=V j6;have k8:=V k2;have j8:=V g0;have k3:=V n0
 clear e0 hs hb j6 k2 g0 n0
 unfold batchV
 go_enter Tryz.func20,Tryz.ntmps20
 go_upto_region 1 with fail
 rw[←m4.o]
 go_upto_region 2 with fail
 rw[j8.o]
 obtain⟨w2,g7⟩: ∃w2,w2=w1.alloc (.cells #[.int .u64 B.epoch,.bool B.large,.slice none 0 0] 56):=⟨_,rfl⟩
 rw[←g7]
 have d1:U0 w1 w2:=by rw[g7];exact(Upd.refl _ w1).alloc _
 have c0:w2.heap[w.heap.size+2]?=some (.cells #[.int .u64 B.epoch,.bool B.large,.slice none 0 0] 56 (0,0)):=by rw[g7];exact Zc j8.o.symm
 have k0:=kb d1 l5.o
 obtain⟨z0,z1,z2⟩:=Zk k0
 have hd:CpAt w B.epoch B.large [] w2:=⟨⟨fun _=>False,none,0,c0,SetRow.nil _ _ _,fun k hk=>hk.elim,fun k hk=>hk.elim⟩,kb d1 k8.o,k3.o.trans d1⟩
 have HD:=V hd
 clear g7 d1 c0 k0 hd m4 l5 k8 j8 k3
 go_upto_block 0 with fail
 go_upto_region 3 with fail
 go_loopg [14] B.sets.length (fun gk i wr=> ∃k:Nat,k≤B.sets.length∧gk=B.sets.length - k∧i=.int .i64 k∧CpAt w B.epoch B.large (B.sets.take k) wr)
 case atStart=>exact⟨0,Nat.zero_le _,rfl,rfl,HD.o⟩
 case round=>
  obtain⟨k,hk,rfl,rfl,hd⟩:=hrel
  have HD:=V hd
  clear hd
  by_cases i3:k<B.sets.length
  ·have n8:(k:Int)<B.sets.length:=by omega
   obtain⟨x,hx⟩: ∃x,B.sets[k]?=some x:=⟨_,List.getElem?_eq_getElem i3⟩
   obtain⟨g1,g2,g3,b,o,ea,oa,oc,na,nc,h0,h1,h2,h3,h4,h5,h6,_⟩:=HS.o k x hx
   subst ea
   have kc: ∀{o:Nat} {v:Value},w.cell? ⟨b,o,none⟩=some v→wr.cell? ⟨b,o,none⟩=some v:=fun h=>Zo HD.o.upd id h
   have q0:=kc h0;have q1:=kc h1;have q2:=kc h2;have q3:=kc h3;have q4:=kc h4
   have k9:B.sets[k]=x:=by rw[List.getElem?_eq_getElem i3] at hx;injection hx
   have c4:B.sets.take (k+1)=B.sets.take k++[x]:=by rw[List.take_succ_eq_append_getElem i3,k9]
   have l8:x.fine:=by
    have:=o4.o x (List.mem_of_getElem? hx)
    exact⟨g1,g2,g3,this.1,this.2⟩
   have m9:(B.sets.take k).length=k:=by simp;omega
   have d0:=V c4;have o3:=V l8;have h9:=V m9
   have H5:=V (h5.kept HD.o.upd);have H6:=V (h6.kept HD.o.upd)
   clear h0 h1 h2 h3 h4 h5 h6 kc hx k9 c4 l8 m9
   go_upto_region 5 with fail
   obtain⟨b5,i1⟩: ∃b5,b5=wr.heap.size:=⟨_,rfl⟩
   obtain⟨w3,h7⟩: ∃w3,w3=wr.alloc (.cells #[.string x.name,.bool x.was,.bool x.is,.slice oa x.old.length oc,.slice na x.new.length nc] 73):=⟨_,rfl⟩
   rw[←h7,←i1]
   have l7:U0 wr w3:=by rw[h7];exact(Upd.refl _ wr).alloc _
   have k5:w3.heap[b5]?=some (.cells #[.string x.name,.bool x.was,.bool x.is,.slice oa x.old.length oc,.slice na x.new.length nc] 73 (0,0)):=by rw[h7];exact Zc i1
   have hA:w3.drew.heap[b5]?=some (.cells #[.string x.name,.bool x.was,.bool x.is,.slice oa x.old.length oc,.slice na x.new.length nc] 73 (0,0)):=k5
   have HU:=V (l7.drew);have j4:=V i1
   clear h7 l7 k5 q0 q1 q2 q3 q4 i1
   go_cut [14] from 18 to 28 (fun i wx=>i=.int .i64 k∧ ∃a8 a4 a9 b0 b2 b1,wx.heap[b5]?=some (.cells #[.string x.name,.bool x.was,.bool x.is,.slice a8 a4 a9,.slice b0 b2 b1] 73 (0,0))∧OwnB wx wr.heap.size (.slice a8 a4 a9) ([]++x.old)∧OwnB wx wr.heap.size (.slice b0 b2 b1) ([]++x.new)∧U0 wr wx)
   case first=>
    refine Zj 9 (fun W=>W.heap[b5]?=some (.cells #[.string x.name,.bool x.was,.bool x.is,.slice oa x.old.length oc,.slice na x.new.length nc] 73 (0,0))) [false,false,false,false,false,false,false,false,false,false,false,false] rfl (by kernel_rfl) ?_
    generalize w3.drew=wd at hA HU ⊢
    refine tpZ 1 (.pointer (some ⟨b5,3,none⟩)) hA ?_
    simp only[zz]
    refine tqZ 2 (.slice oa x.old.length oc) [] hA (fun w5 q1=>?_) ?_
    ·obtain⟨x0,x1,x2,x3,x4⟩:=Zu q1
     go_simp
    simp only[zz]
    refine tpZ 5 (.pointer (some ⟨b5,4,none⟩)) hA ?_
    simp only[zz]
    refine tqZ 6 (.slice na x.new.length nc) [] hA (fun w5 q1=>?_) ?_
    ·obtain⟨x0,x1,x2,x3,x4⟩:=Zu q1
     go_simp
    simp only[zz]
    refine Ya (i:=0) (j:=4) rfl rfl (by kernel_rfl) rfl rfl (fun K hK=>?_) (fun K hK=>?_)
    ·have a2:=V hK
     clear hK
     go_step
     have ua:U0 wd (wd.alloc (.cells #[] 5)):=(Upd.refl _ _).alloc _
     have a0:=V (Zc4 wd HU.o.size)
     have hA:=kb ua hA
     have HU:=V (HU.o.trans ua)
     refine a2.o _ _ hA ?_
     clear a2 ua
     simp only[zz]
     generalize wd.alloc (.cells #[] 5)=wd1 at a0 hA HU ⊢
     refine Ya (i:=3) (j:=4) rfl rfl (by kernel_rfl) rfl rfl (fun K hK=>?_) (fun K hK=>?_)
     ·have a2:=V hK
      clear hK
      refine Zcc (.tmp 18) (.tmp 20) rfl rfl a0.o rfl (H5.o.kept HU.o) (by simp only[List.length_nil];omega) HU.o.size ?_
      intro v1 c1 g1 g2 g3
      obtain⟨a8,a4,a9,rfl⟩:=g1.bytesAt.1.slice'
      have hA:=(g2.block _ (Za hA) (fun e=>Zt a0.o hA (by decide) _ e rfl)).trans hA
      have HU:=V (HU.o.step g2 (fun j hj e=>by have:=(a0.o.lt j e).1;omega))
      have a0:=V g1
      refine a2.o _ _ hA ?_
      clear a2 g1 g2 g3
      simp only[zz]
      refine tpZ 8 (.pointer (some ⟨b5,3,none⟩)) hA ?_
      simp only[zz]
      refine doZ 4 (fun K a2=>?_)
      go_step
      have ua:U0 c1 (c1.alloc (.cells #[] 5)):=(Upd.refl _ _).alloc _
      have a1:=V (Zc4 c1 HU.o.size)
      have hA:=kb ua hA
      have b6:RowKit.Hid (∀k,(Value.slice a8 a4 a9).ownBlock=some k→ ¬(Value.slice (some ⟨c1.heap.size,0,none⟩) 0 0).ownBlock=some k):=V (fun k h1 h2=>by have:=(a0.o.lt k h1).2;simp[Value.ownBlock] at h2;omega)
      have a0:=V (OwnB.keptF a0.o ua n3Z)
      have HU:=V (HU.o.trans ua)
      refine a2.o _ _ hA ?_
      clear a2 ua
      simp only[zz]
      generalize c1.alloc (.cells #[] 5)=wd1a2 at a1 hA HU a0 ⊢
      refine doZ 7 (fun K a2=>?_)
      refine Zcc (.tmp 22) (.tmp 24) rfl rfl a1.o rfl (H6.o.kept HU.o) (by simp only[List.length_nil];omega) HU.o.size ?_
      intro v2 a5 g1 g2 g3
      obtain⟨b0,b2,b1,rfl⟩:=g1.bytesAt.1.slice'
      have hA:=(g2.block _ (Za hA) (fun e=>Zt a1.o hA (by decide) _ e rfl)).trans hA
      have a3:RowKit.Hid (∀k,(Value.slice a8 a4 a9).ownBlock=some k→ ¬(Value.slice b0 b2 b1).ownBlock=some k):=V (fun k h1 h2=>by
       rcases g3 with g3 | g3
       ·exact b6.o k h1 (g3 ▸ h2)
       ·have:=(a0.o.lt k h1).2;rw[g3] at h2;injection h2;omega)
      have a0:=V (OwnB.keptF a0.o g2 (fun k hk e=>b6.o k hk e))
      have b6:=a3
      clear a3
      have HU:=V (HU.o.step g2 (fun j hj e=>by have:=(a1.o.lt j e).1;omega))
      have a1:=V g1
      refine a2.o _ _ hA ?_
      clear a2 g1 g2 g3
      simp only[zz]
      refine tlZ 9 ?_
      simp only[List.drop]
      obtain⟨x0,x1,x2,x3,x4⟩:=Zu hA
      have f3:a5.frozen? ⟨b5,3,none⟩=false:=Zb hA
      have f4:a5.frozen? ⟨b5,4,none⟩=false:=Zb hA
      have HX:=V hA
      clear hA
      go_wp2
      go_meet
      case rel=>
       obtain⟨w9,b8⟩: ∃w9,w9=(a5.setCell ⟨b5,3,none⟩ (.slice a8 a4 a9)).setCell ⟨b5,4,none⟩ (.slice b0 b2 b1):=⟨_,rfl⟩
       rw[←b8]
       have c2:Upd (fun k=>k=b5) a5 w9:=by rw[b8];exact(Zd a5 b5 3 _).trans (Zd _ b5 4 _)
       have f6:w9.heap[b5]?=some (.cells #[.string x.name,.bool x.was,.bool x.is,.slice a8 a4 a9,.slice b0 b2 b1] 73 (0,0)):=by
        rw[b8]
        have:=Ze (i:=4) (v:=.slice b0 b2 b1) (Ze (i:=3) (v:=.slice a8 a4 a9) HX.o)
        simpa using this
       exact⟨rfl,a8,a4,a9,b0,b2,b1,f6,OwnB.keptF a0.o c2 (fun k hk=>Zt a0.o HX.o (by decide) k hk),OwnB.keptF a1.o c2 (fun k hk=>Zt a1.o HX.o (by decide) k hk),HU.o.step c2 (fun k hk e=>by have:=j4.o;omega)⟩
     ·have a2:=V hK
      clear hK
      go_step
      have ua:U0 wd1 (wd1.alloc (.cells #[] 5)):=(Upd.refl _ _).alloc _
      have a1:=V (Zc4 wd1 HU.o.size)
      have hA:=kb ua hA
      have b6:RowKit.Hid (∀k,(Value.slice (some ⟨wd.heap.size,0,none⟩) 0 0).ownBlock=some k→ ¬(Value.slice (some ⟨wd1.heap.size,0,none⟩) 0 0).ownBlock=some k):=V (fun k h1 h2=>by have:=(a0.o.lt k h1).2;simp[Value.ownBlock] at h2;omega)
      have a0:=V (OwnB.keptF a0.o ua n3Z)
      have HU:=V (HU.o.trans ua)
      refine a2.o _ _ hA ?_
      clear a2 ua
      simp only[zz]
      generalize wd1.alloc (.cells #[] 5)=wd12 at a1 hA HU a0 ⊢
      refine doZ 3 (fun K a2=>?_)
      refine Zcc (.tmp 18) (.tmp 20) rfl rfl a0.o rfl (H5.o.kept HU.o) (by simp only[List.length_nil];omega) HU.o.size ?_
      intro v1 n3 g1 g2 g3
      obtain⟨a8,a4,a9,rfl⟩:=g1.bytesAt.1.slice'
      have hA:=(g2.block _ (Za hA) (fun e=>Zt a0.o hA (by decide) _ e rfl)).trans hA
      have a3:RowKit.Hid (∀k,(Value.slice a8 a4 a9).ownBlock=some k→ ¬(Value.slice (some ⟨wd1.heap.size,0,none⟩) 0 0).ownBlock=some k):=V (fun k h1 h2=>by
       rcases g3 with g3 | g3
       ·exact b6.o k (g3 ▸ h1) h2
       ·have:=(a1.o.lt k h2).2;rw[g3] at h1;injection h1;omega)
      have a1:=V (OwnB.keptF a1.o g2 (fun k hk e=>b6.o k e hk))
      have b6:=a3
      clear a3
      have HU:=V (HU.o.step g2 (fun j hj e=>by have:=(a0.o.lt j e).1;omega))
      have a0:=V g1
      refine a2.o _ _ hA ?_
      clear a2 g1 g2 g3
      simp only[zz]
      refine tpZ 8 (.pointer (some ⟨b5,3,none⟩)) hA ?_
      simp only[zz]
      refine doZ 7 (fun K a2=>?_)
      refine Zcc (.tmp 22) (.tmp 24) rfl rfl a1.o rfl (H6.o.kept HU.o) (by simp only[List.length_nil];omega) HU.o.size ?_
      intro v2 a7 g1 g2 g3
      obtain⟨b0,b2,b1,rfl⟩:=g1.bytesAt.1.slice'
      have hA:=(g2.block _ (Za hA) (fun e=>Zt a1.o hA (by decide) _ e rfl)).trans hA
      have a3:RowKit.Hid (∀k,(Value.slice a8 a4 a9).ownBlock=some k→ ¬(Value.slice b0 b2 b1).ownBlock=some k):=V (fun k h1 h2=>by
       rcases g3 with g3 | g3
       ·exact b6.o k h1 (g3 ▸ h2)
       ·have:=(a0.o.lt k h1).2;rw[g3] at h2;injection h2;omega)
      have a0:=V (OwnB.keptF a0.o g2 (fun k hk e=>b6.o k hk e))
      have b6:=a3
      clear a3
      have HU:=V (HU.o.step g2 (fun j hj e=>by have:=(a1.o.lt j e).1;omega))
      have a1:=V g1
      refine a2.o _ _ hA ?_
      clear a2 g1 g2 g3
      simp only[zz]
      refine tlZ 9 ?_
      simp only[List.drop]
      obtain⟨x0,x1,x2,x3,x4⟩:=Zu hA
      have f3:a7.frozen? ⟨b5,3,none⟩=false:=Zb hA
      have f4:a7.frozen? ⟨b5,4,none⟩=false:=Zb hA
      have HX:=V hA
      clear hA
      go_wp2
      go_meet
      case rel=>
       obtain⟨w9,b8⟩: ∃w9,w9=(a7.setCell ⟨b5,3,none⟩ (.slice a8 a4 a9)).setCell ⟨b5,4,none⟩ (.slice b0 b2 b1):=⟨_,rfl⟩
       rw[←b8]
       have c2:Upd (fun k=>k=b5) a7 w9:=by rw[b8];exact(Zd a7 b5 3 _).trans (Zd _ b5 4 _)
       have f6:w9.heap[b5]?=some (.cells #[.string x.name,.bool x.was,.bool x.is,.slice a8 a4 a9,.slice b0 b2 b1] 73 (0,0)):=by
        rw[b8]
        have:=Ze (i:=4) (v:=.slice b0 b2 b1) (Ze (i:=3) (v:=.slice a8 a4 a9) HX.o)
        simpa using this
       exact⟨rfl,a8,a4,a9,b0,b2,b1,f6,OwnB.keptF a0.o c2 (fun k hk=>Zt a0.o HX.o (by decide) k hk),OwnB.keptF a1.o c2 (fun k hk=>Zt a1.o HX.o (by decide) k hk),HU.o.step c2 (fun k hk e=>by have:=j4.o;omega)⟩
    ·have a2:=V hK
     clear hK
     go_step
     have ua:U0 wd (wd.alloc (.cells #[] 5)):=(Upd.refl _ _).alloc _
     have a1:=V (Zc4 wd HU.o.size)
     have hA:=kb ua hA
     have HU:=V (HU.o.trans ua)
     refine a2.o _ _ hA ?_
     clear a2 ua
     simp only[zz]
     generalize wd.alloc (.cells #[] 5)=wd2 at a1 hA HU ⊢
     refine doZ 0 (fun K a2=>?_)
     go_step
     have ua:U0 wd2 (wd2.alloc (.cells #[] 5)):=(Upd.refl _ _).alloc _
     have a0:=V (Zc4 wd2 HU.o.size)
     have hA:=kb ua hA
     have b6:RowKit.Hid (∀k,(Value.slice (some ⟨wd2.heap.size,0,none⟩) 0 0).ownBlock=some k→ ¬(Value.slice (some ⟨wd.heap.size,0,none⟩) 0 0).ownBlock=some k):=V (fun k h1 h2=>by have:=(a1.o.lt k h2).2;simp[Value.ownBlock] at h1;omega)
     have a1:=V (OwnB.keptF a1.o ua n3Z)
     have HU:=V (HU.o.trans ua)
     refine a2.o _ _ hA ?_
     clear a2 ua
     simp only[zz]
     generalize wd2.alloc (.cells #[] 5)=wd21 at a0 hA HU a1 ⊢
     refine doZ 3 (fun K a2=>?_)
     refine Zcc (.tmp 18) (.tmp 20) rfl rfl a0.o rfl (H5.o.kept HU.o) (by simp only[List.length_nil];omega) HU.o.size ?_
     intro v1 m5 g1 g2 g3
     obtain⟨a8,a4,a9,rfl⟩:=g1.bytesAt.1.slice'
     have hA:=(g2.block _ (Za hA) (fun e=>Zt a0.o hA (by decide) _ e rfl)).trans hA
     have a3:RowKit.Hid (∀k,(Value.slice a8 a4 a9).ownBlock=some k→ ¬(Value.slice (some ⟨wd.heap.size,0,none⟩) 0 0).ownBlock=some k):=V (fun k h1 h2=>by
      rcases g3 with g3 | g3
      ·exact b6.o k (g3 ▸ h1) h2
      ·have:=(a1.o.lt k h2).2;rw[g3] at h1;injection h1;omega)
     have a1:=V (OwnB.keptF a1.o g2 (fun k hk e=>b6.o k e hk))
     have b6:=a3
     clear a3
     have HU:=V (HU.o.step g2 (fun j hj e=>by have:=(a0.o.lt j e).1;omega))
     have a0:=V g1
     refine a2.o _ _ hA ?_
     clear a2 g1 g2 g3
     simp only[zz]
     refine tpZ 8 (.pointer (some ⟨b5,3,none⟩)) hA ?_
     simp only[zz]
     refine doZ 7 (fun K a2=>?_)
     refine Zcc (.tmp 22) (.tmp 24) rfl rfl a1.o rfl (H6.o.kept HU.o) (by simp only[List.length_nil];omega) HU.o.size ?_
     intro v2 a6 g1 g2 g3
     obtain⟨b0,b2,b1,rfl⟩:=g1.bytesAt.1.slice'
     have hA:=(g2.block _ (Za hA) (fun e=>Zt a1.o hA (by decide) _ e rfl)).trans hA
     have a3:RowKit.Hid (∀k,(Value.slice a8 a4 a9).ownBlock=some k→ ¬(Value.slice b0 b2 b1).ownBlock=some k):=V (fun k h1 h2=>by
      rcases g3 with g3 | g3
      ·exact b6.o k h1 (g3 ▸ h2)
      ·have:=(a0.o.lt k h1).2;rw[g3] at h2;injection h2;omega)
     have a0:=V (OwnB.keptF a0.o g2 (fun k hk e=>b6.o k hk e))
     have b6:=a3
     clear a3
     have HU:=V (HU.o.step g2 (fun j hj e=>by have:=(a1.o.lt j e).1;omega))
     have a1:=V g1
     refine a2.o _ _ hA ?_
     clear a2 g1 g2 g3
     simp only[zz]
     refine tlZ 9 ?_
     simp only[List.drop]
     obtain⟨x0,x1,x2,x3,x4⟩:=Zu hA
     have f3:a6.frozen? ⟨b5,3,none⟩=false:=Zb hA
     have f4:a6.frozen? ⟨b5,4,none⟩=false:=Zb hA
     have HX:=V hA
     clear hA
     go_wp2
     go_meet
     case rel=>
      obtain⟨w9,b8⟩: ∃w9,w9=(a6.setCell ⟨b5,3,none⟩ (.slice a8 a4 a9)).setCell ⟨b5,4,none⟩ (.slice b0 b2 b1):=⟨_,rfl⟩
      rw[←b8]
      have c2:Upd (fun k=>k=b5) a6 w9:=by rw[b8];exact(Zd a6 b5 3 _).trans (Zd _ b5 4 _)
      have f6:w9.heap[b5]?=some (.cells #[.string x.name,.bool x.was,.bool x.is,.slice a8 a4 a9,.slice b0 b2 b1] 73 (0,0)):=by
       rw[b8]
       have:=Ze (i:=4) (v:=.slice b0 b2 b1) (Ze (i:=3) (v:=.slice a8 a4 a9) HX.o)
       simpa using this
      exact⟨rfl,a8,a4,a9,b0,b2,b1,f6,OwnB.keptF a0.o c2 (fun k hk=>Zt a0.o HX.o (by decide) k hk),OwnB.keptF a1.o c2 (fun k hk=>Zt a1.o HX.o (by decide) k hk),HU.o.step c2 (fun k hk e=>by have:=j4.o;omega)⟩
   case rest=>
    obtain⟨rfl,ua,um,uc,d6,d7,d2,d5,j5,i5,hu⟩:=hcut
    simp only[List.nil_append] at j5 i5
    obtain⟨m1,l9,m3⟩:=j5.bytesAt
    obtain⟨m2,k4,m7⟩:=i5.bytesAt
    have M1:=V m1;have m6:=V l9;have n7:=V m3
    have M2:=V m2;have l6:=V k4;have o0:=V m7
    obtain⟨ob,g8⟩: ∃ob,ob=w.heap.size+2:=⟨_,rfl⟩
    obtain⟨C,la,lc,c7,c0,f8,e2⟩:=HD.o.out
    rw[h9.o] at c7 c0
    rw[←g8] at c7 c0 e2
    rw[←g8]
    have n9:ob<wr.heap.size:=Za c7
    have d9:=kb hu c7
    have c8:=c0.kept hu (fun k hk e=>e) (fun k hk e=>e)
    have f0:=f8.kept hu (fun k hk e=>e)
    obtain⟨x0,x1,x2,x3,x4⟩:=Zu d5
    have y2:=(Zk d9).2.2
    have l2:=V d9;have b4:=V c8;have g9:=V f0;have e9:=V e2
    have HU:=V hu;have HX:=V d5;have b9:=V g8
    clear m1 m2 l9 k4 m3 m7 j5 i5 d5 hu c7 c0 f8 e2 d9 c8 f0 g8 H5 H6
    iterate 14 go_step
    obtain⟨L,k1,i2,i8,k6⟩:=b4.o
    rw[h9.o] at i2
    have h8:=i2.lt
    have o6:ob<wc.heap.size:=Za l2.o
    have i9:elC (x,.slice ua um uc,.slice d6 d7 d2)=[.string x.name,.bool x.was,.bool x.is,.slice ua um uc,.slice d6 d7 d2]:=rfl
    obtain⟨i0,m8,k7,g0,m0⟩:=info_parts Tryz.info73p
    refine wpList_append_lies _ rfl (.tmp 29) (.tmp 31) 54 rfl (ob+1) 73 i0 _ 5 72 Tryz.underlying54 m8 k7 g0 m0 rfl (by omega) (.slice la k lc) _ _ rfl (i2.alloc _) ⟨wc.heap.size,0,none⟩ 1 1 (elC (x,.slice ua um uc,.slice d6 d7 d2)) rfl
     rfl (World.news_of_block (cs:=(elC (x,.slice ua um uc,.slice d6 d7 d2)).toArray) (t:=73) (fr:=(0,0)) (by rw[i9];exact heap_alloc_new _ _)) (by rw[i9];simp[Value.oneCell']) (by omega) (by unfold maxLen;omega) (by omega) (by simp;omega) (wc.heap.size+1) (by simp) ?_
    intro g f9 d8 f7 c5 n2 o8
    have b3:Upd (fun k'=>(Value.slice la k lc).ownBlock=some k') wc d8:=((Upd.refl _ wc).alloc _).trans (Upd.of_grown c5 (fun k hk=>hk))
    have b7:=(b3.block _ o6 (fun e=>by have:=h8 ob e;omega)).trans l2.o
    have n4:ob<g:=by
     rcases n2 with e | e
     ·have:=h8 g e;omega
     ·omega
    have y2:=(Zk b7).2.2
    have g2:d8.frozen? ⟨ob,2,none⟩=false:=Zb b7
    have j1:=b4.o.apart g9.o
    have g6:=b4.o.apart m6.out
    have g5:=b4.o.apart l6.out
    obtain⟨C',e1⟩: ∃C':Nat→Prop,C'=fun k=>C k∨(Value.slice ua um uc).ownBlock=some k∨(Value.slice d6 d7 d2).ownBlock=some k:=⟨_,rfl⟩
    have j9: ∀k,C k→C' k:=fun k hk=>by rw[e1];exact .inl hk
    have l0: ∀k,(Value.slice ua um uc).ownBlock=some k→C' k:=fun k hk=>by rw[e1];exact .inr (.inl hk)
    have l4: ∀k,(Value.slice d6 d7 d2).ownBlock=some k→C' k:=fun k hk=>by rw[e1];exact .inr (.inr hk)
    have i7:RowC wc C':=fun k hk=>by
     rw[e1] at hk
     rcases hk with hk | hk | hk
     ·exact g9.o k hk
     ·exact m6.out k hk
     ·exact l6.out k hk
    have f5: ∀k,C' k→ob<k:=fun k hk=>by
     rw[e1] at hk
     rcases hk with hk | hk | hk
     ·exact e9.o k hk
     ·have:=n7.out k hk;omega
     ·have:=o0.out k hk;omega
    have f1:=b4.o.apart i7
    have g4:SetRow d8 (ob+1) C' (.slice (some ⟨g,0,none⟩) (k+1) f9) (B.sets.take k++[x]):=by
     refine⟨L++[(x,.slice ua um uc,.slice d6 d7 d2)],by rw[List.map_append,k1];rfl,?_,fun y hy=>?_,fun y hy=>?_⟩
     ·rw[List.flatMap_append,List.length_append,h9.o]
      simpa using f7
     ·rw[List.mem_append] at hy
      rcases hy with hy | hy
      ·exact⟨((i8 y hy).1.kept b3 j1).mono j9,((i8 y hy).2.kept b3 j1).mono j9⟩
      ·simp only[List.mem_singleton] at hy
       subst hy
       exact⟨(M1.out.kept b3 g6).mono l0,(M2.out.kept b3 g5).mono l4⟩
     ·rw[List.mem_append] at hy
      rcases hy with hy | hy
      ·exact k6 y hy
      ·simp only[List.mem_singleton] at hy
       subst hy
       exact o3.o
    have c6:RowC d8 C':=i7.kept b3 f1
    have j0:=V g4;have e3:=V b7;have e5:=V b3;have i4:=V h8;have e4:=V c6;have d4:=V f5
    clear g4 b7 b3 j1 g6 g5 f1 f7 c5 n2 m8 k7 g0 m0 k1 i2 i8 k6 h8 i9 x0 x1 x2 x3 x4 e1 j9 l0 l4 i7 c6 f5
    have o2:IntKind.i64.wrap ((k:Int)+1)=(k:Int)+1:=by rw[IntKind.wrap_i64];omega
    go_wp2
    obtain⟨c9,d3⟩: ∃c9,c9=d8.setCell ⟨ob,2,none⟩ (.slice (some ⟨g,0,none⟩) (k+1) f9):=⟨_,rfl⟩
    rw[←d3]
    have c3:Upd (fun k=>k=ob) d8 c9:=by rw[d3];exact Zd d8 ob 2 _
    have f2:c9.heap[ob]?=some (.cells #[.int .u64 B.epoch,.bool B.large,.slice (some ⟨g,0,none⟩) (k+1) f9] 56 (0,0)):=by
     rw[d3]
     have:=Ze (i:=2) (v:=.slice (some ⟨g,0,none⟩) (k+1) f9) e3.o
     simpa using this
    have j2:(B.sets.take (k+1)).length=k+1:=by rw[d0.o];simp[h9.o]
    have n1: ∀j,j≤ob→ ¬(Value.slice la k lc).ownBlock=some j:=fun j hj e=>by have:=i4.o j e;omega
    have n6:w.heap.size<ob:=by have:=b9.o;omega
    have n5:CpAt w B.epoch B.large (B.sets.take (k+1)) c9:=by
     have e7: ∃(C:Nat→Prop) (a:Option Addr) (c:Nat),c9.heap[ob]?=some (.cells #[.int .u64 B.epoch,.bool B.large,.slice a (B.sets.take (k+1)).length c] 56 (0,0))∧SetRow c9 (ob+1) C (.slice a (B.sets.take (k+1)).length c) (B.sets.take (k+1))∧RowC c9 C∧ ∀k,C k→ob<k:=by
      rw[j2,d0.o]
      exact⟨C',_,_,f2,j0.o.kept c3 (fun j hj e=>by simp[Value.ownBlock] at hj;omega) (fun j hj e=>by have:=d4.o j hj;omega),e4.o.kept c3 (fun j hj e=>by have:=d4.o j hj;omega),d4.o⟩
     rw[b9.o] at e7
     refine⟨e7,?_,?_⟩
     ·have r1:=kb HU.o HD.o.res
      have r2:=(e5.o.block _ (Za r1) (n1 _ (by have:=b9.o;omega))).trans r1
      exact(c3.block _ (Za r2) (by have:=b9.o;omega)).trans r2
     ·exact(((HD.o.upd.trans HU.o).step e5.o (fun j hj=>n1 j (by omega)))).step c3 (fun j hj e=>by omega)
    rw[b9.o]
    go_roundg (B.sets.length - (k+1))
    case measure=>omega
    case rel=>exact⟨k+1,by omega,rfl,congrArg _ (by omega),n5⟩
  ·obtain rfl:k=B.sets.length:=by omega
   have hd:=HD.o
   rw[List.take_length] at hd
   obtain⟨⟨C,la,lc,c7,c0,f8,e2⟩,hr,hu⟩:=hd
   obtain⟨y0,y1,y2⟩:=Zk c7
   have e6:B.sets.length≤lc:=by
    obtain⟨L,_,q,_⟩:=c0
    rcases q.2 with ⟨e,_⟩ | ⟨g,f9,o7,e,_,_,m1,_⟩
    ·injection e with _ e;omega
    ·injection e with _ _ e;omega
   have e8:=V hr;have HU:=V hu;have b4:=V c0;have g9:=V f8;have e9:=V e2;have j7:=V e6
   clear c7 c0 f8 e2 hr hu HD e6
   go_upto_region 8 with fail
   iterate 4 go_step
   refine wpList_store_mid rfl 56 (.tmp 2) (.tmp 35) rfl (w.heap.size+1) 0 #[.int .u64 B.epoch,.bool B.large,.slice la B.sets.length lc] rfl rfl (by have q:=Zq e8.o;exact q) Z9 (by simp[Value.oneCell']) ?_
   have l3:=Zi (vs:=[.int .u64 B.epoch,.bool B.large,.slice la B.sets.length lc]) e8.o rfl
   have d1:=Upd.setCells (F:=fun k=>k=w.heap.size+1) (b:=w.heap.size+1) rfl [.int .u64 B.epoch,.bool B.large,.slice la B.sets.length lc] 0 (Upd.refl _ wr)
   have l1:=run_loadVar_mid (P:=Tryz.prog) (wr.setCells (w.heap.size+1) 0 [.int .u64 B.epoch,.bool B.large,.slice la B.sets.length lc]) (w.heap.size+1) 0 56 [.int .u64 B.epoch,.bool B.large,.slice la B.sets.length lc] _ (Zh l3) Tryz.underlying56 rfl Z9
   have o1:=V l1;have i6:=V d1
   clear l3 d1 l1
   go_wp2
   refine bodyPost_ret (Yt Tryz.results20 rfl o1.o) rfl ?_
   have j3:=b4.o.kept i6.o (fun j hj e=>by
    obtain⟨L,_,q,_⟩:=b4.o
    have:=(q.lt j hj).1
    omega) (fun j hj e=>by have:=e9.o j hj;omega)
   have o5:=g9.o.kept i6.o (fun j hj e=>by have:=e9.o j hj;omega)
   refine⟨la,lc,rfl,⟨C,j3.low (by omega),o5,fun j hj=>by have:=e9.o j hj;omega⟩,j7.o,HU.o.step i6.o (fun j hj e=>by omega)⟩
end
section
open Go.RowKit
theorem Zdt (D:Dk)(i:Int)(wr:Bool):(D.callD i wr).arr=D.arr∧(D.callD i wr).row=D.row:=by
 unfold Dk.callD
 split
 ·exact⟨rfl,rfl⟩
 ·split
  ·exact⟨rfl,rfl⟩
  ·split
   ·exact⟨rfl,rfl⟩
   ·split<;> exact⟨rfl,rfl⟩
theorem Ziy (D:Dk)(i:Int)(b:List Int):(D.write i b).arr.length=D.arr.length:=by
 unfold Dk.write
 split
 ·show(D.callD i true).arr.length=_
  rw[(Zdt D i true).1]
 ·rw[(Zdt D i true).1]
theorem Zrb (D:Dk):D.sync.arr.length=D.arr.length:=by
 unfold Dk.sync
 split
 ·show((List.range (D.callD 0 true).arr.length).map _).length=_
  rw[(Zdt D 0 true).1];simp
 ·rw[(Zdt D 0 true).1]
theorem Zch: ∀(l:List (Int×List Int)) (D:Dk),(D.lays l).arr.length=D.arr.length
 | [],D=>Zrb D
 | (i,b) :: l,D=>by
  unfold Dk.lays
  split
  ·rw[Zch l,Ziy]
  ·exact Ziy D i b
/-! ### Sectors laid without an error -/
end
section
open Go.RowKit Go.Shelf
end
section
open Go.RowKit
end
end Go.Proofs.YtbimkhdiplnbfaaGreat
