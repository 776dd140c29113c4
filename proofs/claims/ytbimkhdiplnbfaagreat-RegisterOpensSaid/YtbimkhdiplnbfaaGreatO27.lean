/- Walks: Open. -/
import Derived.Test.YtbimkhdiplnbfaaGreatO19
import Derived.Test.YtbimkhdiplnbfaaGreatO24
import Derived.Sort.LoopGhostIn
import Derived.Sort.CutIn
import Derived.Maps.AppendAt
open Go.Lib (hid)
set_option linter.unusedVariables false
set_option linter.unusedSimpArgs false
namespace Go.Proofs.YtbimkhdiplnbfaaGreat
set_option maxRecDepth 1000000
set_option maxHeartbeats 16000000
section
open Go.RowKit Go.Shelf
def openL (hd:Hd)(ps:List (List Int))(D:Dk):Option Lg×Int×Dk:=
 if D.laysE [hd.laid]=0 then(some ⟨hd,ps,usedOf ps,false⟩,0,D.lays [hd.laid]) else(none,D.laysE [hd.laid],D.lays [hd.laid])
def openP (hd:Hd)(R:List (List Int)×Int×Dk):Option Lg×Int×Dk:=
 if R.2.1=0 then(if R.1=[]∨hd.turn=1073741824 then(none,140,R.2.2) else openL {hd with turn:=hd.turn+1} R.1 R.2.2) else(none,R.2.1,R.2.2)
noncomputable def openH (c:Hd×Bool)(D:Dk):Option Lg×Int×Dk:=
 if c.2=false∨(D.arr.length:Int)<2+2 * c.1.area then(none,140,D) else openP c.1 (foundD c.1 1001 [] 0 D)
noncomputable def openD (D:Dk):Option Lg×Int×Dk:=
 if D.callE 0 false=0 then
  if(D.callD 0 false).callE 1 false=0 then openH (countsF (D.reads 0) ((D.callD 0 false).reads 1)) ((D.callD 0 false).callD 1 false)
  else(none,(D.callD 0 false).callE 1 false,(D.callD 0 false).callD 1 false)
 else(none,D.callE 0 false,D.callD 0 false)
def OpenAns (w:World)(p:Nat)(F:Nat→Prop)(R:Option Lg×Int×Dk)(N:Nat)(e:Ending)(w':World):Prop:=
 ∃F',Dsk w' p R.2.2 F'∧(∀k,F' k→F k∨w.heap.size≤k)∧Upd F w w'∧R.2.2.Ok (N+1002000)∧match R.1 with
 |none=>e=.returned (.tuple #[.pointer none,.int .i64 R.2.1])
 |some X=> ∃q G',e=.returned (.tuple #[.pointer (some ⟨q,0,none⟩),.int .i64 0])∧Log w' q p X G'∧(∀k,G' k→w.heap.size≤k)∧(∀k,G' k→ ¬F' k)∧X.Ok
theorem heap_setCells_at {w:World}{b o:Nat}{t:TypeId}{old vs:List Value}(h:w.heap[b]?=some (.cells old.toArray t (0,0)))(hs:o+vs.length≤old.length):
  (w.setCells b o vs).heap[b]?=some (.cells (old.take o++vs++old.drop (o+vs.length)).toArray t (0,0)):=by
 rw[heap_setCells b t vs o w old.toArray h]
 have:=splice_fold vs 0 o old.toArray (by simpa using hs)
 congr 2
 apply Array.toList_inj.1
 rw[this]
 simp
theorem there_sub {w:World}{b o m:Nat}{cs:Array Value}{t:TypeId}(h:w.heap[b]?=some (.cells cs t (0,0)))(hs:o+m≤cs.size):w.there b o m:=fun j hj=>
 ⟨by rw[cell_of_heap h];simp;omega,frozen_of_heap h⟩
theorem rangeAt_sub {w:World}{b o:Nat}{cs ds:List Value}{t:TypeId}(h:w.heap[b]?=some (.cells cs.toArray t (0,0)))(hs:(cs.drop o).take ds.length=ds):w.rangeAt b o ds:=fun j v hj=>by
 rw[cell_of_heap h,List.getElem?_toArray]
 have hjl:=(List.getElem?_eq_some_iff.1 hj).1
 rw[←hs,List.getElem?_take_of_lt hjl,List.getElem?_drop] at hj
 exact hj
structure HdsAt (w:World) (p:Nat) (F:Nat→Prop) (a b:List Int) (D:Dk) (W:World):Prop where
 dsk:Dsk W p D F
 upd:Upd F w W
 two:W.heap[w.heap.size]?=some (.cells (bcells a++bcells b).toArray 209 (0,0))
 la:okBlk a
 lb:okBlk b
theorem HdsAt.kept {w W W':World}{p:Nat}{F G:Nat→Prop}{a b:List Int}{D:Dk}(h:HdsAt w p F a b D W)(hu:Upd G W W')(hG: ∀k,G k→w.heap.size<k)(hF: ∀k,F k→k<w.heap.size):HdsAt w p F a b D W':=
 ⟨h.dsk.kept hu (fun k h1 h2=>by have:=hG k h2;have:=hF k h1;omega),h.upd.step hu (fun k h1 h2=>by have:=hG k h2;omega),(hu.block _ (lt_of_heap h.two) (fun e=>by have:=hG _ e;omega)).trans h.two,h.la,h.lb⟩
theorem HdsAt.read {w W W':World}{p:Nat}{F:Nat→Prop}{a b:List Int}{D D':Dk}(h:HdsAt w p F a b D W)(hd':Dsk W' p D' F)(hu:Upd F W W')(hF: ∀k,F k→k<w.heap.size):HdsAt w p F a b D' W':=
 ⟨hd',h.upd.step hu (fun k _ h2=>h2),(hu.block _ (lt_of_heap h.two) (fun e=>by have:=hF _ e;omega)).trans h.two,h.la,h.lb⟩
def hdA (D:Dk)(k:Nat):List Int:=if k=0 then zblk else D.reads 0
def hdB (D:Dk)(k:Nat):List Int:=if k≤1 then zblk else(D.callD 0 false).reads 1
def hdD (D:Dk)(k:Nat):Dk:=if k=0 then D else if k=1 then D.callD 0 false else(D.callD 0 false).callD 1 false
theorem HdsAt.store {w W:World}{p:Nat}{F:Nat→Prop}{D:Dk}{k:Nat}{s:List Int}(h:HdsAt w p F (hdA D k) (hdB D k) (hdD D (k+1)) W)(hk:k<2)(hs:s=(hdD D k).reads (k:Int))(hl:okBlk s)(hF: ∀k,F k→k<w.heap.size):
  HdsAt w p F (hdA D (k+1)) (hdB D (k+1)) (hdD D (k+1)) (W.setCells w.heap.size (k * 64) (bcells s)):=by
 have hu:Upd (fun j=>j=w.heap.size) W (W.setCells w.heap.size (k * 64) (bcells s)):=Upd.setCells (F:=fun j=>j=w.heap.size) rfl _ _ (Upd.refl _ W)
 have la:=h.la.1;have lb:=h.lb.1
 have hsl:=hl.1
 have h2:=heap_setCells_at (o:=k * 64) (vs:=bcells s) h.two (by simp[bcells,la,lb,hsl];omega)
 have hd:=h.dsk.kept hu (fun j h1 h2=>by have:=hF j h1;omega)
 have hup:Upd F w (W.setCells w.heap.size (k * 64) (bcells s)):=h.upd.step hu (fun j h1 h2=>by omega)
 have hk2:k=0∨k=1:=by omega
 rcases hk2 with rfl | rfl
 ·refine⟨hd,hup,?_,by subst hs;exact hl,h.lb⟩
  rw[h2]
  have e1:(bcells (hdA D 0)++bcells (hdB D 0)).drop (0 * 64+(bcells s).length)=bcells (hdB D 0):=by
   rw[Nat.zero_mul,Nat.zero_add]
   exact List.drop_left' (by rw[bcells_length,bcells_length,la,hsl])
  rw[e1,hs]
  simp[hdA,hdB,hdD]
 ·refine⟨hd,hup,?_,h.la,by subst hs;exact hl⟩
  rw[h2]
  have e1:(bcells (hdA D 1)++bcells (hdB D 1)).drop (1 * 64+(bcells s).length)=[]:=by
   apply List.drop_eq_nil_of_le
   simp[bcells,la,lb,hsl]
  have e2:(bcells (hdA D 1)++bcells (hdB D 1)).take (1 * 64)=bcells (hdA D 1):=List.take_left' (by rw[bcells_length,la])
  rw[e1,e2,hs]
  simp[hdA,hdB,hdD]
theorem hdD_ok {D:Dk}{N:Nat}(h:D.Ok N)(k:Nat):(hdD D k).Ok (N+2):=by
 unfold hdD
 split
 ·exact Dk.Ok.mono h (by omega)
 ·split
  ·exact Dk.Ok.mono (h.callD _ _) (by omega)
  ·exact Dk.Ok.mono ((h.callD _ _).callD _ _) (by omega)
theorem hdD_next {D:Dk}{k:Nat}(hk:k<2):(hdD D k).callD (k:Int) false=hdD D (k+1):=by
 have hk2:k=0∨k=1:=by omega
 rcases hk2 with rfl | rfl<;> rfl
theorem openD_fails {D:Dk}{k:Nat}(hk:k<2)(h0:k=1→D.callE 0 false=0)(he:(hdD D k).callE (k:Int) false≠0):openD D=(none,(hdD D k).callE (k:Int) false,hdD D (k+1)):=by
 have hk2:k=0∨k=1:=by omega
 rcases hk2 with rfl | rfl
 ·unfold openD
  rw[if_neg (by exact he)]
  rfl
 ·unfold openD
  rw[if_pos (h0 rfl),if_neg (by exact he)]
  rfl
theorem Log.begin {w:World}{q p:Nat}{hd:Hd}(hq:w.heap[q]?=some (.cells #[.int .i64 hd.turn,.int .i64 hd.area,.int .i64 hd.place,.int .i64 hd.number,.pointer (some ⟨p,0,none⟩),.slice none 0 0,.int .i64 0,.bool false] 193 (0,0))):Log w q p ⟨hd,[],0,false⟩ (fun k=>k=q):=by
 refine⟨.slice none 0 0,[],⟨hq,World.ownsRow_nil _ _ _ _,fun i v b hv=>by simp at hv,fun k hk=>by simp[Value.ownBlock] at hk,fun v k hv=>by simp at hv⟩,fun k=>?_⟩
 simp[Gp,Value.ownBlock]
theorem Log.turned {w:World}{q p:Nat}{X:Lg}{G:Nat→Prop}(h:Log w q p X G)(t:Int):Log (w.setCell ⟨q,0,none⟩ (.int .i64 t)) q p {X with h:={X.h with turn:=t}} G:=by
 obtain⟨PV,vs,h1,h2⟩:=h
 have hu:=upd_own w q 0 (.int .i64 t)
 refine⟨PV,vs,⟨?_,ownsRow_any h1.row hu (fun k hk e=>h1.nq k hk e),fun i v b hv hb=>(h1.parts i v b hv hb).keptF hu (fun k hk e=>(h1.nv v k (List.mem_of_getElem? hv) hk).1 e),h1.nq,h1.nv⟩,h2⟩
 have:=blk_set (i:=0) (v:=.int .i64 t) h1.main
 simpa [Lg.cells] using this
theorem countsF_says {a b:List Int}(ha:Bytes a)(hb:Bytes b)(h:(countsF a b).2=true):(countsF a b).1.Says∧0≤(countsF a b).1.place:=by
 have hp: ∀s,Bytes s→0≤(readF s).place:=fun s hs=>be_nonneg (fun x hx=>hs x (List.mem_of_mem_drop hx))
 unfold countsF at h ⊢
 split at h
 ·rename_i h1
  rw[if_pos h1]
  exact⟨((hOk_iff a).1 h1.1).1,hp a ha⟩
 ·rename_i h1
  rw[if_neg h1]
  exact⟨((hOk_iff b).1 h).1,hp b hb⟩
theorem open_any {p:Nat}{F:Nat→Prop}{D:Dk}{N:Nat}(w:World)(hD:Dsk w p D F)(hdok:D.Ok N)(hN:N≤1099500000000):
  Calls Tryz.prog 61 #[.pointer (some ⟨p,0,none⟩)] w fun e w'=>OpenAns w p F (openD D) N e w':=by
 have hFL:=hD.lt
 obtain⟨R,hR⟩: ∃R,R=openD D:=⟨_,rfl⟩
 rw[←hR]
 have hu1:Upd (fun _=>False) w (w.alloc (.cells (bcells zblk++bcells zblk).toArray 209)):=(Upd.refl _ w).alloc _
 have hat:HdsAt w p F (hdA D 0) (hdB D 0) (hdD D 0) (w.alloc (.cells (bcells zblk++bcells zblk).toArray 209)):=⟨hD.kept hu1 (fun _ _ e=>e),hu1.mono (fun _ _ e=>e.elim),alloc_at rfl,zblk_ok,zblk_ok⟩
 obtain⟨w1,hw1⟩: ∃w1,w1=w.alloc (.cells (bcells zblk++bcells zblk).toArray 209):=⟨_,rfl⟩
 rw[←hw1] at hat
 have HAT:=hid hat;have HOK:=hid hdok;have HFL:=hid hFL;have HR:=hid hR
 clear hD hdok hFL hR hu1 hat
 go_enter Tryz.func61,Tryz.ntmps61
 go_upto_region 2 with fail
 refine(?_:Code.wp _ _ _ _ (w.alloc (.cells (bcells zblk++bcells zblk).toArray 209)))
 rw[←hw1]
 clear hw1
 go_upto_region 3 with fail
 go_loopg [13] 2 (fun gk i wr=> ∃k:Nat,k≤2∧gk=2 - k∧i=.int .i64 k∧(1≤k→D.callE 0 false=0)∧(2≤k→(D.callD 0 false).callE 1 false=0)∧HdsAt w p F (hdA D k) (hdB D k) (hdD D k) wr)
 case atStart=>exact⟨0,by omega,rfl,rfl,fun e=>by omega,fun e=>by omega,HAT.out⟩
 case round=>
  obtain⟨k,hk,rfl,rfl,hE0,hE1,hat⟩:=hrel
  obtain⟨wo,rfl⟩: ∃wo,wo=wr:=⟨_,rfl⟩
  have HA:=hid hat;have HE0:=hid hE0;have HE1:=hid hE1
  clear hat hE0 hE1 HAT
  by_cases hk2:k<2
  ·have hk2i:(k:Int)<2:=by omega
   go_wp2_with (go_at_call 17;fail)
   refine(read_any (k:Int) wo HA.out.dsk (Dk.Ok.mono (hdD_ok HOK.out k) (by omega))).mono ?_
   rintro e w3 ⟨rfl,hd3,hu3⟩
   rw[hdD_next hk2] at hd3
   have hat3:=HA.out.read hd3 hu3 HFL.out
   have hsb:=reads_blk (Dk.Ok.mono (hdD_ok HOK.out k) (show N+2≤1099511627774 by omega)) (k:Int)
   have hfail:=openD_fails (D:=D) hk2 (fun e=>HE0.out (by omega))
   obtain⟨s,hs⟩: ∃s,s=(hdD D k).reads (k:Int):=⟨_,rfl⟩
   obtain⟨E,hE⟩: ∃E,E=(hdD D k).callE (k:Int) false:=⟨_,rfl⟩
   rw[←hs] at hsb ⊢
   rw[←hE] at hfail ⊢
   obtain⟨f1,f2,f3⟩:=fresh56 w3 s hsb.1
   have HIS:RowKit.Hid ((Tryz.prog.info? 48).map (·.size)=some (bcells s).length):=hid (by rw[Tryz.info56p];simp[bcells,hsb.1])
   have H1B:=hid (all_oneCell_toArray (bcells_one s))
   have F1:=hid f1;have HSB:=hid f2;have HSL:=hid hsb;have HFAIL:=hid hfail;have HE:=hid hE;have HS:=hid hs
   have HA4:=hid (hat3.kept f3 (fun _ e=>e.elim) HFL.out)
   have HW3:RowKit.Hid (w.heap.size<w3.heap.size):=hid (lt_of_heap hat3.two)
   clear f1 f2 f3 hsb hu3 hd3 hat3 hfail hE hs HA
   simp only[]
   iterate 13 go_step
   refine(?_:wpList _ _ _ _ _ (w3.alloc (.cells (bcells zblk).toArray 48)))
   refine wpList_store_mid rfl 48 (.tmp 6) (.tmp 20) rfl w3.heap.size 0 (bcells s).toArray rfl rfl F1.out (by rw[HIS.out];simp) H1B.out ?_
   obtain⟨w4,hw4⟩: ∃w4,w4=(w3.alloc (.cells (bcells zblk).toArray 48)).setCells w3.heap.size 0 (bcells s):=⟨_,rfl⟩
   rw[←hw4] at HA4 HSB
   rw[show(bcells s).toArray.toList=bcells s from rfl,←hw4]
   clear hw4 F1
   obtain⟨gs,hgs⟩: ∃gs,gs=w3.heap.size:=⟨_,rfl⟩
   rw[←hgs] at HSB HW3 ⊢
   clear hgs
   by_cases hE0:E=0
   rotate_left
   ·have hEb:(E !=0)=true:=by simpa using hE0
    have HRE:=hid (HFAIL.out hE0)
    clear hE0
    go_wp2
    go_returns
    rw[HR.out,HRE.out]
    exact⟨F,HA4.out.dsk,fun k hk=>.inl hk,HA4.out.upd,Dk.Ok.mono (hdD_ok HOK.out (k+1)) (by omega),rfl⟩
   ·subst hE0
    go_upto_region 8 with fail
    have HNX:=hid (HA4.out.store hk2 HS.out HSL.out HFL.out)
    have HTH:=hid (there_sub (o:=k * 64) (m:=(bcells s).toArray.size) HA4.out.two (by have h1:=HA4.out.la.1;have h2:=HA4.out.lb.1;have h3:=HSL.out.1;simp[bcells,h1,h2,h3];omega))
    have HE0':RowKit.Hid (1≤k+1→D.callE 0 false=0):=hid (fun _=>by
     by_cases e:k=0
     ·have:=HE.out;rw[e] at this;exact this.symm
     ·exact HE0.out (by omega))
    have HE1':RowKit.Hid (2≤k+1→(D.callD 0 false).callE 1 false=0):=hid (fun e2=>by
     have e:k=1:=by omega
     have:=HE.out;rw[e] at this;exact this.symm)
    have hcase:k=0∨k=1:=by omega
    clear HE0 HE1 HE HS HFAIL
    rcases hcase with rfl | rfl
    ·iterate 4 go_step
     refine wpList_load_mid rfl 48 (.tmp 6) rfl gs 0 rfl (bcells s) _ (rangeAt_block HSB.out) Tryz.underlying48 rfl HIS.out ?_
     iterate 3 go_step
     refine wpList_store_mid rfl 48 (.tmp 27) (.tmp 26) rfl w.heap.size 0 (bcells s).toArray rfl rfl HTH.out (by rw[HIS.out];simp) H1B.out ?_
     obtain⟨w5,hw5⟩: ∃w5,w5=w4.setCells w.heap.size (0 * 64) (bcells s):=⟨_,rfl⟩
     rw[←hw5] at HNX
     refine(?_:wpList _ _ _ _ _ (w4.setCells w.heap.size (0 * 64) (bcells s)))
     rw[←hw5]
     clear hw5
     go_wp2
     go_roundg (2 - (0+1))
     case measure=>omega
     case rel=>exact⟨0+1,by omega,rfl,rfl,HE0'.out,HE1'.out,HNX.out⟩
    ·iterate 4 go_step
     refine wpList_load_mid rfl 48 (.tmp 6) rfl gs 0 rfl (bcells s) _ (rangeAt_block HSB.out) Tryz.underlying48 rfl HIS.out ?_
     iterate 3 go_step
     refine wpList_store_mid rfl 48 (.tmp 27) (.tmp 26) rfl w.heap.size 64 (bcells s).toArray rfl rfl HTH.out (by rw[HIS.out];simp) H1B.out ?_
     obtain⟨w5,hw5⟩: ∃w5,w5=w4.setCells w.heap.size (1 * 64) (bcells s):=⟨_,rfl⟩
     rw[←hw5] at HNX
     refine(?_:wpList _ _ _ _ _ (w4.setCells w.heap.size (1 * 64) (bcells s)))
     rw[←hw5]
     clear hw5
     go_wp2
     go_roundg (2 - (1+1))
     case measure=>omega
     case rel=>exact⟨1+1,by omega,rfl,rfl,HE0'.out,HE1'.out,HNX.out⟩
  ·obtain rfl:k=2:=by omega
   have hRH:R=openH (countsF (D.reads 0) ((D.callD 0 false).reads 1)) (hdD D 2):=by
    rw[HR.out];unfold openD
    rw[if_pos (HE0.out (by omega)),if_pos (HE1.out (by omega))]
    rfl
   have hA2:hdA D 2=D.reads 0:=rfl
   have hB2:hdB D 2=(D.callD 0 false).reads 1:=rfl
   have hdk:=hdD_ok HOK.out 2
   have hat:=HA.out
   rw[hA2,hB2] at hat
   obtain⟨a,ha⟩: ∃a,a=D.reads 0:=⟨_,rfl⟩
   obtain⟨b,hb⟩: ∃b,b=(D.callD 0 false).reads 1:=⟨_,rfl⟩
   obtain⟨D2,hD2⟩: ∃D2,D2=hdD D 2:=⟨_,rfl⟩
   rw[←ha,←hb,←hD2] at hRH
   rw[←ha,←hb,←hD2] at hat
   rw[←hD2] at hdk
   have hla:=hat.la.1;have hlb:=hat.lb.1
   have hra:=rangeAt_sub (o:=0) (ds:=bcells a) hat.two (by rw[List.drop_zero];exact List.take_left' rfl)
   have hrb:=rangeAt_sub (o:=64) (ds:=bcells b) hat.two (by rw[List.drop_left' (by rw[bcells_length,hla])];exact List.take_of_length_le (Nat.le_refl _))
   have HIA:RowKit.Hid ((Tryz.prog.info? 48).map (·.size)=some (bcells a).length):=hid (by rw[Tryz.info56p];simp[bcells,hla])
   have HIB:RowKit.Hid ((Tryz.prog.info? 48).map (·.size)=some (bcells b).length):=hid (by rw[Tryz.info56p];simp[bcells,hlb])
   have hcn:=counts_any wo hla hlb hat.la.2 hat.lb.2
   have hsy:=countsF_says hat.la.2 hat.lb.2
   obtain⟨cf,hcf⟩: ∃cf,cf=countsF a b:=⟨_,rfl⟩
   rw[←hcf] at hcn hsy hRH
   obtain⟨hh,cok⟩:=cf
   simp only at hcn hsy hRH
   have HRA:=hid hra;have HRB:=hid hrb;have HCN:=hid hcn;have HSY:=hid hsy;have HRH:=hid hRH;have HDK:=hid hdk;have HA2:=hid hat
   clear hRH hA2 hB2 hdk hat ha hb hD2 hla hlb hra hrb hcn hsy hcf HE0 HE1 HA HOK
   go_upto_region 10 with fail
   iterate 4 go_step
   refine wpList_load_mid rfl 48 (.tmp 30) rfl w.heap.size 0 rfl (bcells a) _ HRA.out Tryz.underlying48 rfl HIA.out ?_
   iterate 3 go_step
   refine wpList_load_mid rfl 48 (.tmp 32) rfl w.heap.size 64 rfl (bcells b) _ HRB.out Tryz.underlying48 rfl HIB.out ?_
   go_wp2_with (go_at_call 130;fail)
   refine HCN.out.mono ?_
   rintro e w6 ⟨rfl,hu6⟩
   have HA6:=hid (HA2.out.kept hu6 (fun _ e=>e.elim) HFL.out)
   clear hu6 HCN HRA HRB HIA HIB HA2
   simp only[Hd.val]
   go_upto_region 11 with fail
   obtain⟨bh,hbh⟩: ∃bh,bh=w6.heap.size:=⟨_,rfl⟩
   obtain⟨w7,hw7⟩: ∃w7,w7=w6.alloc (.cells #[.int .i64 hh.turn,.int .i64 hh.area,.int .i64 hh.place,.int .i64 hh.number] 184):=⟨_,rfl⟩
   have HBH:RowKit.Hid (w7.heap[bh]?=some (.cells #[.int .i64 hh.turn,.int .i64 hh.area,.int .i64 hh.place,.int .i64 hh.number] 184 (0,0))):=hid (by rw[hw7,hbh];exact alloc_at rfl)
   have HBG:RowKit.Hid (w.heap.size<bh):=hid (by rw[hbh];exact lt_of_heap HA6.out.two)
   have HA7:RowKit.Hid (HdsAt w p F a b D2 w7):=hid (by rw[hw7];exact HA6.out.kept ((Upd.refl (fun _=>False) w6).alloc _) (fun _ e=>e.elim) HFL.out)
   rw[←hbh,←hw7]
   have HD7:=hid HA7.out.dsk
   clear hbh hw7 HA6
   cases cok with
   |false=>
    have HRE:RowKit.Hid (R=(none,140,D2)):=hid (by rw[HRH.out];unfold openH;rw[if_pos (.inl rfl)])
    go_quiet (fail)
    go_wp2
    go_returns
    rw[HRE.out]
    have hun: ∀n,Upd (fun _=>False) w7 (w7.drewN n):=fun n=>⟨rfl,rfl,rfl,Nat.le_refl _,fun _ _ _=>rfl⟩
    exact⟨F,HA7.out.dsk.kept (hun _) (fun _ _ e=>e),fun k hk=>.inl hk,HA7.out.upd.trans ((hun _).mono (fun _ _ e=>e.elim)),Dk.Ok.mono HDK.out (by omega),rfl⟩
   |true=>
    obtain⟨hsays,hpl⟩:=HSY.out rfl
    have har:=hsays.area;have hnum:=hsays.number;have htu:=hsays.turn;have hpl2:=hsays.place
    have hA:Upd (fun _=>False) w7 w7.drew:=(Upd.refl _ w7).drew
    have hv1:IntKind.i64.wrap (2 * hh.area)=2 * hh.area:=by rw[IntKind.wrap_i64];omega
    have hv2:IntKind.i64.wrap (2+2 * hh.area)=2+2 * hh.area:=by rw[IntKind.wrap_i64];omega
    have HSAYS:=hid hsays
    clear hsays HSY
    refine wp_region_G 10 (fun W=>Upd (fun _=>False) w7 W) [false,false,false,false,false,false,false,false,false,false,false] rfl (by kernel_rfl) ?_
    refine tqZ 0 (.bool true) [2,1] hA (fun w5 q1=>?_) ?_
    ·go_simp
    simp only[pZ,nZ,bZ,List.set]
    refine tqZ 1 (.bool false) [2] hA (fun w5 q1=>?_) ?_
    ·go_simp
    simp only[pZ,nZ,bZ,List.set]
    refine tqZ 2 (.bool false) [] hA (fun w5 q1=>?_) ?_
    ·go_simp
    simp only[pZ,nZ,bZ,List.set]
    refine tqZ 3 (.pointer (some ⟨p,0,none⟩)) [9,4] hA (fun w5 q1=>?_) ?_
    ·go_simp
    simp only[pZ,nZ,bZ,List.set]
    refine tqZ 5 (.pointer (some ⟨bh,1,none⟩)) [9,8,7,6] hA (fun w5 q1=>?_) ?_
    ·go_simp
    simp only[pZ,nZ,bZ,List.set]
    refine tqZ 6 (.int .i64 hh.area) [9,8,7] hA (fun w5 q1=>?_) ?_
    ·have cc:w5.cell? ⟨bh,1,none⟩=some (.int .i64 hh.area):=by simp[World.cell?,(q1.block _ (lt_of_heap HBH.out) (fun e=>e)).trans HBH.out]
     go_simp
    simp only[pZ,nZ,bZ,List.set]
    refine tqZ 7 (.int .i64 (2 * hh.area)) [9,8] hA (fun w5 q1=>?_) ?_
    ·go_simp
    simp only[pZ,nZ,bZ,List.set]
    refine tqZ 8 (.int .i64 (2+2 * hh.area)) [9] hA (fun w5 q1=>?_) ?_
    ·go_simp
    simp only[pZ,nZ,bZ,List.set]
    refine wpG_doIf (i:=4) rfl (by kernel_rfl) rfl (fun K hK=>?_)
    have HKK:=hid hK
    clear hK
    go_step
    refine(len_any _ (HD7.out.kept hA (fun _ _ e=>e))).mono ?_
    rintro e w8 ⟨rfl,rfl⟩
    simp only[]
    refine HKK.out _ _ hA ?_
    clear HKK
    simp only[List.setIfInBounds_toArray,List.set]
    refine tqZ 9 (.bool (decide ((D2.arr.length:Int)<2+2 * hh.area))) [] hA (fun w5 q1=>?_) ?_
    ·go_simp
    simp only[pZ,nZ,bZ,List.set]
    refine wpG_tail_lit (k:=10) rfl rfl (by kernel_rfl) ?_
    simp only[List.drop]
    clear hv1 hv2
    have HA8:=hid (HA7.out.kept hA (fun _ e=>e.elim) HFL.out)
    have HBH8:=hid ((hA.block _ (lt_of_heap HBH.out) (fun e=>e)).trans HBH.out)
    clear hA HA7 HBH HD7
    obtain⟨w8,hw8⟩: ∃w8,w8=w7.drew:=⟨_,rfl⟩
    rw[←hw8] at HA8 HBH8 ⊢
    clear hw8
    by_cases hln:(D2.arr.length:Int)<2+2 * hh.area
    ·have hq:decide ((D2.arr.length:Int)<2+2 * hh.area)=true:=by simpa using hln
     have HRE:RowKit.Hid (R=(none,140,D2)):=hid (by rw[HRH.out];unfold openH;rw[if_pos (.inr hln)])
     go_wp2
     go_returns
     rw[HRE.out]
     exact⟨F,HA8.out.dsk,fun k hk=>.inl hk,HA8.out.upd,Dk.Ok.mono HDK.out (by omega),rfl⟩
    ·have hq:decide ((D2.arr.length:Int)<2+2 * hh.area)=false:=by simpa using hln
     have HRE:RowKit.Hid (R=openP hh (foundD hh 1001 [] 0 D2)):=hid (by rw[HRH.out];unfold openH;rw[if_neg (by simp;omega)])
     have c0:w8.cell? ⟨bh,0,none⟩=some (.int .i64 hh.turn):=by simp[World.cell?,HBH8.out]
     have c1:w8.cell? ⟨bh,1,none⟩=some (.int .i64 hh.area):=by simp[World.cell?,HBH8.out]
     have c2:w8.cell? ⟨bh,2,none⟩=some (.int .i64 hh.place):=by simp[World.cell?,HBH8.out]
     have c3:w8.cell? ⟨bh,3,none⟩=some (.int .i64 hh.number):=by simp[World.cell?,HBH8.out]
     go_wp2_with (go_at_call 131;fail)
     have hcf:=found_any (q:=w8.heap.size) (X:=⟨hh,[],0,false⟩) (G:=fun k=>k=w8.heap.size) (F:=F) (D:=D2) (N:=N+2) (p:=p) (w8.alloc (.cells #[.int .i64 hh.turn,.int .i64 hh.area,.int .i64 hh.place,.int .i64 hh.number,.pointer (some ⟨p,0,none⟩),.slice none 0 0,.int .i64 0,.bool false] 193))
      (Log.begin (alloc_at rfl)) ⟨by show 0≤hh.turn∧hh.turn≤_;omega,har,by show 0≤hh.place∧hh.place≤_;omega,by show 0≤hh.number∧hh.number≤_;omega,by show(0:Int)≤0∧(0:Int)≤1000;omega,by simp,fun b hb=>by simp at hb⟩ rfl (by show(0:Int)≤hh.area;omega) (by simp)
      (HA8.out.dsk.kept ((Upd.refl (fun _=>False) w8).alloc _) (fun _ _ e=>e)) HDK.out (by omega) (fun k hk e=>by have:=HFL.out k e;have:=lt_of_heap HA8.out.two;omega)
     have hu9:Upd (fun _=>False) w8 (w8.alloc (.cells #[.int .i64 hh.turn,.int .i64 hh.area,.int .i64 hh.place,.int .i64 hh.number,.pointer (some ⟨p,0,none⟩),.slice none 0 0,.int .i64 0,.bool false] 193)):=(Upd.refl _ w8).alloc _
     obtain⟨w9,hw9⟩: ∃w9,w9=w8.alloc (.cells #[.int .i64 hh.turn,.int .i64 hh.area,.int .i64 hh.place,.int .i64 hh.number,.pointer (some ⟨p,0,none⟩),.slice none 0 0,.int .i64 0,.bool false] 193):=⟨_,rfl⟩
     refine(?_:Calls _ _ _ (w8.alloc (.cells #[.int .i64 hh.turn,.int .i64 hh.area,.int .i64 hh.place,.int .i64 hh.number,.pointer (some ⟨p,0,none⟩),.slice none 0 0,.int .i64 0,.bool false] 193)) _)
     have hs9:w9.heap.size=w8.heap.size+1:=by rw[hw9];simp
     rw[←hw9] at hcf hu9 ⊢
     clear hw9
     obtain⟨q,hq0⟩: ∃q,q=w8.heap.size:=⟨_,rfl⟩
     have hqw:w.heap.size<q:=by rw[hq0];exact lt_of_heap HA8.out.two
     have hup9:Upd F w w9:=HA8.out.upd.trans (hu9.mono (fun _ _ e=>e.elim))
     have hqF: ¬F q:=fun e=>by have:=HFL.out q e;omega
     rw[←hq0] at hcf hs9 ⊢
     obtain⟨RF,hRF⟩: ∃RF,RF=foundD hh 1001 [] 0 D2:=⟨_,rfl⟩
     simp only at hcf
     rw[←hRF] at hcf HRE
     have HUP:=hid hup9;have HQF:=hid hqF;have HS9:=hid hs9
     clear hq0 hu9 hup9 hqF hs9 hRF HA8 HBH8 c0 c1 c2 c3 HRH HDK hq
     refine hcf.mono ?_
     clear hcf
     rintro e w10 ⟨Y,G',D',rfl,y1,y2,y3,y4,y5,y6,rfl,y8,y9,y10,y11,y12⟩
     have HUPA:RowKit.Hid (Upd F w w10):=hid (HUP.out.step y12 (fun k hk e=>e.elim (fun e=>by omega) id))
     have HGW:RowKit.Hid (∀k,G' k→w.heap.size≤k):=hid (fun k hk=>(y9 k hk).elim (fun e=>by omega) (fun e=>by have:=HS9.out;omega))
     have HGF:RowKit.Hid (∀k,G' k→ ¬F k):=hid (fun k hk e=>by have:=HGW.out k hk;have:=HFL.out k e;omega)
     have hyh:Y.h=hh:=y1
     have y8':=y8
     obtain⟨PV,vs,hl1,hl2⟩:=y8
     obtain⟨pa,pc,rfl⟩:=rowV hl1.row
     have HM:=hid hl1.main;have HLG:=hid y8';have HD10:=hid y10;have HK10:=hid y11;have HYP:=hid y3;have HYO:=hid y6;have HYH:=hid hyh;have HYU:=hid y4;have HYB:=hid y2
     clear y1 y2 y3 y4 y5 y6 y8' y9 y10 y11 y12 hl1 hl2 hyh HUP HS9
     simp only[]
     by_cases hE:RF.2.1=0
     rotate_left
     ·have hEb:(RF.2.1 !=0)=true:=by simpa using hE
      have HRE2:RowKit.Hid (R=(none,RF.2.1,RF.2.2)):=hid (by rw[HRE.out];unfold openP;rw[if_neg hE])
      clear hE
      go_wp2
      go_returns
      rw[HRE2.out]
      exact⟨F,HD10.out,fun k hk=>.inl hk,HUPA.out,Dk.Ok.mono HK10.out (by omega),rfl⟩
     ·have hEb:(RF.2.1 !=0)=false:=by simpa using hE
      have HRE2:RowKit.Hid (R=if RF.1=[]∨hh.turn=1073741824 then(none,140,RF.2.2) else openL {hh with turn:=hh.turn+1} RF.1 RF.2.2):=hid (by rw[HRE.out];unfold openP;rw[if_pos hE])
      have c0:w10.cell? ⟨q,0,none⟩=some (.int .i64 hh.turn):=by rw[←HYH.out];simp[World.cell?,HM.out,Lg.cells]
      have c5:w10.cell? ⟨q,5,none⟩=some (.slice pa Y.parts.length pc):=by simp[World.cell?,HM.out,Lg.cells]
      clear hE
      go_upto_region 17 with fail
      by_cases hp0:Y.parts=[]
      ·have hz:((Y.parts.length:Int) == 0)=true:=by rw[hp0];rfl
       have HRE3:RowKit.Hid (R=(none,140,RF.2.2)):=hid (by rw[HRE2.out,if_pos (.inl (by rw[←HYP.out,hp0]))])
       clear hp0
       go_wp2
       go_returns
       rw[HRE3.out]
       exact⟨F,HD10.out,fun k hk=>.inl hk,HUPA.out,Dk.Ok.mono HK10.out (by omega),rfl⟩
      ·have hz:((Y.parts.length:Int) == 0)=false:=by
        have:Y.parts.length≠0:=fun e=>hp0 (List.length_eq_zero_iff.1 e)
        simp;omega
       by_cases htm:hh.turn=1073741824
       ·have htb:(hh.turn == 1073741824)=true:=by simpa using htm
        have HRE3:RowKit.Hid (R=(none,140,RF.2.2)):=hid (by rw[HRE2.out,if_pos (.inr htm)])
        clear hp0 htm
        go_wp2
        go_returns
        rw[HRE3.out]
        exact⟨F,HD10.out,fun k hk=>.inl hk,HUPA.out,Dk.Ok.mono HK10.out (by omega),rfl⟩
       ·have htb:(hh.turn == 1073741824)=false:=by simpa using htm
        have HRE3:RowKit.Hid (R=openL {hh with turn:=hh.turn+1} RF.1 RF.2.2):=hid (by rw[HRE2.out,if_neg (fun e=>e.elim (fun e=>hp0 (by rw[HYP.out,e])) htm)])
        have hv1:IntKind.i64.wrap (hh.turn+1)=hh.turn+1:=by rw[IntKind.wrap_i64];omega
        have hf0:w10.frozen? ⟨q,0,none⟩=false:=frozen_of_heap HM.out
        clear hp0 htm HRE2
        go_upto_region 20 with fail
        have hu11:Upd (fun k=>k=q) w10 (w10.setCell ⟨q,0,none⟩ (.int .i64 (hh.turn+1))):=upd_own w10 q 0 _
        have hlg11:=HLG.out.turned (hh.turn+1)
        have hye:({Y with h:={Y.h with turn:=hh.turn+1}}:Lg)=⟨{hh with turn:=hh.turn+1},RF.1,usedOf RF.1,false⟩:=by
         have h1:=HYH.out;have h2:=HYP.out;have h3:=HYU.out;have h4:=HYB.out
         rcases Y with ⟨ya,yb,yc,yd⟩
         simp only at h1 h2 h3 h4
         subst h1 h4
         rw[h3,h2]
        rw[hye] at hlg11
        have hok11:(⟨{hh with turn:=hh.turn+1},RF.1,usedOf RF.1,false⟩:Lg).Ok:=by
         rw[←hye]
         have h:=HYO.out
         exact⟨by show 0≤hh.turn+1∧hh.turn+1≤1073741824;have:hh.turn≠1073741824:=by simpa using htb
                  omega,h.area,h.place,h.number,h.used,h.len,h.bytes⟩
        obtain⟨w11,hw11⟩: ∃w11,w11=w10.setCell ⟨q,0,none⟩ (.int .i64 (hh.turn+1)):=⟨_,rfl⟩
        rw[←hw11] at hu11 hlg11 ⊢
        obtain⟨PV2,vs2,hm1,hm2⟩:=hlg11
        have hm:=hm1.main
        have d0:w11.cell? ⟨q,0,none⟩=some (.int .i64 (hh.turn+1)):=by simp[World.cell?,hm,Lg.cells]
        have d1:w11.cell? ⟨q,1,none⟩=some (.int .i64 hh.area):=by simp[World.cell?,hm,Lg.cells]
        have d2:w11.cell? ⟨q,2,none⟩=some (.int .i64 hh.place):=by simp[World.cell?,hm,Lg.cells]
        have d3:w11.cell? ⟨q,3,none⟩=some (.int .i64 hh.number):=by simp[World.cell?,hm,Lg.cells]
        have HLG11:RowKit.Hid (Log w11 q p ⟨{hh with turn:=hh.turn+1},RF.1,usedOf RF.1,false⟩ G'):=hid ⟨PV2,vs2,hm1,hm2⟩
        have HOK11:=hid hok11
        have HU11:RowKit.Hid (Upd F w w11):=hid (HUPA.out.step hu11 (fun k hk e=>by omega))
        have HD11:=hid (HD10.out.kept hu11 (fun k hk e=>HQF.out (by rw[←e];exact hk)))
        have hun:({hh with turn:=hh.turn+1}:Hd).U32:=⟨by show 0≤hh.turn+1∧hh.turn+1≤4294967295;omega,by show 0≤hh.area∧hh.area≤4294967295;omega,by show 0≤hh.place∧hh.place≤4294967295;omega,by show 0≤hh.number∧hh.number≤4294967295;omega⟩
        have HLD:=hid (laid_any w11 HD11.out HK10.out (by omega) hun)
        have hdl:=Dk.lays_ok [headSc ({hh with turn:=hh.turn+1}:Hd)] HK10.out
        have HDL:=hid hdl
        clear hu11 hye hok11 hw11 hm1 hm2 hm hun hdl c0 c5 hf0 hv1 HM HLG HUPA HYO HYH HYP HYU HYB
        go_wp2_with (go_at_call 112;fail)
        refine HLD.out.mono ?_
        rintro e w12 ⟨rfl,F',hd12,hF',hu12⟩
        rw[show raw [headSc ({hh with turn:=hh.turn+1}:Hd)]=[({hh with turn:=hh.turn+1}:Hd).laid] from rfl] at hd12 ⊢
        rw[show raw [headSc ({hh with turn:=hh.turn+1}:Hd)]=[({hh with turn:=hh.turn+1}:Hd).laid] from rfl] at HDL
        have HD12:=hid hd12;have HF':=hid hF';have HU12:=hid hu12
        clear hd12 hF' hu12 HLD
        obtain⟨E,hE⟩: ∃E,E=RF.2.2.laysE [({hh with turn:=hh.turn+1}:Hd).laid]:=⟨_,rfl⟩
        have HE:=hid hE
        rw[←hE]
        clear hE
        have HUF:RowKit.Hid (Upd F w w12):=hid (HU11.out.step HU12.out (fun k _ e=>e))
        have HFF:RowKit.Hid (∀k,F' k→F k∨w.heap.size≤k):=hid (fun k hk=>(HF'.out k hk).imp id (fun e=>by have:=HU11.out.size;omega))
        simp only[]
        by_cases hE0:E=0
        ·have hEb:(E !=0)=false:=by simpa using hE0
         have HR4:RowKit.Hid (R=(some ⟨{hh with turn:=hh.turn+1},RF.1,usedOf RF.1,false⟩,0,RF.2.2.lays [({hh with turn:=hh.turn+1}:Hd).laid])):=hid (by
          rw[HRE3.out];unfold openL;rw[if_pos (by rw[←HE.out];exact hE0)])
         clear hE0
         go_wp2
         go_returns
         rw[HR4.out]
         exact⟨F',HD12.out,HFF.out,HUF.out,Dk.Ok.mono HDL.out (by simp),q,G',rfl,HLG11.out.kept HU12.out HGF.out,HGW.out,fun k hk e=>(HF'.out k e).elim (fun e=>HGF.out k hk e) (fun e=>by have:=HLG11.out.lt k hk;omega),HOK11.out⟩
        ·have hEb:(E !=0)=true:=by simpa using hE0
         have HR4:RowKit.Hid (R=(none,E,RF.2.2.lays [({hh with turn:=hh.turn+1}:Hd).laid])):=hid (by
          rw[HRE3.out];unfold openL;rw[if_neg (by rw[←HE.out];exact hE0),HE.out])
         clear hE0
         go_wp2
         go_returns
         rw[HR4.out]
         exact⟨F',HD12.out,HFF.out,HUF.out,Dk.Ok.mono HDL.out (by simp),rfl⟩
attribute [local go_sem] Oper.semAt_some
theorem ownsRow_heap {w w':World}{B:Nat}{e:TypeId}{s:Nat}{v:Value}{n:Nat}{xs:List Value}(h:w.ownsRow B e s v n xs)(hk: ∀g,v.ownBlock=some g→w'.heap[g]?=w.heap[g]?):w'.ownsRow B e s v n xs:=by
 refine⟨h.1,?_⟩
 rcases h.2 with h | ⟨g,cap,cur,rfl,h2,h3,h4⟩
 ·exact .inl h
 ·exact .inr ⟨g,cap,cur,rfl,h2,(hk g rfl).trans h3,h4⟩
theorem Log.keep {w w':World}{q p:Nat}{X:Lg}{G:Nat→Prop}(h:Log w q p X G)(hk: ∀k,G k→w'.heap[k]?=w.heap[k]?):Log w' q p X G:=by
 obtain⟨PV,vs,h1,h2⟩:=h
 refine⟨PV,vs,⟨(hk q ((h2 q).2 (.inl rfl))).trans h1.main,ownsRow_heap h1.row (fun g hg=>hk g ((h2 g).2 (.inr (.inl hg)))),fun i v b hv hb=>ownsRow_heap (h1.parts i v b hv hb) (fun g hg=>hk g ((h2 g).2 (.inr (.inr ⟨v,List.mem_of_getElem? hv,hg⟩)))),h1.nq,h1.nv⟩,h2⟩
theorem walk_any (n:Nat)(hn:1≤n)(l:Nat){q p bp:Nat}{X:Lg}{G:Nat→Prop}(hok:X.Ok)(hne:X.parts≠[])(J:List (Nat×Value)→World→Prop)(W:World)(hlog:Log W q p X G)(hbp:W.heap[bp]?=some (.cells #[.pointer (some ⟨q,0,none⟩)] 38 (0,0)))
  (hY: ∀pre x W0 W1 b,J pre W0→Upd (fun _=>False) W0 W1→x.1=pre.length→X.parts[pre.length+1]?=some b→OwnB W1 W0.heap.size x.2 b→YieldAt Fence.wide (n - 1) Tryz.prog l #[.int .i64 x.1,x.2] W1 fun e W'=>
   e=.returned (.bool true)∧J (pre++[x]) W'∧ ∀k,G k∨k=bp→W'.heap[k]?=W1.heap[k]?) (h0:J [] W) (hJA: ∀pre W W',J pre W→Upd (fun _=>False) W W'→J pre W'):
  CallsIn Fence.wide n Tryz.prog 165 #[.func (.yield l) #[] #[],.pointer (some ⟨bp,0,none⟩)] W fun e W'=>(∃v,e=.returned v)∧ ∃xs,xs.length+1=X.parts.length∧J xs W':=by
 have HLG:=hid hlog;have HBP:=hid hbp;have HY:=hid hY;have HOK:=hid hok;have HJA:=hid hJA
 have hc:=cells1_of hbp
 have hpl:1≤X.parts.length:=by
  rcases hX:X.parts with _ | ⟨a,b⟩
  ·exact absurd hX hne
  ·simp
 have hpl2:=hok.len
 have H0:=hid h0
 clear hlog hbp hY hok hne h0 hJA
 refine callsIn_of_wp Tryz.func165 rfl trivial ?_ rfl
 simp only[Tryz.ntmps165,List.size_toArray,List.length_cons,List.length_nil,Nat.reduceAdd,Nat.reduceSub,Array.replicate_succ,Array.replicate_zero,List.push_toArray,List.append_toArray,List.nil_append,List.cons_append]
 gi_wp2_with (refine⟨trivial,?_⟩;gi_at_call 55;fail)
 refine⟨trivial,?_⟩
 refine(callsIn_wide.2 (loglen_any W HLG.out HOK.out)).mono ?_
 rintro e w1 ⟨rfl,hu1⟩
 have HU1:=hid hu1
 clear hu1 hc
 simp only[]
 gi_upto_region 1 with fail
 obtain⟨N,hN⟩: ∃N:Nat,N+1=X.parts.length:=⟨X.parts.length - 1,by omega⟩
 rw[show((X.parts.length:Int) - 1)=(N:Int) by omega]
 gi_loopg [6] N (fun gi i wr=> ∃(k:Nat) (pre:List (Nat×Value)) (W0:World),k≤N∧gi=N - k∧i=.int .i64 k∧pre.length=k∧J pre W0∧Upd (fun _=>False) W0 wr∧Log W0 q p X G∧W0.heap[bp]?=some (.cells #[.pointer (some ⟨q,0,none⟩)] 38 (0,0)))
 case atStart=>exact⟨0,[],W,by omega,rfl,rfl,rfl,H0.out,HU1.out,HLG.out,HBP.out⟩
 case round=>
  obtain⟨k,pre,W0,hk,rfl,rfl,hpre,hJ,hu,hlg,hbp⟩:=hrel
  obtain⟨wo,rfl⟩: ∃wo,wo=wr:=⟨_,rfl⟩
  by_cases hkN:k<N
  ·have hlgo:=hlg.kept hu (fun _ _ e=>e)
   have hbpo:=(hu.block _ (lt_of_heap hbp) (fun e=>e)).trans hbp
   have hcc:=cells1_of hbpo
   have hkN2:(k:Int)<N:=by omega
   obtain⟨PV,vs,h1,h2⟩:=hlgo
   have hvl:=h1.vslen
   obtain⟨b,hb⟩: ∃b,X.parts[k+1]?=some b:=⟨_,List.getElem?_eq_getElem (by omega)⟩
   obtain⟨v,hv⟩: ∃v,vs[k+1]?=some v:=⟨_,List.getElem?_eq_getElem (by omega)⟩
   have hown:=h1.parts _ _ _ hv hb
   have hbl:=(HOK.out.bytes b (List.mem_of_getElem? hb)).2
   obtain⟨g,cap,hPV⟩: ∃g cap,PV=.slice (some ⟨g,0,none⟩) X.parts.length cap:=by
    rcases h1.row.2 with ⟨_,h⟩ | ⟨g,cap,cur,h,_⟩
    ·omega
    ·exact⟨g,cap,h⟩
   subst hPV
   have c5:wo.cell? ⟨q,5,none⟩=some (.slice (some ⟨g,0,none⟩) X.parts.length cap):=by simp[World.cell?,h1.main,Lg.cells]
   have cv:wo.cell? ⟨g,k+1,none⟩=some v:=by
    have:=h1.row.cells (g:=g) rfl (k+1) v hv
    rwa [Addr.add_mid,Nat.zero_add] at this
   have HOWN:=hid hown;have HB:=hid hb;have HJ:=hid hJ;have HU:=hid hu;have HLG0:=hid hlg;have HBP0:=hid hbp;have HPRE:=hid hpre
   have hlN:(k:Int)+1<X.parts.length:=by omega
   clear h1 h2 hown hb hJ hu hlg hbp hbpo hvl hv hpre HLG HBP HU1 H0
   gi_wp2_with (refine⟨trivial,?_⟩;gi_at_call 99;fail)
   refine⟨trivial,?_⟩
   refine(callsIn_wide.2 (clone_any wo (by omega) HOWN.out.bytesIn)).mono ?_
   rintro e w3 ⟨u,rfl,hou,_,hu3⟩
   have hu03:Upd (fun _=>False) W0 w3:=HU.out.trans hu3
   have hJy:=HY.out pre (k,u) W0 w3 b HJ.out hu03 HPRE.out.symm (by rw[HPRE.out];exact HB.out) (hou.mono HU.out.size)
   obtain⟨fn,tmps,assign,body,hy,hR⟩:=hJy
   dsimp only at hy
   have HRR:=hid hR;have HU03:=hid hu03
   clear hou hu3 hR hu03 HOWN HB HJ HU HY cv c5 hcc
   simp only[]
   iterate 3 gi_step
   refine HRR.out.mono ?_
   rintro e w4 ⟨rfl,hJ4,hk4⟩
   have HJ4:=hid hJ4
   have HL4:=hid ((HLG0.out.kept HU03.out (fun _ _ e=>e)).keep (fun j hj=>hk4 j (.inl hj)))
   have HB4:=hid ((hk4 bp (.inr rfl)).trans ((HU03.out.block _ (lt_of_heap HBP0.out) (fun e=>e)).trans HBP0.out))
   clear hJ4 hk4 hy HRR HU03 HLG0 HBP0
   simp only[]
   gi_wp2
   gi_roundg (N - (k+1))
   case measure=>omega
   case rel=>exact⟨k+1,pre++[(k,u)],w4,by omega,rfl,congrArg _ (by omega),by simp[HPRE.out],HJ4.out,Upd.refl _ _,HL4.out,HB4.out⟩
  ·obtain rfl:k=N:=by omega
   have hkN2: ¬(k:Int)<k:=by omega
   have HFIN:RowKit.Hid (∃xs:List (Nat×Value),xs.length+1=X.parts.length∧J xs wo):=hid ⟨pre,by omega,HJA.out _ _ _ hJ hu⟩
   clear hJ hu hlg hbp hpre
   gi_wp2
   refine bodyPost_end (results_none rfl _ _ _) rfl ?_
   exact⟨⟨_,rfl⟩,HFIN.out⟩
theorem walAll_any (q:Nat)(w:World):Calls Tryz.prog 120 #[.pointer (some ⟨q,0,none⟩)] w fun e w'=>e=.returned (.func (.func 165) #[] #[.pointer (some ⟨w.heap.size,0,none⟩)])∧w'=w.alloc (.cells #[.pointer (some ⟨q,0,none⟩)] 38):=by
 go_enter Tryz.func120,Tryz.ntmps120
 go_wp2
 go_ret
 exact⟨rfl,rfl⟩
end
section
open Go.RowKit Go.Shelf
attribute [local go_sem] Oper.semAt_some
theorem upd_put {W:World}{l:Nat}(o:Obj):Upd (fun k=>k=l) W (W.putObj l o):=Upd.of_grown (grownBy_putObj' W l o) (fun k hk=>by injection hk with hk;exact hk.symm)
end
section
open Go.RowKit Go.Shelf
def RowsIn (w:World)(v:Value)(txs:List (List Int)):Prop:= ∃vs,w.ownsRow 0 39 1 v txs.length vs∧ ∀(i:Nat) u b,vs[i]?=some u→txs[i]?=some b→BytesIn w u b
theorem len_le_used (l:List (List Int)):(l.length:Int)≤usedOf l:=by
 induction l with
 |nil=>simp[usedOf]
 |cons b l ih=>
  have:=secsN_pos b.length
  rw[usedOf_cons]
  simp
  omega
end
section
open Go.RowKit
theorem law_fmt {D:Dk}{N area:Nat}(hg:D.Good N)(ha:4≤area∧area≤1000)(hN:2+2 * area≤N):LawD (fmtX area) 1 (fmtD D area 3).S:=by
 have b1:=zl_bound (area:=area) (N:=N) hN
 have b2: ∀x∈raw (partSc (fmtH area) 1 0 true [] bytes_nil),0≤x.1∧x.1<N:=partSc_bound bytes_nil (by show(1:Int)≤area;omega) (by show(2:Int)+2 * area≤N;omega)
 have b3: ∀x∈raw [headSc (fmtH area)],0≤x.1∧x.1<N:=headSc_bound (by omega)
 obtain⟨_,g1⟩:=hg.lays _ (by omega) b1
 obtain⟨_,g2⟩:=g1.lays _ (by omega) b2
 have hz: ∀i:Int,0≤i→i<2+2 * area→(D.lays (fmt1 area)).S i=zblk:=fun i h1 h2=>by
  show(D.lays (raw (zl area))).S i=zblk
  rw[hg.S_lays _ b1 i h1 (by omega)]
  exact layS_zl h1 h2
 refine(LawD.fmt ha hz).congr (fun i h1 h2=>?_)
 have h2':i<2+2 * (area:Int):=h2
 show(((D.lays (raw (zl area))).lays (raw (partSc (fmtH area) 1 0 true [] bytes_nil))).lays (raw [headSc (fmtH area)])).S i=_
 rw[Dk.Good.S_lays _ g2 b3 i h1 (by omega)]
 refine layS_congr (N:=N) _ _ _ (fun j h3 h4=>?_) i h1 (by omega)
 rw[Dk.Good.S_lays _ g1 b2 j h3 h4,partL_raw]
 rfl
theorem law_app {X:Lg}{τ:Int}{D:Dk}{N:Nat}(h:LawD X τ D.S)(hg:D.Good N)(hN:2+2 * X.h.area≤N){b:List Int}(hb:Bytes b)(hl:b.length≤40000)(hr:X.used+secsN b.length≤X.h.area)(hn:X.h.number+X.parts.length+1≤2000000000):LawD (X.add b) 1 (D.lays (X.apS b hb)).S:=by
 have ha:=h.says.area
 refine(h.add (τ':=1) hl hr hn (by omega)).congr (fun i h1 h2=>?_)
 have h2':i<2+2 * X.h.area:=h2
 unfold Lg.apS
 rw[hg.S_lays _ (partSc_bound hb (by omega) hN) i h1 (by omega),partL_raw]
theorem shows_far {D:Dk}{K:Nat}(h:D.Ok K){i:Nat}(hi:D.arr.length≤i):D.shows i=[]:=by
 have e:D.row.filter (fun x=>x.1 == i)=[]:=by
  rw[List.filter_eq_nil_iff]
  intro x hx
  have:=(h.rblks x hx).2.1
  simp;omega
 unfold Dk.shows Dk.vers
 rw[e,List.getD_eq_getElem?_getD,List.getElem?_eq_none hi]
 rfl
theorem startN_nonneg {D:Dk}{K:Nat}(h:D.Ok K)(i:Int):0≤startN (D.S i):=by
 unfold startN Dk.S
 by_cases hi:i.toNat<D.arr.length
 ·exact be_nonneg (fun x hx=>(shows_blk h hi).2 x (List.mem_of_mem_drop hx))
 ·rw[shows_far h (by omega)]
  show(0:Int)≤0
  omega
theorem openD_law {X:Lg}{τ:Int}{D:Dk}{N K:Nat}(h:LawD X τ D.S)(hg:D.Good N)(hok:D.Ok K)(hN:2+2 * X.h.area≤N)(ht:X.h.turn<1073741824)(hτ:τ≤X.h.turn+1):
  ∃D',openD D=(some X.on,0,D')∧D'.Good N∧LawD X.on (X.h.turn+1) D'.S:=by
 have ha:=h.says.area
 obtain⟨e0,g0,r0,s0⟩:=hg.callR (i:=0) (by omega)
 obtain⟨e1,g1,r1,s1⟩:=g0.callR (i:=1) (by omega)
 have hc:=h.counts
 obtain⟨D2,f1,f2,f3,f4⟩:=foundD_good (h:=X.h) (N:=N) (by omega) hN 1001 [] 0 ((D.callD 0 false).callD 1 false) (by omega) g1
 have hlen:(X.parts.length:Int)≤X.used:=by rw[h.sum];exact len_le_used _
 have hfit:=h.fits
 rw[s1,s0,h.found (startN_nonneg hok) (by omega)] at f1
 rw[s1,s0] at f3
 have hb:=headSc_bound (h:=X.on.h) (N:=N) (by omega)
 obtain⟨l1,l2⟩:=f2.lays (raw [headSc X.on.h]) (by omega) hb
 have hlaw:=h.opened ht hτ
 refine⟨D2.lays (raw [headSc X.on.h]),?_,l2,hlaw.congr (fun i h1 h2=>?_)⟩
 ·unfold openD
  rw[if_pos e0,if_pos e1,r0,r1,s0,hc]
  unfold openH
  rw[if_neg (by have:=g1.len;simp;omega)]
  show openP X.h (foundD X.h 1001 [] 0 _)=_
  rw[f1]
  unfold openP
  rw[if_pos rfl,if_neg (by have:=h.one;simp;exact⟨this,by omega⟩)]
  unfold openL
  rw[if_pos (by exact l1)]
  unfold Lg.on
  rw[h.sum]
  rfl
 ·have h2':i<2+2 * X.h.area:=h2
  rw[Dk.Good.S_lays _ f2 hb i h1 (by omega),f3]
  rfl
theorem open_good {p N K:Nat}{X:Lg}{τ:Int}{D:Dk}{F:Nat→Prop}(w:World)(hD:Dsk w p D F)(h:LawD X τ D.S)(hg:D.Good N)(hok:D.Ok K)(hK:K≤1000000000)(hN:2+2 * X.h.area≤N)(ht:X.h.turn<1073741824)(hτ:τ≤X.h.turn+1):
  Calls Tryz.prog 61 #[.pointer (some ⟨p,0,none⟩)] w fun e w'=> ∃q D' G' F',e=.returned (.tuple #[.pointer (some ⟨q,0,none⟩),.int .i64 0])∧WalG w' q p X.on D' G' F' N (K+1002000)∧LawD X.on (X.h.turn+1) D'.S∧(∀k,G' k→w.heap.size≤k)∧(∀k,F' k→F k∨w.heap.size≤k)∧Upd F w w':=by
 obtain⟨D',e1,e2,e3⟩:=openD_law h hg hok hN ht hτ
 refine(open_any w hD hok (by omega)).mono ?_
 rintro e w' hx
 rw[e1] at hx
 obtain⟨F',h1,h2,h3,h4,q,G',rfl,h5,h6,h7,h8⟩:=hx
 exact⟨q,D',G',F',rfl,⟨⟨h5,h1,h7⟩,h8,rfl,e2,h4,hN⟩,e3,h6,h2,h3⟩
end
section
open Go.RowKit Go.Shelf
theorem SetRow.low {w:World}{B B':Nat}{C:Nat→Prop}{sv:Value}{l:List SetV}(h:SetRow w B C sv l)(hb:B'≤B):SetRow w B' C sv l:=by
 obtain⟨L,h0,⟨h1,h2⟩,h3,h4⟩:=h
 refine⟨L,h0,⟨h1,?_⟩,h3,h4⟩
 rcases h2 with h2 | ⟨g,cap,cur,e,hg,r⟩
 ·exact .inl h2
 ·exact .inr ⟨g,cap,cur,e,Nat.le_trans hb hg,r⟩
end
section
open Go.RowKit
/-! ### Sectors laid without an error -/
end
section
open Go.RowKit Go.Shelf
end
section
open Go.RowKit
end
end Go.Proofs.YtbimkhdiplnbfaaGreat
