/- Walks. -/
import Derived.Test.YtbimkhdiplnbfaaGreatU17
set_option linter.unusedVariables false
set_option linter.unusedSimpArgs false
namespace Go.Proofs.YtbimkhdiplnbfaaGreat
set_option maxRecDepth 1000000
set_option maxHeartbeats 16000000
variable {D:Dk} {h:Hd} {b0 b1 b2 b3:Int} {X:Lg} {K N area b b6 p q r:Nat} {F:Nat→Prop} {v:Value} {W w:World}
section
open Go.RowKit
theorem Dk.lays_ok: ∀(l:List Sc) {D:Dk} {K:Nat},D.Ok K→(D.lays (raw l)).Ok (K+2 * l.length+1)
 | [],_,_,h=>h.sync
 |x :: l,D,K,h=>by
  have h1:=h.write x.1.1 x.2
  obtain⟨⟨i,b⟩,hx⟩:=x
  show(Dk.lays D ((i,b) :: raw l)).Ok _
  unfold Dk.lays
  split
  ·have:=Dk.lays_ok l h1
   rw[List.length_cons,show K+2 * (l.length+1)+1=K+2+2 * l.length+1 by omega]
   exact this
  ·exact h1.mono (by simp;omega)
def Lg.cpH (X:Lg):Hd:=⟨X.h.turn+1,X.h.area,(X.h.place+X.used) % (2 * X.h.area),X.h.number+X.parts.length⟩
def Lg.cpS (X:Lg)(b:List Int)(hb:Bytes b):List (Int×List Int):=raw (partSc X.h X.cpH.number X.cpH.place true b hb)
def Lg.cpE (X:Lg)(D:Dk)(b:List Int)(hb:Bytes b):Int:=if D.laysE (X.cpS b hb)=0 then(D.lays (X.cpS b hb)).laysE (raw [headSc X.cpH]) else D.laysE (X.cpS b hb)
def Lg.cpD (X:Lg)(D:Dk)(b:List Int)(hb:Bytes b):Dk:=if D.laysE (X.cpS b hb)=0 then(D.lays (X.cpS b hb)).lays (raw [headSc X.cpH]) else D.lays (X.cpS b hb)
def Lg.cp (X:Lg)(b:List Int)(E:Int):Lg:=if E=0 then(⟨X.cpH,[],0,false⟩:Lg).add b else X.brk true
theorem Zsh {t:TypeId}{old:Array Value}(cs:Array Value)(h:W.heap[b]?=some (.cells old t (0,0)))(hl:old.size=cs.size):W.there b 0 cs.size∧(W.setCells b 0 cs.toList).heap[b]?=some (.cells cs t (0,0))∧Upd (fun j=>j=b) W (W.setCells b 0 cs.toList):=by
 refine⟨?_,?_,Upd.setCells (F:=fun j=>j=b) rfl cs.toList 0 (Upd.refl _ W)⟩
 ·have:=Zq h
  rwa [hl] at this
 ·have:=Zi (vs:=cs.toList) h (by simpa using hl)
  simpa using this
theorem set4 {t:TypeId}{x0 x1 x2 x3 x4 x5 x6 x7 a0 a1 a2 a3:Value}(h:W.heap[b]?=some (.cells #[x0,x1,x2,x3,x4,x5,x6,x7] t (0,0))):(W.setCells b 0 [a0,a1,a2,a3]).heap[b]?=some (.cells #[a0,a1,a2,a3,x4,x5,x6,x7] t (0,0)):=by
 rw[Zbm b t _ 0 W _ h]
 rfl
theorem Zt4 (hm:w.heap[q]?=some (.cells ((⟨h,[],0,false⟩:Lg).cells p (.slice none 0 0)) 193 (0,0))):Log w q p ⟨h,[],0,false⟩ (fun k=>k=q):=by
 refine⟨.slice none 0 0,[],⟨hm,World.ownsRow_nil _ _ _ _,fun i v b hv=>(by simp at hv),fun k hk=>(by simp[Value.ownBlock] at hk),fun v k hv=>(by simp at hv)⟩,fun k=>⟨fun hk=>.inl hk,fun hk=>?_⟩⟩
 rcases hk with hk | hk | ⟨v,hv,_⟩
 ·exact hk
 ·simp[Value.ownBlock] at hk
 ·simp at hv
theorem Zqz (w:World):Calls Tryz.prog 115 #[] w fun e w'=>e=.returned (.int .i64 0)∧U0 w w':=by
 go_enter Tryz.func115,Tryz.ntmps115
 go_wp2
 go_ret
 exact⟨rfl,Upd.refl _ _⟩
theorem Zub {G:Nat→Prop}{b:List Int}(w:World)(hX:Wal w q p X D G F)(hok:X.Ok)(hDok:D.Ok K)(hK:K≤1099511600000)(hb:Bytes b)(hbl:b.length≤1099511627700)(hbi:BytesIn w v b)
  (hsv:b≠[]→ ∀a n c,v=.slice (some a) n c→ ¬F a.block∧a.block≠q):
  Calls Tryz.prog 42 #[.pointer (some ⟨q,0,none⟩),v] w fun e w'=>
   (X.refuses b.length 0≠0∧e=.returned (.int .i64 (X.refuses b.length 0))∧U0 w w')∨
   (X.refuses b.length 0=0∧X.h.turn=1073741824∧e=.returned (.int .i64 6)∧U0 w w')∨
   (X.refuses b.length 0=0∧X.h.turn≠1073741824∧e=.returned (.int .i64 (X.cpE D b hb))∧
    ∃G' F',Wal w' q p (X.cp b (X.cpE D b hb)) (X.cpD D b hb) G' F'∧
     (∀k,G' k→G k∨w.heap.size≤k)∧(∀k,F' k→F k∨w.heap.size≤k)∧Upd (fun k=>G k∨F k) w w'):=by
 obtain⟨j0,hD,p6⟩:=hX
 obtain⟨sa,sc,rfl⟩:=hbi.slice'
 have e7:=j0.lt;have f8:=hD.lt;have o3:=j0.mem
 have h9:=V j0;have HD:=V hD;have p0:=V p6;have e5:=V e7;have n2:=V f8;have a8:=V o3;have n5:=V hbi;have j4:=V hsv;have e4:=V hDok;have HB:=V hb
 obtain⟨r,hr⟩: ∃r,r=X.refuses b.length 0:=⟨_,rfl⟩
 have HR:=V hr
 rw[←hr]
 obtain⟨CE,j7⟩: ∃CE,CE=X.cpE D b hb:=⟨_,rfl⟩
 obtain⟨CD,k9⟩: ∃CD,CD=X.cpD D b hb:=⟨_,rfl⟩
 rw[←j7,←k9]
 have n1:=V j7;have n8:=V k9
 clear j0 hD p6 e7 f8 o3 hbi hsv hDok hr j7 k9
 go_enter Tryz.func42,Tryz.ntmps42
 go_wp2_with (go_at_call 114;fail)
 refine(Zge (fu:=115) (lb:=#[]) (u:=0) w h9.o hok (by omega) (enters_of Tryz.func115 (by kernel_rfl) rfl) (fun W' _=>Zqz W')).mono ?_
 rintro e w2 ⟨rfl,m6⟩
 rw[←HR.o]
 have b7:=V m6
 clear m6
 simp only[]
 by_cases g5:r≠0
 ·have s4:(r !=0)=true:=by simpa using g5
  go_wp2
  go_ret
  exact .inl ⟨g5,rfl,b7.o⟩
 ·have g5:r=0:=Decidable.not_not.1 g5
  subst g5
  have d5:=HR.o
  have k3:X.broken=false:=by
   cases hx:X.broken with
   |false=>rfl
   |true=>rw[Lg.refuses,hx,if_pos rfl] at d5;omega
  rw[Lg.refuses,k3,if_neg (by simp)] at d5
  have m2:b.length≤40000:=by
   rcases Nat.lt_or_ge 40000 b.length with q1 | q1
   ·rw[if_pos q1] at d5;omega
   ·exact q1
  rw[if_neg (by omega)] at d5
  have n0: ¬(X.h.area<0+secsN b.length∨1073741824<X.h.number+X.parts.length):=by
   intro hx
   rw[if_pos hx] at d5
   omega
  have s9:=V k3
  clear d5 k3
  have t1:=hok.turn;have t2:=hok.area;have t3:=hok.place;have t4:=hok.number;have t5:=hok.used;have t6:=hok.len
  have s2:IntKind.i64.wrap (X.h.place+X.used)=X.h.place+X.used:=by rw[IntKind.wrap_i64];omega
  have s7:IntKind.i64.wrap (X.h.turn+1)=X.h.turn+1:=by rw[IntKind.wrap_i64];omega
  have s6:IntKind.i64.wrap (2 * X.h.area)=2 * X.h.area:=by rw[IntKind.wrap_i64];omega
  obtain⟨np,f9⟩: ∃np,np=(X.h.place+X.used) % (2 * X.h.area):=⟨_,rfl⟩
  have r2:(X.h.place+X.used).tmod (2 * X.h.area)=np:=by rw[f9];exact Int.tmod_eq_emod_of_nonneg (by omega)
  have r0:0≤np:=by rw[f9];exact Int.emod_nonneg _ (by omega)
  have p8:np<2 * X.h.area:=by rw[f9];exact Int.emod_lt_of_pos _ (by omega)
  have s8: ¬(2 * X.h.area=0):=by omega
  have q6:=V f9
  clear f9
  obtain⟨PV,hm⟩:=h9.o.main'
  have HM:=V (kb b7.o hm)
  have c0:w2.cell? ⟨q,0,none⟩=some (.int .i64 X.h.turn):=by simp[World.cell?,HM.o,Lg.cells]
  clear hm
  have a4:(Tryz.prog.info? 184).map (·.size)=some 4:=by kernel_rfl
  by_cases o9:X.h.turn=1073741824
  ·have q3:(X.h.turn == 1073741824)=true:=by simpa using o9
   go_wp2
   go_ret
   exact⟨rfl,b7.o⟩
  ·have q3:(X.h.turn == 1073741824)=false:=by simpa using o9
   go_upto_region 6 with fail
   clear c0
   have hA:U0 w2 w2.drew:=(Upd.refl _ w2).drew
   go_cut [6] from 8 to 97 (fun hp wr=> ∃bh,hp=.pointer (some ⟨bh,0,none⟩)∧w2.heap.size≤bh∧wr.heap[bh]?=some (.cells #[.int .i64 (X.h.turn+1),.int .i64 X.h.area,.int .i64 np,.int .i64 (X.h.number+X.parts.length)] 184 (0,0))∧U0 w2 wr)
   case first=>
    refine Zj 32 (fun W=>U0 w2 W) [false,false,false,false,false,false,false,false,false,false,false,false,false,false,false,false,false,false,false,false,false,false,false,false,false,false,false,false,false,false,false,false,false] rfl (by kernel_rfl) ?_
    refine tpZ 0 (.pointer (some ⟨q,0,none⟩)) hA ?_
    simp only[zz]
    refine tpZ 6 (.pointer (some ⟨q,0,none⟩)) hA ?_
    simp only[zz]
    refine tpZ 11 (.pointer (some ⟨q,0,none⟩)) hA ?_
    simp only[zz]
    refine tpZ 16 (.pointer (some ⟨q,0,none⟩)) hA ?_
    simp only[zz]
    refine tpZ 21 (.pointer (some ⟨q,0,none⟩)) hA ?_
    simp only[zz]
    refine tpZ 28 (.pointer (some ⟨q,0,none⟩)) hA ?_
    simp only[zz]
    refine tpZ 1 (.pointer (some ⟨q,0,none⟩)) hA ?_
    simp only[zz]
    refine tpZ 7 (.pointer (some ⟨q,0,none⟩)) hA ?_
    simp only[zz]
    refine tpZ 12 (.pointer (some ⟨q,0,none⟩)) hA ?_
    simp only[zz]
    refine tpZ 17 (.pointer (some ⟨q,0,none⟩)) hA ?_
    simp only[zz]
    refine tpZ 22 (.pointer (some ⟨q,0,none⟩)) hA ?_
    simp only[zz]
    refine tpZ 2 (.pointer (some ⟨q,0,none⟩)) hA ?_
    simp only[zz]
    refine tpZ 3 (.pointer (some ⟨q,0,none⟩)) hA ?_
    simp only[zz]
    refine tqZ 4 (.int .i64 X.h.turn) [30,5] hA (fun w5 q1=>?_) ?_
    ·have cc:w5.cell? ⟨q,0,none⟩=some (.int .i64 X.h.turn):=by simp[World.cell?,kb q1 HM.o,Lg.cells]
     go_simp
    simp only[zz]
    refine tpZ 5 (.int .i64 (X.h.turn+1)) hA ?_
    simp only[zz]
    refine tpZ 8 (.pointer (some ⟨q,0,none⟩)) hA ?_
    simp only[zz]
    refine tpZ 9 (.pointer (some ⟨q,1,none⟩)) hA ?_
    simp only[zz]
    refine tqZ 10 (.int .i64 X.h.area) [30] hA (fun w5 q1=>?_) ?_
    ·have cc:w5.cell? ⟨q,1,none⟩=some (.int .i64 X.h.area):=by simp[World.cell?,kb q1 HM.o,Lg.cells]
     go_simp
    simp only[zz]
    refine tpZ 13 (.pointer (some ⟨q,0,none⟩)) hA ?_
    simp only[zz]
    refine tpZ 14 (.pointer (some ⟨q,2,none⟩)) hA ?_
    simp only[zz]
    refine tqZ 15 (.int .i64 X.h.place) [30,27,20] hA (fun w5 q1=>?_) ?_
    ·have cc:w5.cell? ⟨q,2,none⟩=some (.int .i64 X.h.place):=by simp[World.cell?,kb q1 HM.o,Lg.cells]
     go_simp
    simp only[zz]
    refine tpZ 18 (.pointer (some ⟨q,6,none⟩)) hA ?_
    simp only[zz]
    refine tqZ 19 (.int .i64 X.used) [30,27,20] hA (fun w5 q1=>?_) ?_
    ·have cc:w5.cell? ⟨q,6,none⟩=some (.int .i64 X.used):=by simp[World.cell?,kb q1 HM.o,Lg.cells]
     go_simp
    simp only[zz]
    refine tpZ 20 (.int .i64 (X.h.place+X.used)) hA ?_
    simp only[zz]
    refine tpZ 23 (.pointer (some ⟨q,0,none⟩)) hA ?_
    simp only[zz]
    refine tpZ 24 (.pointer (some ⟨q,1,none⟩)) hA ?_
    simp only[zz]
    refine tqZ 25 (.int .i64 X.h.area) [30,27,26] hA (fun w5 q1=>?_) ?_
    ·have cc:w5.cell? ⟨q,1,none⟩=some (.int .i64 X.h.area):=by simp[World.cell?,kb q1 HM.o,Lg.cells]
     go_simp
    simp only[zz]
    refine tpZ 26 (.int .i64 (2 * X.h.area)) hA ?_
    simp only[zz]
    refine tpZ 27 (.int .i64 np) hA ?_
    simp only[zz]
    refine Ya (i:=29) (j:=31) rfl rfl (by kernel_rfl) rfl rfl (fun K hK=>?_) (fun K hK=>?_)
    ·
     have a9:=V hK
     clear hK
     go_step
     refine(Zdd _ ((h9.o.kept b7.o n3Z).kept hA n3Z) hok).mono ?_
     rintro e W5 ⟨rfl,d8⟩
     have b3:U0 w2 W5:=hA.trans d8
     simp only[]
     refine a9.o _ _ b3 ?_
     clear a9
     simp only[zz]
     refine tpZ 30 (.agg #[.int .i64 (X.h.turn+1),.int .i64 X.h.area,.int .i64 np,.int .i64 (X.h.number+X.parts.length)]) b3 ?_
     simp only[zz]
     refine diZ 31 (fun K a9=>?_)
     go_step
     refine a9.o _ _ (b3.alloc _) ?_
     clear a9
     simp only[zz]
     refine tlZ 32 ?_
     simp only[List.drop]
     have d9:U0 w2 (W5.alloc (.cells #[.int .i64 0,.int .i64 0,.int .i64 0,.int .i64 0] 184)):=b3.alloc _
     have c9:w2.heap.size≤W5.heap.size:=b3.size
     have h3:(W5.alloc (.cells #[.int .i64 0,.int .i64 0,.int .i64 0,.int .i64 0] 184)).heap[W5.heap.size]?=some (.cells #[.int .i64 0,.int .i64 0,.int .i64 0,.int .i64 0] 184 (0,0)):=Zc rfl
     obtain⟨f1,f2,f3⟩:=Zsh (W:=W5.alloc (.cells #[.int .i64 0,.int .i64 0,.int .i64 0,.int .i64 0] 184)) (b:=W5.heap.size) #[.int .i64 (X.h.turn+1),.int .i64 X.h.area,.int .i64 np,.int .i64 (X.h.number+X.parts.length)] h3 rfl
     clear hA b3 d8
     refine wpList_store_mid rfl 184 (.tmp 6) (.tmp 50) rfl W5.heap.size 0 #[.int .i64 (X.h.turn+1),.int .i64 X.h.area,.int .i64 np,.int .i64 (X.h.number+X.parts.length)] rfl rfl f1 a4 (by simp[Value.oneCell']) ?_
     refine(?_:wpList _ _ _ _ _ ((W5.alloc (.cells #[.int .i64 0,.int .i64 0,.int .i64 0,.int .i64 0] 184)).setCells W5.heap.size 0 #[.int .i64 (X.h.turn+1),.int .i64 X.h.area,.int .i64 np,.int .i64 (X.h.number+X.parts.length)].toList))
     have H2:=V f2
     have k2:=V (d9.step f3 (fun k hk e=>by have:=c9;omega))
     have HW5.heap.size:=V c9
     clear f1 f2 f3 d9 c9 h3
     go_wp2
     go_meet
     case rel=>exact⟨_,rfl,HW5.heap.size.out,H2.o,k2.o⟩
    ·
     have a9:=V hK
     clear hK
     go_step
     have j6:U0 w2 (w2.drew.alloc (.cells #[.int .i64 0,.int .i64 0,.int .i64 0,.int .i64 0] 184)):=hA.alloc _
     refine a9.o _ _ j6 ?_
     clear a9
     simp only[zz]
     refine diZ 29 (fun K a9=>?_)
     go_step
     refine(Zdd _ ((h9.o.kept b7.o n3Z).kept j6 n3Z) hok).mono ?_
     rintro e W5 ⟨rfl,d8⟩
     have b3:U0 w2 W5:=j6.trans d8
     simp only[]
     refine a9.o _ _ b3 ?_
     clear a9
     simp only[zz]
     refine tpZ 30 (.agg #[.int .i64 (X.h.turn+1),.int .i64 X.h.area,.int .i64 np,.int .i64 (X.h.number+X.parts.length)]) b3 ?_
     simp only[zz]
     refine tlZ 32 ?_
     simp only[List.drop]
     have d9:U0 w2 W5:=b3
     have c9:w2.heap.size≤w2.drew.heap.size:=Nat.le_refl _
     have h3:W5.heap[w2.drew.heap.size]?=some (.cells #[.int .i64 0,.int .i64 0,.int .i64 0,.int .i64 0] 184 (0,0)):=(d8.block _ (by simp) id).trans (Zc rfl)
     obtain⟨f1,f2,f3⟩:=Zsh (W:=W5) (b:=w2.drew.heap.size) #[.int .i64 (X.h.turn+1),.int .i64 X.h.area,.int .i64 np,.int .i64 (X.h.number+X.parts.length)] h3 rfl
     clear hA b3 d8 j6
     refine wpList_store_mid rfl 184 (.tmp 6) (.tmp 50) rfl w2.drew.heap.size 0 #[.int .i64 (X.h.turn+1),.int .i64 X.h.area,.int .i64 np,.int .i64 (X.h.number+X.parts.length)] rfl rfl f1 a4 (by simp[Value.oneCell']) ?_
     refine(?_:wpList _ _ _ _ _ (W5.setCells w2.drew.heap.size 0 #[.int .i64 (X.h.turn+1),.int .i64 X.h.area,.int .i64 np,.int .i64 (X.h.number+X.parts.length)].toList))
     have H2:=V f2
     have k2:=V (d9.step f3 (fun k hk e=>by have:=c9;omega))
     have c3:=V c9
     clear f1 f2 f3 d9 c9 h3
     go_wp2
     go_meet
     case rel=>exact⟨_,rfl,c3.o,H2.o,k2.o⟩
   case rest=>
    obtain⟨bh,rfl,r9,n4,k6⟩:=hcut
    obtain⟨w3,rfl⟩: ∃w3,w3=wc:=⟨_,rfl⟩
    have m3:=b7.o.size
    have r4:RowKit.Hid (U0 w w3):=V (b7.o.trans k6);have c3:=V n4;have m1:=V (kb k6 HM.o)
    have s5:w.heap.size≤bh:=by omega
    clear r9 n4 k6 hA b7 HM m3
    have i4:X.cpH=⟨X.h.turn+1,X.h.area,np,X.h.number+X.parts.length⟩:=by rw[Lg.cpH,q6.o]
    have o6:X.cpH.U32:=by rw[i4];exact⟨(by show 0≤X.h.turn+1∧X.h.turn+1≤4294967295;omega),(by show 0≤X.h.area∧X.h.area≤4294967295;omega),(by show 0≤np∧np≤4294967295;omega),(by show 0≤X.h.number+X.parts.length∧X.h.number+X.parts.length≤4294967295;omega)⟩
    have n3:X.cpS b hb=raw (partSc X.h (X.h.number+X.parts.length) np true b hb):=by rw[Lg.cpS,i4]
    have k4:=V i4;have p9:=V o6;have r1:=V n3
    clear i4 o6 n3
    have hA:U0 w3 w3.drew:=(Upd.refl _ w3).drew
    go_upto_region 7 with fail
    refine Zj 13 (fun W=>U0 w3 W) [false,false,false,false,false,false,false,false,false,false,false,false,false,false,false] rfl (by kernel_rfl) ?_
    refine tpZ 0 (.pointer (some ⟨q,0,none⟩)) hA ?_
    simp only[zz]
    refine tpZ 4 (.pointer (some ⟨q,0,none⟩)) hA ?_
    simp only[zz]
    refine tpZ 1 (.pointer (some ⟨q,0,none⟩)) hA ?_
    simp only[zz]
    refine tpZ 5 (.pointer (some ⟨q,0,none⟩)) hA ?_
    simp only[zz]
    refine tpZ 2 (.pointer (some ⟨q,0,none⟩)) hA ?_
    simp only[zz]
    refine tpZ 6 (.pointer (some ⟨q,4,none⟩)) hA ?_
    simp only[zz]
    refine tqZ 3 (X.h.val) [] hA (fun w5 q1=>?_) ?_
    ·refine Zv rfl rfl [.int .i64 X.h.turn,.int .i64 X.h.area,.int .i64 X.h.place,.int .i64 X.h.number] (fun j v hj=>?_) Tryz.underlying184 rfl a4
     have hm:=kb q1 m1.o
     match j,hj with
     | 0,hj=>simp at hj;subst hj;simp[World.cell?,hm,Lg.cells]
     | 1,hj=>simp at hj;subst hj;simp[World.cell?,hm,Lg.cells]
     | 2,hj=>simp at hj;subst hj;simp[World.cell?,hm,Lg.cells]
     | 3,hj=>simp at hj;subst hj;simp[World.cell?,hm,Lg.cells]
     |j+4,hj=>simp at hj
    simp only[zz]
    refine tqZ 7 (.pointer (some ⟨p,0,none⟩)) [] hA (fun w5 q1=>?_) ?_
    ·have cc:w5.cell? ⟨q,4,none⟩=some (.pointer (some ⟨p,0,none⟩)):=by simp[World.cell?,kb q1 m1.o,Lg.cells]
     go_simp
    simp only[zz]
    refine tpZ 8 (.pointer (some ⟨bh,3,none⟩)) hA ?_
    simp only[zz]
    refine tqZ 9 (.int .i64 (X.h.number+X.parts.length)) [] hA (fun w5 q1=>?_) ?_
    ·have cc:w5.cell? ⟨bh,3,none⟩=some (.int .i64 (X.h.number+X.parts.length)):=by simp[World.cell?,kb q1 c3.o]
     go_simp
    simp only[zz]
    refine tpZ 10 (.pointer (some ⟨bh,2,none⟩)) hA ?_
    simp only[zz]
    refine tqZ 11 (.int .i64 np) [] hA (fun w5 q1=>?_) ?_
    ·have cc:w5.cell? ⟨bh,2,none⟩=some (.int .i64 np):=by simp[World.cell?,kb q1 c3.o]
     go_simp
    simp only[zz]
    refine tpZ 12 (.slice sa b.length sc) hA ?_
    simp only[zz]
    refine tlZ 13 ?_
    simp only[List.drop]
    have d6:=V (r4.o.trans hA)
    clear hA m1
    go_wp2_with (go_at_call 110;fail)
    refine(Zg4 w3.drew (HD.o.kept d6.o n3Z) e4.o (by omega) HB.o m2 (by omega) (by omega) (by omega) (by omega) (n5.o.kept d6.o) (fun hne a n c e=>(j4.o hne a n c e).1)).mono ?_
    rintro e W6 ⟨rfl,hl⟩
    rw[←r1.o] at hl ⊢
    obtain⟨E,hE⟩: ∃E,E=D.laysE (X.cpS b hb):=⟨_,rfl⟩
    rw[←hE]
    obtain⟨F',d1,d2,d3⟩:=hl
    have l7:=d6.o.size
    have k8:w3.drew.heap.size=w3.heap.size:=rfl
    have c2:Log W6 q p X G:=(h9.o.kept d6.o n3Z).kept d3 (fun k hk=>p0.o k hk)
    have o4:=(d3.block bh (Za c3.o) (fun e=>by have:=n2.o _ e;omega)).trans c3.o
    have h5: ∀k,G k→ ¬F' k:=fun k hk e=>by
     rcases d2 k e with e2 | e2
     ·exact p0.o k hk e2
     ·have:=e5.o k hk;omega
    have g3: ∀k,F' k→F k∨w.heap.size≤k:=fun k hk=>(d2 k hk).imp id (fun e=>by omega)
    have p4: ¬F' bh:=fun e=>by
     rcases d2 bh e with e2 | e2
     ·have:=n2.o bh e2;omega
     ·have:=Za c3.o;omega
    have s0:q<W6.heap.size:=by have:=e5.o q a8.o;have:=d3.size;omega
    have p2:bh≠q:=fun e=>by have:=e5.o q a8.o;omega
    have c1:=V c2;have i8:=V o4;have f4:=V h5;have k0:=V d1;have i6:=V g3;have i5:RowKit.Hid (Upd F w W6):=V ((d6.o.mono (fun _ _ e=>e.elim)).trans d3);have HE:=V hE;have o5:=V p4;have q5:=V p2
    obtain⟨s3,o1⟩:=c2.main'
    have j3:=V o1
    clear c2 o4 h5 d1 d2 d3 g3 p4 hE o1 d6 l7 k8 p2 s0
    simp only[]
    by_cases a6:E≠0
    ·
     have m8:(E !=0)=true:=by simpa using a6
     have q9:(E == 0)=false:=by simpa using a6
     have c7:W6.cell? ⟨q,7,none⟩=some (.bool X.broken):=by simp[World.cell?,j3.o,Lg.cells]
     have f7:W6.frozen? ⟨q,7,none⟩=false:=Zb j3.o
     go_upto_region 11 with fail
     obtain⟨W7,i9⟩: ∃W7,W7=W6.setCell ⟨q,7,none⟩ (.bool true):=⟨_,rfl⟩
     rw[←i9]
     have k7:Log W7 q p (X.brk true) G:=by rw[i9];exact c1.o.setBroken _
     have a5:Upd (fun k=>k=q) W6 W7:=by rw[i9];exact Zd _ _ _ _
     have m7:Dsk W7 p (D.lays (X.cpS b hb)) F':=k0.o.kept a5 (fun k hk e=>f4.o q a8.o (e ▸ hk))
     have e9:Upd (fun k=>G k∨F k) w W7:=(i5.o.mono (fun _ _ e=>.inr e)).trans (a5.mono (fun k _ e=>.inl (e ▸ a8.o)))
     obtain⟨q7,d4⟩:=k7.main'
     have i7:W7.cell? ⟨q,7,none⟩=some (.bool true):=by simp[World.cell?,d4,Lg.cells,Lg.brk]
     have r5:=V k7;have j2:=V m7;have e0:=V e9
     clear k7 a5 m7 e9 d4 i9 c7 f7
     go_wp2
     go_ret
     have he:=HE.o
     have h1:CE=E:=by rw[n1.o,Lg.cpE,←he,if_neg a6]
     have h2:CD=D.lays (X.cpS b hb):=by rw[n8.o,Lg.cpD,←he,if_neg a6]
     refine⟨by rw[h1];rfl,G,F',⟨?_,by rw[h2];exact j2.o,f4.o⟩,fun k hk=>.inl hk,i6.o,e0.o⟩
     rw[h1,Lg.cp,if_neg a6]
     exact r5.o
    ·
     have a6:E=0:=Decidable.not_not.1 a6
     subst a6
     have hA:U0 W6 W6.drew:=(Upd.refl _ W6).drew
     go_upto_region 9 with fail
     refine Zj 5 (fun W=>U0 W6 W) [false,false,false,false,false,false,false] rfl (by kernel_rfl) ?_
     refine tqZ 0 (X.cpH.val) [] hA (fun w5 q1=>?_) ?_
     ·rw[k4.o]
      exact Zv rfl rfl [.int .i64 (X.h.turn+1),.int .i64 X.h.area,.int .i64 np,.int .i64 (X.h.number+X.parts.length)] (Zh (cs:=[.int .i64 (X.h.turn+1),.int .i64 X.h.area,.int .i64 np,.int .i64 (X.h.number+X.parts.length)]) (kb q1 i8.o)) Tryz.underlying184 rfl a4
     simp only[zz]
     refine tpZ 1 (.pointer (some ⟨q,0,none⟩)) hA ?_
     simp only[zz]
     refine tpZ 2 (.pointer (some ⟨q,0,none⟩)) hA ?_
     simp only[zz]
     refine tpZ 3 (.pointer (some ⟨q,4,none⟩)) hA ?_
     simp only[zz]
     refine tqZ 4 (.pointer (some ⟨p,0,none⟩)) [] hA (fun w5 q1=>?_) ?_
     ·have cc:w5.cell? ⟨q,4,none⟩=some (.pointer (some ⟨p,0,none⟩)):=by simp[World.cell?,kb q1 j3.o,Lg.cells]
      go_simp
     simp only[zz]
     refine tlZ 5 ?_
     simp only[List.drop]
     clear hA
     go_wp2_with (go_at_call 112;fail)
     have l4:=Zbh m2
     refine(Zg7 W6.drew (k0.o.kept ((Upd.refl (fun _=>False) W6).drew) n3Z) (Dk.lays_ok (partSc X.h X.cpH.number X.cpH.place true b hb) e4.o) (by rw[Yk];omega) p9.o).mono ?_
     rintro e W7 ⟨rfl,hl⟩
     obtain⟨D1,j1⟩: ∃D1,D1=D.lays (X.cpS b hb):=⟨_,rfl⟩
     have m4:=hl
     clear hl
     have hl:Left W6.drew p (D1.lays (raw [headSc X.cpH])) F' W7:=by rw[j1];exact m4
     clear m4
     rw[show(D.lays (X.cpS b hb)).laysE (raw [headSc X.cpH])=D1.laysE (raw [headSc X.cpH]) by rw[j1]]
     obtain⟨E,hE⟩: ∃E,E=D1.laysE (raw [headSc X.cpH]):=⟨_,rfl⟩
     rw[←hE]
     obtain⟨F2,d1,d2,d3⟩:=hl
     have a5:Upd F' W6 W7:=((Upd.refl _ W6).drew).trans d3
     have c8:Log W7 q p X G:=c1.o.kept a5 f4.o
     have p7:=(a5.block bh (Za i8.o) o5.o).trans i8.o
     have q2:w.heap.size≤W6.heap.size:=i5.o.size
     have q0:W6.drew.heap.size=W6.heap.size:=rfl
     have h5: ∀k,G k→ ¬F2 k:=fun k hk e=>by
      rcases d2 k e with e2 | e2
      ·exact f4.o k hk e2
      ·have:=e5.o k hk;omega
     have g3: ∀k,F2 k→F k∨w.heap.size≤k:=fun k hk=>by
      rcases d2 k hk with e2 | e2
      ·exact i6.o k e2
      ·exact .inr (by omega)
     have e9:Upd F w W7:=i5.o.step a5 (fun k hk e=>(i6.o k e).elim id (fun e2=>by omega))
     obtain⟨q7,d4⟩:=c8.main'
     have c7:W7.cell? ⟨q,7,none⟩=some (.bool X.broken):=by simp[World.cell?,d4,Lg.cells]
     have f7:W7.frozen? ⟨q,7,none⟩=false:=Zb d4
     have i3:=V c8;have l2:=V p7;have b2:=V h5;have j2:=V d1;have f0:=V g3;have e0:=V e9;have r8:=V hE;have n6:=V j1
     clear c8 p7 h5 d1 d2 d3 g3 e9 hE d4 a5 q2 q0 l4 j1 c1 i8 f4 k0 i6 i5 j3 o5
     simp only[]
     go_upto_region 11 with fail
     obtain⟨W8,j5⟩: ∃W8,W8=W7.setCell ⟨q,7,none⟩ (.bool (E !=0)):=⟨_,rfl⟩
     rw[←j5]
     have l6:Log W8 q p (X.brk (E !=0)) G:=by rw[j5];exact i3.o.setBroken _
     have b0:Upd (fun k=>k=q) W7 W8:=by rw[j5];exact Zd _ _ _ _
     have n7:Dsk W8 p (D1.lays (raw [headSc X.cpH])) F2:=j2.o.kept b0 (fun k hk e=>b2.o q a8.o (e ▸ hk))
     have m9:=(b0.block bh (Za l2.o) q5.o).trans l2.o
     have o7:Upd (fun k=>G k∨F k) w W8:=(e0.o.mono (fun _ _ e=>.inr e)).trans (b0.mono (fun k _ e=>.inl (e ▸ a8.o)))
     have e6:BytesIn W8 (.slice sa b.length sc) b:=(n5.o.keptF e0.o (fun hne a n c e=>(j4.o hne a n c e).1)).keptF b0 (fun hne a n c e=>(j4.o hne a n c e).2)
     obtain⟨r3,d0⟩:=l6.main'
     have i7:W8.cell? ⟨q,7,none⟩=some (.bool (E !=0)):=by simp[World.cell?,d0,Lg.cells,Lg.brk]
     have l3:=V l6;have j8:=V n7;have l9:=V o7;have o2:=V m9;have h4:=V e6;have l5:=V d0
     clear l6 b0 n7 m9 o7 e6 d0 j5 c7 f7 i3 l2 j2 e0
     have p5:CE=E:=by rw[n1.o,Lg.cpE,←HE.o,if_pos rfl,←n6.o,←r8.o]
     have o8:CD=D1.lays (raw [headSc X.cpH]):=by rw[n8.o,Lg.cpD,←HE.o,if_pos rfl,←n6.o]
     have g6:=V p5;have g8:=V o8
     clear p5 o8
     by_cases a6:E≠0
     ·
      have m8:(E !=0)=true:=by simpa using a6
      rw[m8] at i7 l3
      go_wp2
      go_ret
      have h1:=g6.o;have h2:=g8.o
      refine⟨by rw[h1];rfl,G,F2,⟨?_,by rw[h2];exact j8.o,b2.o⟩,fun k hk=>.inl hk,f0.o,l9.o⟩
      rw[h1,Lg.cp,if_neg a6]
      exact l3.o
     ·
      have a6:E=0:=Decidable.not_not.1 a6
      subst a6
      have hz:((0:Int) !=0)=false:=rfl
      rw[hz] at i7 l5
      clear l3
      go_upto_region 12 with fail
      clear i7
      iterate 10 go_step
      refine wpList_load_mid rfl 184 (.tmp 6) rfl bh 0 rfl [.int .i64 (X.h.turn+1),.int .i64 X.h.area,.int .i64 np,.int .i64 (X.h.number+X.parts.length)] _ (Zh (cs:=[.int .i64 (X.h.turn+1),.int .i64 X.h.area,.int .i64 np,.int .i64 (X.h.number+X.parts.length)]) o2.o) Tryz.underlying184 rfl a4 ?_
      iterate 6 go_step
      have d0:=l5.o
      have p1:W8.there q 0 4:=fun j hj=>Zq d0 j (by simp[Lg.cells];omega)
      refine wpList_store_mid rfl 184 (.tmp 88) (.tmp 86) rfl q 0 [.int .i64 (X.h.turn+1),.int .i64 X.h.area,.int .i64 np,.int .i64 (X.h.number+X.parts.length)].toArray rfl rfl p1 a4 (by simp[Value.oneCell']) ?_
      refine(?_:wpList _ _ _ _ _ (W8.setCells q 0 [.int .i64 (X.h.turn+1),.int .i64 X.h.area,.int .i64 np,.int .i64 (X.h.number+X.parts.length)]))
      have d7:=set4 (a0:=.int .i64 (X.h.turn+1)) (a1:=.int .i64 X.h.area) (a2:=.int .i64 np) (a3:=.int .i64 (X.h.number+X.parts.length)) d0
      obtain⟨W9,l1⟩: ∃W9,W9=W8.setCells q 0 [.int .i64 (X.h.turn+1),.int .i64 X.h.area,.int .i64 np,.int .i64 (X.h.number+X.parts.length)]:=⟨_,rfl⟩
      rw[←l1] at d7 ⊢
      have g0:Upd (fun k=>k=q) W8 W9:=by rw[l1];exact Upd.setCells (F:=fun k=>k=q) rfl _ 0 (Upd.refl _ W8)
      have o0:=V d7;have e3:=V g0
      have c5:W9.cell? ⟨q,5,none⟩=some r3:=by simp[World.cell?,d7]
      have c6:W9.cell? ⟨q,6,none⟩=some (.int .i64 X.used):=by simp[World.cell?,d7,Lg.brk]
      have f5: ∀o,W9.frozen? ⟨q,o,none⟩=false:=fun o=>Zb d7
      clear d0 p1 d7 g0 l1 l5
      go_upto_region 13 with fail
      obtain⟨b4,b6⟩: ∃b4,b4=(W9.setCell ⟨q,5,none⟩ (.slice none 0 0)).setCell ⟨q,6,none⟩ (.int .i64 0):=⟨_,rfl⟩
      rw[←b6]
      have i0:b4.heap[q]?=some (.cells ((⟨X.cpH,[],0,false⟩:Lg).cells p (.slice none 0 0)) 193 (0,0)):=by
       rw[b6]
       have h1:=Ze (i:=5) (v:=.slice none 0 0) o0.o
       have h2:=Ze (i:=6) (v:=.int .i64 0) h1
       rw[h2,k4.o]
       simp[Lg.cells,Lg.brk]
      have b9:Upd (fun k=>k=q) W9 b4:=by rw[b6];exact Upd.setCell (F:=fun k=>k=q) (p:=⟨q,6,none⟩) (Upd.setCell (F:=fun k=>k=q) (p:=⟨q,5,none⟩) (Upd.refl _ W9) (.inl rfl) _) (.inl rfl) _
      have a7:Upd (fun k=>k=q) W8 b4:=e3.o.trans b9
      have i1:=Zt4 i0
      have h7:Dsk b4 p (D1.lays (raw [headSc X.cpH])) F2:=j8.o.kept a7 (fun k hk e=>b2.o q a8.o (e ▸ hk))
      have g9:Upd (fun k=>G k∨F k) w b4:=l9.o.trans (a7.mono (fun k _ e=>.inl (e ▸ a8.o)))
      have b8:BytesIn b4 (.slice sa b.length sc) b:=h4.o.keptF a7 (fun hne a n c e=>(j4.o hne a n c e).2)
      have m0:=V i1;have f6:=V h7;have h8:=V g9;have g4:=V b8
      clear i0 b9 a7 i1 h7 g9 b8 b6 c5 c6 f5 o0 e3 l9 j8 o2 h4
      go_wp2_with (go_at_call 99;fail)
      refine(Y4 b4 (by omega) g4.o).mono ?_
      rintro e q8 ⟨u8,rfl,m5,_,g7⟩
      have j9:=V m5;have b5:=V g7
      clear m5 g7
      simp only[]
      go_wp2_with (go_at_call 117;fail)
      have i2:=h8.o.size
      have s1:=e5.o q a8.o
      have e8:(⟨X.cpH,[],0,false⟩:Lg).Ok:=by
       rw[k4.o]
       exact⟨(by show 0≤X.h.turn+1∧X.h.turn+1≤1073741824;omega),(by show 4≤X.h.area∧X.h.area≤1000;omega),(by show 0≤np∧np≤100000;omega),(by show 0≤X.h.number+X.parts.length∧X.h.number+X.parts.length≤1073741825;omega),(by show(0:Int)≤0∧(0:Int)≤1000;omega),(by simp),(by simp)⟩
      refine(Zhd q8 (m0.o.kept b5.o n3Z) e8 (by simp) j9.o (fun k hk e=>by have h1:=(World.ownsRow.lt j9.o k hk).1;omega) m2).mono ?_
      rintro e p3 ⟨rfl,⟨G9,g1,g2⟩,c4⟩
      have b1: ∀k,u8.ownBlock=some k→b4.heap.size≤k:=fun k hk=>(World.ownsRow.lt j9.o k hk).1
      have r7:=b5.o.size
      have n9: ∀k,G9 k→G k∨w.heap.size≤k:=fun k hk=>by
       rcases g2 k hk with e1 | e1 | e1
       ·exact .inl (e1 ▸ a8.o)
       ·exact .inr (by have:=b1 k e1;omega)
       ·exact .inr (by omega)
      have k5: ∀k,F2 k→k<b4.heap.size:=f6.o.lt
      have h0: ∀k,G9 k→ ¬F2 k:=fun k hk e=>by
       rcases g2 k hk with e1 | e1 | e1
       ·exact b2.o q a8.o (e1 ▸ e)
       ·have h1:=b1 k e1;have:=k5 k e;omega
       ·have:=k5 k e;omega
      have h6:Dsk p3 p (D1.lays (raw [headSc X.cpH])) F2:=(f6.o.kept b5.o n3Z).kept c4 (fun k hk e=>b2.o q a8.o (e ▸ hk))
      have l0:=V h6;have r6:=V n9;have l8:=V h0;have q4:=V g1
      have k1:RowKit.Hid (Upd (fun k=>G k∨F k) w p3):=V ((h8.o.trans (b5.o.mono (fun _ _ e=>e.elim))).trans (c4.mono (fun k _ e=>.inl (e ▸ a8.o))))
      clear g1 g2 c4 b1 n9 k5 h0 h6 i2 r7 e8
      simp only[]
      go_wp2
      go_ret
      have h1:=g6.o;have h2:=g8.o
      refine⟨by rw[h1];rfl,G9,F2,⟨?_,by rw[h2];exact l0.o,l8.o⟩,r6.o,f0.o,k1.o⟩
      rw[h1,Lg.cp,if_pos rfl]
      exact q4.o
end
section
open Go.RowKit Go.Shelf
def fmtH (area:Nat):Hd:=⟨1,area,0,1⟩
theorem bytes_nil:Bytes []:=fun x hx=>by simp at hx
def fmt1 (area:Nat):List (Int×List Int):=raw (zl area)
def fmt2 (area:Nat):List (Int×List Int):=raw (partSc (fmtH area) 1 0 true [] bytes_nil)
def fmt3 (area:Nat):List (Int×List Int):=raw [headSc (fmtH area)]
theorem Zrz (h:area≤1000):(fmtH area).U32:=⟨(by show(0:Int)≤1∧(1:Int)≤4294967295;omega),(by show(0:Int)≤area∧(area:Int)≤4294967295;omega),(by show(0:Int)≤0∧(0:Int)≤4294967295;omega),(by show(0:Int)≤1∧(1:Int)≤4294967295;omega)⟩
theorem Zr2 {b0 b1:Nat}(w:World)(hD:Dsk w p D F)(hok:D.Ok K)(hK:K≤1099511600000)(ha:area≤1000)(h0:w.heap[b0]?=some (.cells #[.pointer (some ⟨p,0,none⟩)] 25 (0,0)))(h1:w.heap[b1]?=some (.cells #[.int .i64 area] 3 (0,0)))(hb: ¬F b1):
  Calls Tryz.prog 106 #[.pointer (some ⟨b0,0,none⟩),.pointer (some ⟨b1,0,none⟩)] w fun e w'=>e=.returned (.int .i64 (D.laysE (fmt1 area)))∧Left w p (D.lays (fmt1 area)) F w':=by
 have c0:=Zf h0
 have a0:=Zg6 (gf:=108) (lb:=#[.pointer (some ⟨b1,0,none⟩)]) (S:=fun k=>k=b1) (zl area) w hD hok (by rw[Zbn];omega) (enters_of Tryz.func108 (by kernel_rfl) rfl) (fun k hk=>by rw[hk];exact hb) (fun k hk=>by rw[hk];exact Za h1)
  (fun w1 hu1=>Zly Fence.wide (3 - 1) trivial rfl (by omega) b1 area (fun k=>k=b1) ha w1 (fun k hk=>by rw[hk];exact Nat.lt_of_lt_of_le (Za h1) hu1.size) rfl (Zf (kb hu1 h1)))
 have HR:=V a0
 clear a0 h0 h1 hb hD hok
 go_enter Tryz.func106,Tryz.ntmps106
 go_wp2_with (go_at_call 107;fail)
 refine HR.o.mono ?_
 rintro e w6 ⟨rfl,a1⟩
 have HL:=V a1
 clear a1 HR
 simp only[]
 go_wp2
 go_ret
 exact⟨rfl,HL.o⟩
theorem Zr1 {b0:Nat}(w:World)(hD:Dsk w p D F)(hok:D.Ok K)(hK:K≤1099511600000)(ha:4≤area∧area≤1000)(h0:w.heap[b0]?=some (.cells #[.pointer (some ⟨p,0,none⟩)] 25 (0,0)))(h6:w.heap[b6]?=some (.cells #[.int .i64 1,.int .i64 area,.int .i64 0,.int .i64 1] 184 (0,0))):
  Calls Tryz.prog 109 #[.pointer (some ⟨b6,0,none⟩),.pointer (some ⟨b0,0,none⟩)] w fun e w'=>e=.returned (.int .i64 (D.laysE (fmt2 area)))∧Left w p (D.lays (fmt2 area)) F w':=by
 have c0:=Zf h0
 have d0:w.cell? ⟨b6,0,none⟩=some (.int .i64 1):=by simp[World.cell?,h6]
 have d1:w.cell? ⟨b6,1,none⟩=some (.int .i64 area):=by simp[World.cell?,h6]
 have d2:w.cell? ⟨b6,2,none⟩=some (.int .i64 0):=by simp[World.cell?,h6]
 have d3:w.cell? ⟨b6,3,none⟩=some (.int .i64 1):=by simp[World.cell?,h6]
 have a0:=Zg4 (h:=fmtH area) (number:=1) (place:=0) (snap:=true) (v:=.slice none 0 0) w hD hok (by omega) bytes_nil (by simp) (by show(0:Int)≤1∧(1:Int)≤4294967295;omega) (by show(1:Int)≤area∧(area:Int)≤1000;omega) (by omega) (by omega) (.inl ⟨rfl,rfl⟩) (fun hne=>absurd rfl hne)
 have HR:=V a0
 clear a0 h0 h6 hD hok
 go_enter Tryz.func109,Tryz.ntmps109
 go_wp2_with (go_at_call 110;fail)
 refine HR.o.mono ?_
 rintro e w6 ⟨rfl,a1⟩
 have HL:=V a1
 clear a1 HR
 simp only[]
 go_wp2
 go_ret
 exact⟨rfl,HL.o⟩
theorem Zr0 {b0:Nat}(w:World)(hD:Dsk w p D F)(hok:D.Ok K)(hK:K≤1099511600000)(ha:4≤area∧area≤1000)(h0:w.heap[b0]?=some (.cells #[.pointer (some ⟨p,0,none⟩)] 25 (0,0)))(h6:w.heap[b6]?=some (.cells #[.int .i64 1,.int .i64 area,.int .i64 0,.int .i64 1] 184 (0,0))):
  Calls Tryz.prog 111 #[.pointer (some ⟨b6,0,none⟩),.pointer (some ⟨b0,0,none⟩)] w fun e w'=>e=.returned (.int .i64 (D.laysE (fmt3 area)))∧Left w p (D.lays (fmt3 area)) F w':=by
 have c0:=Zf h0
 have d0:w.cell? ⟨b6,0,none⟩=some (.int .i64 1):=by simp[World.cell?,h6]
 have d1:w.cell? ⟨b6,1,none⟩=some (.int .i64 area):=by simp[World.cell?,h6]
 have d2:w.cell? ⟨b6,2,none⟩=some (.int .i64 0):=by simp[World.cell?,h6]
 have d3:w.cell? ⟨b6,3,none⟩=some (.int .i64 1):=by simp[World.cell?,h6]
 have a0:=Zg7 (h:=fmtH area) w hD hok (by omega) (Zrz ha.2)
 have HR:=V a0
 clear a0 h0 h6 hD hok
 go_enter Tryz.func111,Tryz.ntmps111
 go_wp2_with (go_at_call 112;fail)
 refine HR.o.mono ?_
 rintro e w6 ⟨rfl,a1⟩
 have HL:=V a1
 clear a1 HR
 simp only[]
 go_wp2
 go_ret
 exact⟨rfl,HL.o⟩
def fmtD (D:Dk)(area:Nat):Nat→Dk
 | 0=>D
 | 1=>D.lays (fmt1 area)
 | 2=>(D.lays (fmt1 area)).lays (fmt2 area)
 | _=>((D.lays (fmt1 area)).lays (fmt2 area)).lays (fmt3 area)
structure FmtAt (w w3:World) (p b0 b1 b6 area:Nat) (D:Dk) (F:Nat→Prop) (W:World):Prop where
 dsk: ∃F',Dsk W p D F'∧ ∀k,F' k→F k∨w3.heap.size≤k
 upd:Upd F w W
 size:w3.heap.size≤W.heap.size
 c0:W.heap[b0]?=some (.cells #[.pointer (some ⟨p,0,none⟩)] 25 (0,0))
 c1:W.heap[b1]?=some (.cells #[.int .i64 area] 3 (0,0))
 c6:W.heap[b6]?=some (.cells #[.int .i64 1,.int .i64 area,.int .i64 0,.int .i64 1] 184 (0,0))
theorem FmtAt.step {w3 W':World}{b0 b1:Nat}{D':Dk}{F':Nat→Prop}(h:FmtAt w w3 p b0 b1 b6 area D F W)(hw:w.heap.size≤w3.heap.size)(hb: ∀k,(k=b0∨k=b1∨k=b6)→w.heap.size≤k∧k<w3.heap.size)(hF: ∀k,F k→k<w.heap.size)(_d1:Dsk W p D F')(d2: ∀k,F' k→F k∨w3.heap.size≤k)(hl:Left W p D' F' W'):FmtAt w w3 p b0 b1 b6 area D' F W':=by
 obtain⟨F2,e1,e2,e3⟩:=hl
 have hs:=h.size
 have hn: ∀k,(k=b0∨k=b1∨k=b6)→ ¬F' k:=fun k hk e=>by
  have:=hb k hk
  rcases d2 k e with q | q
  ·have:=hF k q;omega
  ·omega
 refine⟨⟨F2,e1,fun k hk=>?_⟩,h.upd.step e3 (fun k hk e=>(d2 k e).elim id (fun q=>by omega)),Nat.le_trans hs e3.size,(e3.block _ (Za h.c0) (hn _ (.inl rfl))).trans h.c0,(e3.block _ (Za h.c1) (hn _ (.inr (.inl rfl)))).trans h.c1,(e3.block _ (Za h.c6) (hn _ (.inr (.inr rfl)))).trans h.c6⟩
 rcases e2 k hk with q | q
 ·exact d2 k q
 ·exact .inr (by omega)
theorem Zod {M:Nat}(w:World)(hD:Dsk w p D F)(hok:D.Ok M)(hK:M≤1000000000)(ha:4≤area∧area≤1000)(hlen:2+2 * area≤D.arr.length)
  (hE1:D.laysE (fmt1 area)=0) (hE2:(fmtD D area 1).laysE (fmt2 area)=0) (hE3:(fmtD D area 2).laysE (fmt3 area)=0):
  Calls Tryz.prog 41 #[.pointer (some ⟨p,0,none⟩),.int .i64 area] w fun e w'=> ∃q G' F',e=.returned (.tuple #[.pointer (some ⟨q,0,none⟩),.int .i64 0])∧Wal w' q p ⟨fmtH area,[[]],1,false⟩ (fmtD D area 3) G' F'∧(∀k,G' k→w.heap.size≤k)∧(∀k,F' k→F k∨w.heap.size≤k)∧Upd F w w':=by
 have c3:=hD.lt
 have HD:=V hD;have b3:=V hok;have b1:=V c3;have d3:=V hE1;have d6:=V hE2;have c9:=V hE3
 obtain⟨w2,a6⟩: ∃w2,w2=(w.alloc (.cells #[.pointer (some ⟨p,0,none⟩)] 25)).alloc (.cells #[.int .i64 area] 3):=⟨_,rfl⟩
 have b9:U0 w w2:=by rw[a6];exact((Upd.refl _ w).alloc _).alloc _
 have h0:w2.heap[w.heap.size]?=some (.cells #[.pointer (some ⟨p,0,none⟩)] 25 (0,0)):=by rw[a6];exact(Zm (by simp)).trans (Zc rfl)
 have h1:w2.heap[w.heap.size+1]?=some (.cells #[.int .i64 area] 3 (0,0)):=by rw[a6];exact Zc (by simp)
 have c2:w2.heap.size=w.heap.size+2:=by rw[a6];simp
 have b7:=V b9;have H0:=V h0;have H1:=V h1;have c7:=V c2
 have c0:=Zf h0;have c1:=Zf h1
 clear hD hok c3 hE1 hE2 hE3 b9 h0 h1 c2
 go_enter Tryz.func41,Tryz.ntmps41
 go_upto_region 1 with fail
 rw[←a6]
 clear a6
 go_upto_region 3 with fail
 clear c0 c1
 have hA:U0 w2 w2.drew:=(Upd.refl _ w2).drew
 have n1: ¬(area:Int)<4:=by omega
 have n2: ¬(area:Int) > 1000:=by omega
 have n3: ¬(D.arr.length:Int)<2+2 * area:=by omega
 have v1:IntKind.i64.wrap (2 * (area:Int))=2 * area:=by rw[IntKind.wrap_i64];omega
 have v2:IntKind.i64.wrap (2+2 * (area:Int))=2+2 * area:=by rw[IntKind.wrap_i64];omega
 refine Zj 13 (fun W=>U0 w2 W) [false,false,false,false,false,false,false,false,false,false,false,false,false,false] rfl (by kernel_rfl) ?_
 refine tqZ 0 (.int .i64 area) [6,2,1] hA (fun w5 q1=>?_) ?_
 ·have cc:=Zf (kb q1 H1.o)
  go_simp
 simp only[zz]
 refine tpZ 1 (.bool false) hA ?_
 simp only[zz]
 refine tpZ 2 (.bool false) hA ?_
 simp only[zz]
 refine tqZ 3 (.int .i64 area) [6,5,4] hA (fun w5 q1=>?_) ?_
 ·have cc:=Zf (kb q1 H1.o)
  go_simp
 simp only[zz]
 refine tpZ 4 (.bool false) hA ?_
 simp only[zz]
 refine tpZ 5 (.bool false) hA ?_
 simp only[zz]
 refine tpZ 6 (.bool false) hA ?_
 simp only[zz]
 refine tqZ 7 (.pointer (some ⟨p,0,none⟩)) [12,8] hA (fun w5 q1=>?_) ?_
 ·have cc:=Zf (kb q1 H0.o)
  go_simp
 simp only[zz]
 refine tqZ 9 (.int .i64 area) [12,11,10] hA (fun w5 q1=>?_) ?_
 ·have cc:=Zf (kb q1 H1.o)
  go_simp
 simp only[zz]
 refine tpZ 10 (.int .i64 (2 * area)) hA ?_
 simp only[zz]
 refine tpZ 11 (.int .i64 (2+2 * area)) hA ?_
 simp only[zz]
 refine diZ 8 (fun K a0=>?_)
 go_step
 refine(Zin _ ((HD.o.kept b7.o n3Z).kept hA n3Z)).mono ?_
 rintro e W3 ⟨rfl,rfl⟩
 simp only[]
 refine a0.o _ _ hA ?_
 clear a0
 simp only[zz]
 refine tpZ 12 (.bool false) hA ?_
 simp only[zz]
 refine tlZ 13 ?_
 simp only[List.drop]
 have HA:=V (b7.o.trans hA)
 have b5:=V (kb hA H0.o);have b0:=V (kb hA H1.o)
 have c1:=Zf b0.o
 clear hA b7 H0 H1
 have j0: ∀W,(Instr.index 190 (.agg #[.func (.func 106) #[] #[.pointer (some ⟨w.heap.size,0,none⟩),.pointer (some ⟨w.heap.size+1,0,none⟩)],.func (.func 109) #[] #[.pointer (some ⟨w2.heap.size,0,none⟩),.pointer (some ⟨w.heap.size,0,none⟩)],.func (.func 111) #[] #[.pointer (some ⟨w2.heap.size,0,none⟩),.pointer (some ⟨w.heap.size,0,none⟩)]]) (.int .i64 0)).run Tryz.prog W=.ok (.func (.func 106) #[] #[.pointer (some ⟨w.heap.size,0,none⟩),.pointer (some ⟨w.heap.size+1,0,none⟩)]) W:=fun W=>by kernel_rfl
 have j1: ∀W,(Instr.index 190 (.agg #[.func (.func 106) #[] #[.pointer (some ⟨w.heap.size,0,none⟩),.pointer (some ⟨w.heap.size+1,0,none⟩)],.func (.func 109) #[] #[.pointer (some ⟨w2.heap.size,0,none⟩),.pointer (some ⟨w.heap.size,0,none⟩)],.func (.func 111) #[] #[.pointer (some ⟨w2.heap.size,0,none⟩),.pointer (some ⟨w.heap.size,0,none⟩)]]) (.int .i64 1)).run Tryz.prog W=.ok (.func (.func 109) #[] #[.pointer (some ⟨w2.heap.size,0,none⟩),.pointer (some ⟨w.heap.size,0,none⟩)]) W:=fun W=>by kernel_rfl
 have j2: ∀W,(Instr.index 190 (.agg #[.func (.func 106) #[] #[.pointer (some ⟨w.heap.size,0,none⟩),.pointer (some ⟨w.heap.size+1,0,none⟩)],.func (.func 109) #[] #[.pointer (some ⟨w2.heap.size,0,none⟩),.pointer (some ⟨w.heap.size,0,none⟩)],.func (.func 111) #[] #[.pointer (some ⟨w2.heap.size,0,none⟩),.pointer (some ⟨w.heap.size,0,none⟩)]]) (.int .i64 2)).run Tryz.prog W=.ok (.func (.func 111) #[] #[.pointer (some ⟨w2.heap.size,0,none⟩),.pointer (some ⟨w.heap.size,0,none⟩)]) W:=fun W=>by kernel_rfl
 go_upto_region 7 with fail
 obtain⟨w3,a3⟩: ∃w3,w3=w2.drew.alloc (.cells #[.int .i64 1,.int .i64 area,.int .i64 0,.int .i64 1] 184):=⟨_,rfl⟩
 refine(?_:Code.wp _ _ _ _ (w2.drew.alloc (.cells #[.int .i64 1,.int .i64 area,.int .i64 0,.int .i64 1] 184)))
 rw[←a3]
 have a8:w3.heap.size=w.heap.size+3:=by rw[a3];have:=c7.o;simp;omega
 have b4:U0 w w3:=by rw[a3];exact HA.o.alloc _
 have c5:FmtAt w w3 p w.heap.size (w.heap.size+1) w2.heap.size area D F w3:=by
  refine⟨⟨F,HD.o.kept b4 n3Z,fun k hk=>.inl hk⟩,b4.mono (fun _ _ e=>e.elim),Nat.le_refl _,?_,?_,?_⟩
  ·rw[a3];exact(Zm (Za b5.o)).trans b5.o
  ·rw[a3];exact(Zm (Za b0.o)).trans b0.o
  ·rw[a3];exact Zc rfl
 have c4:=V c5;have b2:=V a8
 have b6:RowKit.Hid (∀k,(k=w.heap.size∨k=w.heap.size+1∨k=w2.heap.size)→w.heap.size≤k∧k<w3.heap.size):=V (fun k hk=>by have:=c7.o;omega)
 have a4:RowKit.Hid (∀k,k≤3→(fmtD D area k).Ok (M+5000 * k)):=V (by
  have z1:=Dk.lays_ok (zl area) b3.o
  have z2:=Dk.lays_ok (partSc (fmtH area) 1 0 true [] bytes_nil) z1
  have z3:=Dk.lays_ok [headSc (fmtH area)] z2
  rw[Zbn] at z1 z2 z3
  rw[Yk] at z2 z3
  have d4:secsN ([]:List Int).length=1:=rfl
  rw[d4] at z2 z3
  intro k hk
  have:k=0∨k=1∨k=2∨k=3:=by omega
  rcases this with rfl | rfl | rfl | rfl
  ·exact b3.o
  ·exact Dk.Ok.mono z1 (by omega)
  ·exact Dk.Ok.mono z2 (by omega)
  ·exact Dk.Ok.mono z3 (by simp;omega))
 clear c5 a8 b4 a3 HA b5 b0 c1 b3 HD
 go_loopg [32] 3 (fun gk i wr=> ∃k:Nat,k≤3∧gk=3 - k∧i=.int .i64 k∧FmtAt w w3 p w.heap.size (w.heap.size+1) w2.heap.size area (fmtD D area k) F wr)
 case atStart=>exact⟨0,by omega,rfl,rfl,c4.o⟩
 case round=>
  obtain⟨k,hk,rfl,rfl,hs⟩:=hrel
  obtain⟨wo,rfl⟩: ∃wo,wo=wr:=⟨_,rfl⟩
  have HS:=V hs
  clear hs c4
  by_cases d7:k<3
  ·have b8:k=0∨k=1∨k=2:=by omega
   obtain⟨F',d1,d2⟩:=HS.o.dsk
   have a5:w.heap.size≤w3.heap.size:=by have:=b2.o;omega
   have c8: ¬F' (w.heap.size+1):=fun e=>by
    rcases d2 _ e with q | q
    ·have:=b1.o _ q;omega
    ·have:=b2.o;omega
   have D1:=V d1;have D2:=V d2;have a9:=V c8
   clear d1 d2 c8
   rcases b8 with rfl | rfl | rfl
   ·
    go_wp2_with (go_at_call 106;fail)
    refine(Zr2 (D:=fmtD D area 0) wo D1.out (a4.o 0 (by omega)) (by omega) ha.2 HS.o.c0 HS.o.c1 a9.o).mono ?_
    rintro e W3 ⟨rfl,hl⟩
    rw[show(fmtD D area 0).laysE (fmt1 area)=0 from d3.o]
    have a1:=V (HS.o.step a5 b6.o b1.o D1.out D2.out hl)
    clear hl D1 D2 a9
    simp only[]
    go_wp2
    go_roundg (3 - (0+1))
    case measure=>omega
    case rel=>exact⟨0+1,by omega,rfl,rfl,a1.o⟩
   ·
    go_wp2_with (go_at_call 109;fail)
    refine(Zr1 (D:=fmtD D area 1) wo D1.out (a4.o 1 (by omega)) (by omega) ha HS.o.c0 HS.o.c6).mono ?_
    rintro e W3 ⟨rfl,hl⟩
    rw[d6.o]
    have a1:=V (HS.o.step a5 b6.o b1.o D1.out D2.out hl)
    clear hl D1 D2 a9
    simp only[]
    go_wp2
    go_roundg (3 - (1+1))
    case measure=>omega
    case rel=>exact⟨1+1,by omega,rfl,rfl,a1.o⟩
   ·
    go_wp2_with (go_at_call 111;fail)
    refine(Zr0 (D:=fmtD D area 2) wo D1.out (a4.o 2 (by omega)) (by omega) ha HS.o.c0 HS.o.c6).mono ?_
    rintro e W3 ⟨rfl,hl⟩
    rw[c9.o]
    have a1:=V (HS.o.step a5 b6.o b1.o D1.out D2.out hl)
    clear hl D1 D2 a9
    simp only[]
    go_wp2
    go_roundg (3 - (2+1))
    case measure=>omega
    case rel=>exact⟨2+1,by omega,rfl,rfl,a1.o⟩
  ·obtain rfl:k=3:=by omega
   have hs:=HS.o
   obtain⟨F',d1,d2⟩:=hs.dsk
   have D1:=V d1;have D2:=V d2
   clear d1 d2 hs
   have hA:U0 wo wo.drew:=(Upd.refl _ wo).drew
   go_upto_region 13 with fail
   refine Zj 5 (fun W=>U0 wo W) [false,false,false,false,false,false,false,false] rfl (by kernel_rfl) ?_
   refine tqZ 0 (.agg #[.int .i64 1,.int .i64 area,.int .i64 0,.int .i64 1]) [4] hA (fun w5 q1=>?_) ?_
   ·exact Zv rfl rfl [.int .i64 1,.int .i64 area,.int .i64 0,.int .i64 1] (Zh (cs:=[.int .i64 1,.int .i64 area,.int .i64 0,.int .i64 1]) (kb q1 HS.o.c6)) Tryz.underlying184 rfl (by kernel_rfl)
   simp only[zz]
   refine tqZ 1 (.pointer (some ⟨p,0,none⟩)) [4] hA (fun w5 q1=>?_) ?_
   ·have cc:=Zf (kb q1 HS.o.c0)
    go_simp
   simp only[zz]
   refine Ya (i:=2) (j:=3) rfl rfl (by kernel_rfl) rfl rfl (fun K hK=>?_) (fun K hK=>?_)
   ·
    have a0:=V hK
    clear hK
    go_step
    have a2:U0 wo (wo.drew.alloc (.cells #[.slice none 0 0] 39)):=hA.alloc _
    refine a0.o _ _ a2 ?_
    clear a0
    simp only[zz]
    refine diZ 3 (fun K a0=>?_)
    go_step
    refine(Yf _ _).mono ?_
    rintro e W3 ⟨rfl,rfl⟩
    rw[show secsI 0=1 from rfl]
    simp only[]
    refine a0.o _ _ a2 ?_
    clear a0
    simp only[zz]
    refine tpZ 4 (.agg #[.int .i64 1,.int .i64 area,.int .i64 0,.int .i64 1,.pointer (some ⟨p,0,none⟩),.slice (some ⟨wo.heap.size,0,none⟩) 1 1,.int .i64 1,.bool false]) a2 ?_
    simp only[zz]
    refine tlZ 5 ?_
    simp only[List.drop]
    go_wp2
    go_returns
    have a7:U0 wo ((wo.drew.alloc (.cells #[.slice none 0 0] 39)).alloc (.cells #[.int .i64 1,.int .i64 area,.int .i64 0,.int .i64 1,.pointer (some ⟨p,0,none⟩),.slice (some ⟨wo.heap.size,0,none⟩) 1 1,.int .i64 1,.bool false] 193)):=a2.alloc _
    have a8:=b2.o
    have d0:=HS.o.size
    refine⟨wo.heap.size+1,Gp (wo.heap.size+1) (.slice (some ⟨wo.heap.size,0,none⟩) 1 1) [.slice none 0 0],F',rfl,⟨⟨_,_,⟨Zc (by simp),⟨rfl,.inr ⟨wo.heap.size,1,_,rfl,Nat.zero_le _,(Zm (by simp)).trans (Zc rfl),Nat.le_refl _,by unfold maxLen;omega,rfl,rfl⟩⟩,?_,?_,?_⟩,fun _=>Iff.rfl⟩,D1.out.kept a7 n3Z,?_⟩,?_,?_,HS.o.upd.trans (a7.mono (fun _ _ e=>e.elim))⟩
    ·intro i v b hv hb
     match i,hv,hb with
     | 0,hv,hb=>simp at hv hb;subst hv;subst hb;exact World.ownsRow_nil _ _ _ _
     |i+1,hv,hb=>simp at hv
    ·intro k hk;simp[Value.ownBlock] at hk;omega
    ·intro v k hv hk;simp at hv;subst hv;simp[Value.ownBlock] at hk
    ·rintro k hk hF
     have d5:=D1.out.lt k hF
     rcases hk with rfl | hk | ⟨v,hv,hk⟩
     ·omega
     ·simp[Value.ownBlock] at hk;omega
     ·simp at hv;subst hv;simp[Value.ownBlock] at hk
    ·rintro k (rfl | hk | ⟨v,hv,hk⟩)
     ·omega
     ·simp[Value.ownBlock] at hk;omega
     ·simp at hv;subst hv;simp[Value.ownBlock] at hk
    ·intro k hk
     exact(D2.out k hk).imp id (fun q=>by omega)
   ·
    have a0:=V hK
    clear hK
    go_step
    refine(Yf _ _).mono ?_
    rintro e W3 ⟨rfl,rfl⟩
    rw[show secsI 0=1 from rfl]
    simp only[]
    refine a0.o _ _ hA ?_
    clear a0
    simp only[zz]
    refine diZ 2 (fun K a0=>?_)
    go_step
    have a2:U0 wo (wo.drew.alloc (.cells #[.slice none 0 0] 39)):=hA.alloc _
    refine a0.o _ _ a2 ?_
    clear a0
    simp only[zz]
    refine tpZ 4 (.agg #[.int .i64 1,.int .i64 area,.int .i64 0,.int .i64 1,.pointer (some ⟨p,0,none⟩),.slice (some ⟨wo.heap.size,0,none⟩) 1 1,.int .i64 1,.bool false]) a2 ?_
    simp only[zz]
    refine tlZ 5 ?_
    simp only[List.drop]
    go_wp2
    go_returns
    have a7:U0 wo ((wo.drew.alloc (.cells #[.slice none 0 0] 39)).alloc (.cells #[.int .i64 1,.int .i64 area,.int .i64 0,.int .i64 1,.pointer (some ⟨p,0,none⟩),.slice (some ⟨wo.heap.size,0,none⟩) 1 1,.int .i64 1,.bool false] 193)):=a2.alloc _
    have a8:=b2.o
    have d0:=HS.o.size
    refine⟨wo.heap.size+1,Gp (wo.heap.size+1) (.slice (some ⟨wo.heap.size,0,none⟩) 1 1) [.slice none 0 0],F',rfl,⟨⟨_,_,⟨Zc (by simp),⟨rfl,.inr ⟨wo.heap.size,1,_,rfl,Nat.zero_le _,(Zm (by simp)).trans (Zc rfl),Nat.le_refl _,by unfold maxLen;omega,rfl,rfl⟩⟩,?_,?_,?_⟩,fun _=>Iff.rfl⟩,D1.out.kept a7 n3Z,?_⟩,?_,?_,HS.o.upd.trans (a7.mono (fun _ _ e=>e.elim))⟩
    ·intro i v b hv hb
     match i,hv,hb with
     | 0,hv,hb=>simp at hv hb;subst hv;subst hb;exact World.ownsRow_nil _ _ _ _
     |i+1,hv,hb=>simp at hv
    ·intro k hk;simp[Value.ownBlock] at hk;omega
    ·intro v k hv hk;simp at hv;subst hv;simp[Value.ownBlock] at hk
    ·rintro k hk hF
     have d5:=D1.out.lt k hF
     rcases hk with rfl | hk | ⟨v,hv,hk⟩
     ·omega
     ·simp[Value.ownBlock] at hk;omega
     ·simp at hv;subst hv;simp[Value.ownBlock] at hk
    ·rintro k (rfl | hk | ⟨v,hv,hk⟩)
     ·omega
     ·simp[Value.ownBlock] at hk;omega
     ·simp at hv;subst hv;simp[Value.ownBlock] at hk
    ·intro k hk
     exact(D2.out k hk).imp id (fun q=>by omega)
end
section
open Go.RowKit
structure Dk.Good (D:Dk) (N:Nat):Prop where
 dead:D.dead=false
 arm:D.arm= -1
 fail:D.fail= -1
 len:D.arr.length=N
theorem Dk.Good.callD (h:D.Good N){i:Int}(hi:0≤i∧i<N):D.callE i true=0∧(D.callD i true).Good N∧D.callR i true=true∧(D.callD i true).arr=D.arr:=by
 obtain⟨h1,h2,h3,h4⟩:=h
 have n1: ¬(i<0∨(D.arr.length:Int)≤i):=by omega
 have e:D.callD i true={D with fail:=max (D.fail - 1) (-1),ops:=D.ops+1,arm:=max (D.arm - 1) (-1)}:=by
  simp[Dk.callD,h1,h2,h3,n1]
 refine⟨by simp[Dk.callE,h1,h2,h3,n1],?_,by simp[Dk.callR,h1,h2,h3];omega,by rw[e]⟩
 rw[e]
 exact⟨h1,by show max (D.arm - 1) (-1)= -1;omega,by show max (D.fail - 1) (-1)= -1;omega,h4⟩
theorem Dk.Good.write (h:D.Good N){i:Int}(hi:0≤i∧i<N)(b:List Int):(D.write i b).Good N:=by
 obtain⟨_,h2,h3,_⟩:=h.callD hi
 unfold Dk.write
 rw[if_pos h3]
 exact⟨h2.dead,h2.arm,h2.fail,h2.len⟩
theorem Dk.Good.sync (h:D.Good N)(hN:0<N):D.callE 0 true=0∧D.sync.Good N:=by
 obtain⟨h1,h2,_,_⟩:=h.callD (i:=0) (by omega)
 refine⟨h1,?_⟩
 unfold Dk.sync
 rw[if_pos h1]
 exact⟨h2.dead,h2.arm,h2.fail,by have:=h2.len;simpa [Dk.arrive] using this⟩
theorem Dk.Good.lays: ∀(l:List (Int×List Int)) {D:Dk} {N:Nat},D.Good N→0<N→(∀x∈l,0≤x.1∧x.1<N)→D.laysE l=0∧(D.lays l).Good N
 | [],_,_,h,hN,_=>h.sync hN
 | (i,b) :: l,D,N,h,hN,hl=>by
  have hi:=hl (i,b) (List.mem_cons_self ..)
  have he:=(h.callD (i:=i) hi).1
  unfold Dk.laysE Dk.lays
  rw[if_pos he,if_pos he]
  exact Dk.Good.lays l (h.write hi b) hN (fun x hx=>hl x (List.mem_cons_of_mem _ hx))
theorem Zf2 {area place:Int}(ha:1≤area):2≤atF area place∧atF area place<2+2 * area:=by
 unfold atF
 have h1:=Int.emod_nonneg place (b:=2 * area) (by omega)
 have h2:=Int.emod_lt_of_pos place (b:=2 * area) (by omega)
 omega
theorem Zb5 {number place:Int}{snap:Bool}{b:List Int}(hb:Bytes b)(ha:1≤h.area)(hN:2+2 * h.area≤N): ∀x∈raw (partSc h number place snap b hb),0≤x.1∧x.1<N:=by
 intro x hx
 simp only[raw,partSc,List.map_map,List.mem_map] at hx
 obtain⟨k,_,rfl⟩:=hx
 have:=Zf2 (area:=h.area) (place:=place+k) ha
 show 0≤atF h.area (place+k)∧atF h.area (place+k)<N
 omega
theorem Zdf (hN:2≤N): ∀x∈raw [headSc h],0≤x.1∧x.1<N:=by
 intro x hx
 simp[raw,headSc] at hx
 subst hx
 have h1:=Int.emod_nonneg h.turn (b:=2) (by omega)
 have h2:=Int.emod_lt_of_pos h.turn (b:=2) (by omega)
 show 0≤h.turn % 2∧h.turn % 2<N
 omega
theorem Zj8 (hN:2+2 * area≤N): ∀x∈raw (zl area),0≤x.1∧x.1<N:=by
 intro x hx
 simp only[raw,zl,List.map_map,List.mem_map,List.mem_range] at hx
 obtain⟨k,hk,rfl⟩:=hx
 show(0:Int)≤(k:Int)∧(k:Int)<N
 omega
structure WalG (w:World) (q p:Nat) (X:Lg) (D:Dk) (G F:Nat→Prop) (N K:Nat):Prop where
 wal:Wal w q p X D G F
 ok:X.Ok
 unbroken:X.broken=false
 good:D.Good N
 dok:D.Ok K
 fits:2+2 * X.h.area≤N
theorem WalG.kept {w':World}{G H:Nat→Prop}(h:WalG w q p X D G F N K)(hu:Upd H w w')(h1: ∀k,G k→ ¬H k)(h2: ∀k,F k→ ¬H k):WalG w' q p X D G F N K:=
 ⟨⟨h.wal.1.kept hu h1,h.wal.2.1.kept hu h2,h.wal.2.2⟩,h.ok,h.unbroken,h.good,h.dok,h.fits⟩
def Lg.apS (X:Lg)(b:List Int)(hb:Bytes b):List (Int×List Int):=raw (partSc X.h (X.h.number+X.parts.length) (X.h.place+X.used) false b hb)
theorem Lg.Ok.add (h:X.Ok){b:List Int}(hb:Bytes b)(hl:b.length≤40000)(hr:X.used+secsN b.length≤X.h.area)(hp:X.parts.length<1000):(X.add b).Ok:=by
 have h1:=h.used;have h2:=h.area
 refine⟨h.turn,h.area,h.place,h.number,by show 0≤X.used+(secsN b.length:Int)∧X.used+(secsN b.length:Int)≤1000;omega,by simp[Lg.add];omega,?_⟩
 intro c hc
 simp only[Lg.add,List.mem_append,List.mem_singleton] at hc
 rcases hc with hc | rfl
 ·exact h.bytes c hc
 ·exact⟨hb,hl⟩
theorem Zgr (w:World)(hD:Dsk w p D F)(hg:D.Good N)(hok:D.Ok K)(hK:K≤1000000)(ha:4≤area∧area≤1000)(hlen:2+2 * area≤N):
  Calls Tryz.prog 41 #[.pointer (some ⟨p,0,none⟩),.int .i64 area] w fun e w'=> ∃q G' F',e=.returned (.tuple #[.pointer (some ⟨q,0,none⟩),.int .i64 0])∧WalG w' q p ⟨fmtH area,[[]],1,false⟩ (fmtD D area 3) G' F' N (K+20000)∧(∀k,G' k→w.heap.size≤k)∧(∀k,F' k→F k∨w.heap.size≤k)∧Upd F w w':=by
 have hN:0<N:=by omega
 obtain⟨g1,g2⟩:=hg.lays (fmt1 area) hN (Zj8 hlen)
 obtain⟨g3,g4⟩:=g2.lays (fmt2 area) hN (Zb5 bytes_nil (by show(1:Int)≤area;omega) (by show 2+2 * (area:Int)≤N;omega))
 obtain⟨g5,g6⟩:=g4.lays (fmt3 area) hN (Zdf (by omega))
 have z1:=Dk.lays_ok (zl area) hok
 have z2:=Dk.lays_ok (partSc (fmtH area) 1 0 true [] bytes_nil) z1
 have z3:=Dk.lays_ok [headSc (fmtH area)] z2
 rw[Zbn] at z3
 rw[Yk] at z3
 have a0:secsN ([]:List Int).length=1:=rfl
 rw[a0] at z3
 refine(Zod w hD hok (by omega) ha (by rw[hg.len];exact hlen) g1 g3 g5).mono ?_
 rintro e w' ⟨q,G',F',rfl,h1,h2,h3,h4⟩
 refine⟨q,G',F',rfl,⟨h1,?_,rfl,g6,Dk.Ok.mono z3 (by simp;omega),by show 2+2 * (area:Int)≤N;omega⟩,h2,h3,h4⟩
 exact⟨(by show(0:Int)≤1∧(1:Int)≤1073741824;omega),(by show(4:Int)≤area∧(area:Int)≤1000;omega),(by show(0:Int)≤0∧(0:Int)≤100000;omega),(by show(0:Int)≤1∧(1:Int)≤1073741825;omega),(by show(0:Int)≤1∧(1:Int)≤1000;omega),(by simp),(by intro b hb;simp at hb;subst hb;exact⟨bytes_nil,by simp⟩)⟩
theorem Zcv (n:Nat)(w:World)(hn:1≤n∧n≤2048):Calls Tryz.prog 13 #[.int .i64 n] w fun e w'=> ∃F,e=.returned (.tuple #[.pointer (some ⟨w.heap.size+1,0,none⟩),.int .i64 0])∧Dsk w' (w.heap.size+1) (Dk.new n) F∧(∀k,F k→w.heap.size≤k)∧U0 w w'∧(Dk.new n).Good n∧(Dk.new n).Ok 0:=by
 refine(Zrm n w hn).mono ?_
 rintro e w' ⟨rfl,h⟩
 obtain⟨F,h1,h2,h3⟩:=h.dsk hn
 exact⟨F,rfl,h1,h2,h3,⟨rfl,rfl,rfl,by simp[Dk.new]⟩,Dk.new_ok hn 0⟩
def zs (n:Nat):List Int:=List.replicate n 0
theorem Zdl (n:Nat):(zs n).length=n:=by simp[zs]
theorem Zj7 (n:Nat):Bytes (zs n):=Bytes.zeros n
theorem Zue (W:World)(n:Nat)(hn:n≤1000):BytesIn (W.alloc (.cells (madeCells #[.int .u8 0] n) 5)) (.slice (some ⟨W.heap.size,0,none⟩) n n) (zs n):=by
 have hl:(zs n).length=n:=Zdl n
 refine .inr ⟨⟨W.heap.size,0,none⟩,n,by rw[hl],by omega,by unfold maxLen;omega,fun i u hi=>?_⟩
 rw[Addr.add_mid,Nat.zero_add,Zr (Zc rfl)]
 have hm:(madeCells #[Value.int .u8 0] n).toList=bcells (zs n):=by
  simp only[madeCells,zs,bcells]
  apply List.ext_getElem
  ·simp
  ·intro j h1 h2
   simp[Nat.mod_one]
 rw[←hi,←hm]
 simp
end
section
open Go.RowKit Go.Shelf
attribute [local go_sem] Oper.semAt_some
theorem Zpg (h:w.heap[b]?=some (.cells #[v] 4 (0,0))):(loadVar 4 ⟨b,0,none⟩).run Tryz.prog w=.ok v w:=by
 have hc:=Zf h
 simp[loadVar,isAgg,run_underlying Tryz.underlying4,Sem.run_bind,hc]
end
section
open Go.RowKit Go.Shelf
def beF (bs:List Int):Int:=bs.foldl (fun x b=>x * 256+b) 0
theorem Zei {x b:Int}(n:Nat)(hn:n≤24)(h0:0≤x)(h1:x<2 ^ n)(h2:0≤b)(h3:b≤255):bits .or .u64 x (b * 2 ^ n)=b * 2 ^ n+x:=by
 obtain⟨B,rfl⟩:=Int.eq_ofNat_of_zero_le h2
 obtain⟨X,rfl⟩:=Int.eq_ofNat_of_zero_le h0
 have e:(B:Int) * 2 ^ n=((2 ^ n * B:Nat):Int):=by rw[Int.mul_comm];push_cast;rfl
 have hX:X<2 ^ n:=by exact_mod_cast h1
 have a0:2 ^ n≤2 ^ 24:=Nat.pow_le_pow_right (by omega) hn
 have hm:2 ^ n * B≤2 ^ 24 * 255:=Nat.mul_le_mul a0 (by omega)
 rw[e,u64_or_nat _ _ (by omega) (by omega),Nat.or_comm,←Nat.two_pow_add_eq_or_of_lt hX]
 push_cast
 rfl
def be4 (b0 b1 b2 b3:Int):Nat→Int
 | 0=>0
 | 1=>b3
 | 2=>b2 * 256+b3
 | 3=>b1 * 65536+(b2 * 256+b3)
 | _=>b0 * 16777216+(b1 * 65536+(b2 * 256+b3))
theorem Zqq {g o c bx:Nat}(w:World)(hb: ∀i v,(bcells [b0,b1,b2,b3])[i]?=some v→w.cell? ⟨g,o+i,none⟩=some v)(hB:Bytes [b0,b1,b2,b3])(hx:w.heap[bx]?=some (.cells #[.int .u64 0] 53 (0,0)))(hne:g≠bx):
  Calls Tryz.prog 181 #[.slice (some ⟨g,o,none⟩) 4 c,.pointer (some ⟨bx,0,none⟩)] w fun e w'=>(∃v,e=.returned v)∧w'.heap[bx]?=some (.cells #[.int .u64 (be4 b0 b1 b2 b3 4)] 53 (0,0))∧Upd (fun k=>k=bx) w w':=by
 have q0:w.cell? ⟨g,o,none⟩=some (.int .u8 b0):=hb 0 (.int .u8 b0) rfl
 have q1:w.cell? ⟨g,o+1,none⟩=some (.int .u8 b1):=hb 1 (.int .u8 b1) rfl
 have q2:w.cell? ⟨g,o+2,none⟩=some (.int .u8 b2):=hb 2 (.int .u8 b2) rfl
 have q3:w.cell? ⟨g,o+3,none⟩=some (.int .u8 b3):=hb 3 (.int .u8 b3) rfl
 have HX:=V hx;have HB:=V hB;have HN:=V hne
 have HQ:=V (And.intro q0 (And.intro q1 (And.intro q2 q3)))
 clear q0 q1 q2 q3 hb hB hx hne
 go_enter Tryz.func181,Tryz.ntmps181
 go_upto_region 1 with fail
 go_loopg [6] 4 (fun gk i wr=> ∃k:Nat,k≤4∧gk=4 - k∧i=.int .i64 k∧Upd (fun k=>k=bx) w wr∧wr.heap[bx]?=some (.cells #[.int .u64 (be4 b0 b1 b2 b3 k)] 53 (0,0)))
 case atStart=>exact⟨0,by omega,rfl,rfl,Upd.refl _ _,HX.o⟩
 case round=>
  obtain⟨k,hk,rfl,rfl,hu,hc⟩:=hrel
  have c1:=Zf hc
  have f1:wr.frozen? ⟨bx,0,none⟩=false:=Zb hc
  have HU:=V hu;have HC:=V hc
  clear hu hc
  have hB:=HB.o
  have a2:IntKind.u64.wrap b3=b3:=by have:=hB b3 (by simp);rw[IntKind.wrap_u64];omega
  have a0:IntKind.u64.wrap b2=b2:=by have:=hB b2 (by simp);rw[IntKind.wrap_u64];omega
  have a1:IntKind.u64.wrap b1=b1:=by have:=hB b1 (by simp);rw[IntKind.wrap_u64];omega
  have a3:IntKind.u64.wrap b0=b0:=by have:=hB b0 (by simp);rw[IntKind.wrap_u64];omega
  clear hB
  obtain rfl | rfl | rfl | rfl | rfl:k=0∨k=1∨k=2∨k=3∨k=4:=by omega
  ·have q:wr.cell? ⟨g,o+3,none⟩=some (.int .u8 b3):=Zo HU.o (by simpa using HN.o) HQ.o.2.2.2
   try simp only[show((0:Nat):Int)=0 from rfl]
   go_upto_region 3 with fail
   go_still_tail 14,(by kernel_rfl)
   try simp only[show IntKind.i64.wrap 3=3 from rfl]
   repeat still_step
   try simp only[show IntKind.i64.wrap 0=0 from rfl]
   repeat still_step
   try refine wpStill_nil ?_
   change wpList _ _ _ _ _ (World.drew _)
   go_wp2
   go_roundg (4 - (0+1))
   case measure=>omega
   case rel=>
    refine⟨1,by omega,rfl,rfl,HU.o.trans (((Zd wr bx 0 _).drew)),?_⟩
    have hB:=HB.o
    have h0:=hB b0 (by simp);have h1:=hB b1 (by simp);have h2:=hB b2 (by simp);have h3:=hB b3 (by simp); 
    have e:bits .or .u64 (be4 b0 b1 b2 b3 0) b3=be4 b0 b1 b2 b3 1:=by have:=Zei (x:=0) (b:=b3) 0 (by omega) (by omega) (by omega) (by omega) (by omega);simpa [be4] using this
    rw[e]
    have:=Ze (i:=0) (v:=.int .u64 (be4 b0 b1 b2 b3 1)) HC.o
    simpa [World.drew] using this
  ·have q:wr.cell? ⟨g,o+2,none⟩=some (.int .u8 b2):=Zo HU.o (by simpa using HN.o) HQ.o.2.2.1
   try simp only[show((1:Nat):Int)=1 from rfl]
   go_upto_region 3 with fail
   go_still_tail 14,(by kernel_rfl)
   try simp only[show IntKind.i64.wrap (3 - 1)=2 from rfl,show IntKind.i64.wrap 3=3 from rfl]
   repeat still_step
   try simp only[show IntKind.i64.wrap 8=8 from rfl]
   repeat still_step
   try refine wpStill_nil ?_
   change wpList _ _ _ _ _ (World.drew _)
   go_wp2
   go_roundg (4 - (1+1))
   case measure=>omega
   case rel=>
    refine⟨2,by omega,rfl,rfl,HU.o.trans (((Zd wr bx 0 _).drew)),?_⟩
    have hB:=HB.o
    have h0:=hB b0 (by simp);have h1:=hB b1 (by simp);have h2:=hB b2 (by simp);have h3:=hB b3 (by simp); 
    have e:bits .or .u64 (be4 b0 b1 b2 b3 1) (IntKind.u64.wrap (b2 * 256))=be4 b0 b1 b2 b3 2:=by rw[show IntKind.u64.wrap (b2 * 256)=b2 * 2 ^ 8 by rw[IntKind.wrap_u64];omega];exact Zei (x:=b3) 8 (by omega) (by omega) (by omega) (by omega) (by omega)
    rw[e]
    have:=Ze (i:=0) (v:=.int .u64 (be4 b0 b1 b2 b3 2)) HC.o
    simpa [World.drew] using this
  ·have q:wr.cell? ⟨g,o+1,none⟩=some (.int .u8 b1):=Zo HU.o (by simpa using HN.o) HQ.o.2.1
   try simp only[show((2:Nat):Int)=2 from rfl]
   go_upto_region 3 with fail
   go_still_tail 14,(by kernel_rfl)
   try simp only[show IntKind.i64.wrap (3 - 2)=1 from rfl,show IntKind.i64.wrap 3=3 from rfl]
   repeat still_step
   try simp only[show IntKind.i64.wrap 16=16 from rfl]
   repeat still_step
   try refine wpStill_nil ?_
   change wpList _ _ _ _ _ (World.drew _)
   go_wp2
   go_roundg (4 - (2+1))
   case measure=>omega
   case rel=>
    refine⟨3,by omega,rfl,rfl,HU.o.trans (((Zd wr bx 0 _).drew)),?_⟩
    have hB:=HB.o
    have h0:=hB b0 (by simp);have h1:=hB b1 (by simp);have h2:=hB b2 (by simp);have h3:=hB b3 (by simp); 
    have e:bits .or .u64 (be4 b0 b1 b2 b3 2) (IntKind.u64.wrap (b1 * 65536))=be4 b0 b1 b2 b3 3:=by rw[show IntKind.u64.wrap (b1 * 65536)=b1 * 2 ^ 16 by rw[IntKind.wrap_u64];omega];exact Zei (x:=(b2 * 256+b3)) 16 (by omega) (by omega) (by omega) (by omega) (by omega)
    rw[e]
    have:=Ze (i:=0) (v:=.int .u64 (be4 b0 b1 b2 b3 3)) HC.o
    simpa [World.drew] using this
  ·have q:wr.cell? ⟨g,o,none⟩=some (.int .u8 b0):=Zo HU.o (by simpa using HN.o) HQ.o.1
   try simp only[show((3:Nat):Int)=3 from rfl]
   go_upto_region 3 with fail
   go_still_tail 14,(by kernel_rfl)
   try simp only[show IntKind.i64.wrap (3 - 3)=0 from rfl,show IntKind.i64.wrap 3=3 from rfl]
   repeat still_step
   try simp only[show IntKind.i64.wrap 24=24 from rfl]
   repeat still_step
   try refine wpStill_nil ?_
   change wpList _ _ _ _ _ (World.drew _)
   go_wp2
   go_roundg (4 - (3+1))
   case measure=>omega
   case rel=>
    refine⟨4,by omega,rfl,rfl,HU.o.trans (((Zd wr bx 0 _).drew)),?_⟩
    have hB:=HB.o
    have h0:=hB b0 (by simp);have h1:=hB b1 (by simp);have h2:=hB b2 (by simp);have h3:=hB b3 (by simp); 
    have e:bits .or .u64 (be4 b0 b1 b2 b3 3) (IntKind.u64.wrap (b0 * 16777216))=be4 b0 b1 b2 b3 4:=by rw[show IntKind.u64.wrap (b0 * 16777216)=b0 * 2 ^ 24 by rw[IntKind.wrap_u64];omega];exact Zei (x:=(b1 * 65536+(b2 * 256+b3))) 24 (by omega) (by omega) (by omega) (by omega) (by omega)
    rw[e]
    have:=Ze (i:=0) (v:=.int .u64 (be4 b0 b1 b2 b3 4)) HC.o
    simpa [World.drew] using this
  ·go_wp2
   refine bodyPost_end (results_none rfl _ _ _) rfl ?_
   exact⟨⟨_,rfl⟩,HC.o,HU.o⟩
def Rd (w:World)(r:Nat)(bs:List Int):Prop:=
 ∃g o c,w.heap[r]?=some (.cells #[.slice (some ⟨g,o,none⟩) bs.length c,.int .i64 0] 236 (0,0))∧g≠r∧bs.length≤c∧c≤maxLen∧ ∀(i:Nat) v,(bcells bs)[i]?=some v→w.cell? ⟨g,o+i,none⟩=some v
theorem Zf5 (W:World):(sizeOf (Tryz.prog.elem 39)).run Tryz.prog W=.ok 1 W:=by kernel_rfl
theorem Zh2:Tryz.prog.underlying 39=some (.slice (Tryz.prog.elem 39)):=by kernel_rfl
theorem Znq (g o n c:Nat)(h:4≤c)(W:World):(Instr.slice 39 (.slice (some ⟨g,o,none⟩) n c) none (some (.int .i64 4)) (some (.int .i64 4))).run Tryz.prog W=.ok (.slice (some ⟨g,o,none⟩) 4 4) W:=by
 rw[run_slice_hm W 39 _ n c Zh2 .i64 .i64 4 4 (by omega) (by omega) (by omega),Zf5]
 rfl
theorem Znn (g o n c:Nat)(h:4≤n)(h2:n≤c)(W:World):(Instr.slice 39 (.slice (some ⟨g,o,none⟩) n c) (some (.int .i64 4)) none none).run Tryz.prog W=.ok (.slice (some ⟨g,if c=4 then o else o+4,none⟩) (n - 4) (c - 4)) W:=by
 rw[run_slice_l W 39 _ n c Zh2 .i64 4 (by omega) (by omega),Zf5]
 by_cases hc:c=4
 ·subst hc
  rfl
 ·simp only[Result.andThen,sliced,if_neg hc,show(4:Int).toNat=4 from rfl,Option.map]
  rfl
theorem Zry {g o n c bx:Nat}(w:World)(hr:w.heap[r]?=some (.cells #[.slice (some ⟨g,o,none⟩) n c,.int .i64 0] 236 (0,0)))(h4:4≤n)(hnc:n≤c)
  (hb: ∀i v,(bcells [b0,b1,b2,b3])[i]?=some v→w.cell? ⟨g,o+i,none⟩=some v) (hB:Bytes [b0,b1,b2,b3]) (hx:w.heap[bx]?=some (.cells #[.int .u64 0] 53 (0,0))) (hne:g≠bx) (hne2:r≠bx):
  Calls Tryz.prog 149 #[.pointer (some ⟨r,0,none⟩),.int .i64 4,.func (.func 181) #[] #[.pointer (some ⟨bx,0,none⟩)]] w fun e w'=>(∃v,e=.returned v)∧w'.heap[bx]?=some (.cells #[.int .u64 (be4 b0 b1 b2 b3 4)] 53 (0,0))∧
   w'.heap[r]?=some (.cells #[.slice (some ⟨g,if c=4 then o else o+4,none⟩) (n - 4) (c - 4),.int .i64 0] 236 (0,0))∧Upd (fun k=>k=bx∨k=r) w w':=by
 have HC:=V (Zqq (c:=4) w hb hB hx hne)
 have c0:w.cell? ⟨r,0,none⟩=some (.slice (some ⟨g,o,none⟩) n c):=by simp[World.cell?,hr]
 have c1:w.cell? ⟨r,1,none⟩=some (.int .i64 0):=by simp[World.cell?,hr]
 have hn: ¬((n:Int)<4):=by omega
 have a4:=Znq g o n c (by omega)
 have a1:=Znn g o n c h4 hnc
 obtain⟨o2,a2⟩: ∃o2,o2=if c=4 then o else o+4:=⟨_,rfl⟩
 rw[←a2] at a1 ⊢
 have a1:=V a1
 clear a2
 have HR:=V hr;have HN:=V hne2
 clear hb hB hx hne hne2 hr h4 hnc
 go_enter Tryz.func149,Tryz.ntmps149
 go_wp2_with (go_at_call 181;fail)
 refine HC.o.mono ?_
 rintro e w1 ⟨⟨v,rfl⟩,h1,h2⟩
 have a0:=(h2.block _ (Za HR.o) HN.o).trans HR.o
 have c0:w1.cell? ⟨r,0,none⟩=some (.slice (some ⟨g,o,none⟩) n c):=by simp[World.cell?,a0]
 have f0:w1.frozen? ⟨r,0,none⟩=false:=Zb a0
 have a5:=a1.o
 have H1:=V h1;have H2:=V h2;have a3:=V a0
 clear h1 h2 a0 c1 a4 HC
 simp only[]
 go_wp2
 refine bodyPost_end (results_none rfl _ _ _) rfl ?_
 refine⟨⟨_,rfl⟩,?_,?_,(H2.o.mono (fun _ _ e=>.inl e)).trans ((Zd w1 r 0 _).mono (fun _ _ e=>.inr e))⟩
 ·rw[Yd (by exact fun e=>HN.o e.symm)];exact H1.o
 ·have:=Ze (i:=0) (v:=.slice (some ⟨g,o2,none⟩) (n - 4) (c - 4)) a3.o
  simpa using this
theorem Zsa {rest:List Int}(w:World)(h:Rd w r (b0 :: b1 :: b2 :: b3 :: rest))(hB:Bytes [b0,b1,b2,b3]):
  Calls Tryz.prog 148 #[.pointer (some ⟨r,0,none⟩),.int .i64 32] w fun e w'=>e=.returned (.int .u64 (be4 b0 b1 b2 b3 4))∧Rd w' r rest∧Upd (fun k=>k=r) w w':=by
 obtain⟨g,o,c,hr,a7,hl,hm,a4⟩:=h
 have hq:(32:Int).tdiv 8=4:=by decide
 have a3:=Za hr
 have b4:g<w.heap.size:=by
  have h0:=a4 0 (.int .u8 b0) rfl
  rcases Nat.lt_or_ge g w.heap.size with h' | h'
  ·exact h'
  ·simp[World.cell?,Array.getElem?_eq_none h'] at h0
 have a1:U0 w (w.alloc (.cells #[.int .u64 0] 53)):=(Upd.refl _ w).alloc _
 obtain⟨w1,a2⟩: ∃w1,w1=w.alloc (.cells #[.int .u64 0] 53):=⟨_,rfl⟩
 have a6:w1.heap[w.heap.size]?=some (.cells #[.int .u64 0] 53 (0,0)):=by
  rw[a2]
  exact Zc rfl
 rw[←a2] at a1
 have a8:=(a1.block _ a3 id).trans hr
 have a0: ∀(i:Nat) v,(bcells (b0 :: b1 :: b2 :: b3 :: rest))[i]?=some v→w1.cell? ⟨g,o+i,none⟩=some v:=fun i v hi=>Zo a1 id (a4 i v hi)
 have a9: ∀(i:Nat) v,(bcells [b0,b1,b2,b3])[i]?=some v→w1.cell? ⟨g,o+i,none⟩=some v:=fun i v hi=>a0 i v (by
  rw[show b0 :: b1 :: b2 :: b3 :: rest=[b0,b1,b2,b3]++rest from rfl,Y6,List.getElem?_append_left (List.getElem?_eq_some_iff.1 hi).1];exact hi)
 have HG:=V (Zry (bx:=w.heap.size) w1 a8 (by simp) (by simpa using hl) a9 hB a6 (by omega) (by omega))
 have b9:=V a1;have b6:=V a0;have HL:=V hl;have HM:=V hm;have b8:=V a2;have a5:=V a7;have b5:=V a3;have b7:=V b4
 clear hr hl hm a4 a3 b4 a1 a6 a8 a0 a9 a2 a7 hB
 go_enter Tryz.func148,Tryz.ntmps148
 go_wp2_with (go_at_call 149;fail)
 rw[←b8.o]
 refine HG.o.mono ?_
 rintro e w2 ⟨⟨v,rfl⟩,h1,h2,h3⟩
 have c0:=Zf h1
 have H2:=V h2;have H3:=V h3
 clear h1 h2 h3 HG
 simp only[]
 go_wp2
 go_ret
 have hl:=HL.o;have hm:=HM.o
 simp only[List.length_cons] at hl hm
 refine⟨rfl,⟨g,if c=4 then o else o+4,c - 4,?_,a5.o,by omega,by omega,fun i v hi=>?_⟩,(b9.o.mono (F:=fun _=>False) (G:=fun k=>k=r) (fun _ _ e=>e.elim)).step H3.o (fun k hk e=>?_)⟩
 ·have:=H2.o
  simpa using this
 ·have h1:(bcells (b0 :: b1 :: b2 :: b3 :: rest))[i+4]?=some v:=by
   rw[show b0 :: b1 :: b2 :: b3 :: rest=[b0,b1,b2,b3]++rest from rfl,Y6,List.getElem?_append_right (by simp[bcells])]
   simpa [bcells] using hi
  have h2:=b6.o (i+4) v h1
  have h3:c≠4:=by
   intro e
   subst e
   have:rest.length=0:=by omega
   have:=List.length_eq_zero_iff.1 this
   subst this
   simp[bcells] at hi
  rw[if_neg h3]
  have h4:=Zo H3.o (x:=⟨g,o+(i+4),none⟩) (by simp only;intro e;rcases e with e | e;have:=b7.o;omega;exact a5.o e) h2
  rw[show o+4+i=o+(i+4) by omega]
  exact h4
 ·rcases e with e | e
  ·have:=b5.o;omega
  ·exact e
theorem Zaw (hB:Bytes [b0,b1,b2,b3]):0≤be4 b0 b1 b2 b3 4∧be4 b0 b1 b2 b3 4≤4294967295:=by
 have h0:=hB b0 (by simp);have h1:=hB b1 (by simp);have h2:=hB b2 (by simp);have h3:=hB b3 (by simp)
 show 0≤b0 * 16777216+(b1 * 65536+(b2 * 256+b3))∧b0 * 16777216+(b1 * 65536+(b2 * 256+b3))≤4294967295
 omega
theorem Zc3 {rest:List Int}(w:World)(h:Rd w r (b0 :: b1 :: b2 :: b3 :: rest))(hB:Bytes [b0,b1,b2,b3]):
  Calls Tryz.prog 193 #[.pointer (some ⟨r,0,none⟩)] w fun e w'=>e=.returned (.int .u32 (be4 b0 b1 b2 b3 4))∧Rd w' r rest∧Upd (fun k=>k=r) w w':=by
 have HC:=V (Zsa w h hB)
 have hb:=Zaw hB
 obtain⟨x,hx⟩: ∃x,x=be4 b0 b1 b2 b3 4:=⟨_,rfl⟩
 rw[←hx] at HC hb ⊢
 have a0:IntKind.u32.wrap x=x:=by rw[IntKind.wrap_u32];omega
 clear h hB hb hx
 go_enter Tryz.func193,Tryz.ntmps193
 go_wp2_with (go_at_call 148;fail)
 refine HC.o.mono ?_
 rintro e w2 ⟨rfl,h1,h2⟩
 have H1:=V h1;have H2:=V h2
 clear h1 h2 HC
 simp only[]
 go_wp2
 go_ret
 exact⟨rfl,H1.o,H2.o⟩
theorem Zfm {bs:List Int}(w:World)(hv:BytesIn w v bs)(hne:bs≠[])(hl:bs.length≤1099511627776):
  Calls Tryz.prog 88 #[v] w fun e w'=>e=.returned (.pointer (some ⟨w.heap.size,0,none⟩))∧Rd w' w.heap.size bs∧U0 w w':=by
 have a2:U0 w (w.alloc (.cells #[.slice none 0 0,.int .i64 0] 236)):=(Upd.refl _ w).alloc _
 have HC:=V (Y4 (w.alloc (.cells #[.slice none 0 0,.int .i64 0] 236)) hl (hv.kept a2))
 clear hv
 go_enter Tryz.func88,Tryz.ntmps88
 go_wp2_with (go_at_call 99;fail)
 refine HC.o.mono ?_
 rintro e w1 ⟨u,rfl,ho,hu,hU⟩
 have hn:u≠.slice none 0 0:=by
  rintro rfl
  rcases ho.2 with ⟨_,h2⟩ | ⟨g,a1,a6,h1,_⟩
  ·exact hne (List.length_eq_zero_iff.1 h2)
  ·cases h1
 have a0:w1.heap[w.heap.size]?=some (.cells #[.slice none 0 0,.int .i64 0] 236 (0,0)):=(hU.block _ (by simp) id).trans (Zc rfl)
 have f0:w1.frozen? ⟨w.heap.size,0,none⟩=false:=Zb a0
 have c0:w1.cell? ⟨w.heap.size,0,none⟩=some (.slice none 0 0):=by simp[World.cell?,a0]
 have HO:=V ho
 rcases ho.2 with ⟨h1,_⟩ | ⟨g,a1,a6,rfl,a4,hg,h1,h2,h3,h4⟩
 ·exact absurd h1 hn
 have a3:g≠w.heap.size:=by simp at a4;omega
 have HB:=V a0;have HU:=V (a2.trans hU);have HG:=V a3;have H1:=V h1;have H2:=V h2
 clear a0 ho hu hU a2 hn hne HC a4 hg h1 h2 h3 h4 a3
 simp only[]
 go_wp2
 go_ret
 have a5:Upd (fun k=>k=w.heap.size) w1 (w1.setCell ⟨w.heap.size,0,none⟩ (.slice (some ⟨g,0,none⟩) bs.length a1)):=Zd _ _ _ _
 refine⟨rfl,⟨g,0,a1,?_,HG.o,H1.o,H2.o,fun i v hi=>?_⟩,HU.o.step a5 (fun k hk e=>by omega)⟩
 ·have:=Ze (i:=0) (v:=.slice (some ⟨g,0,none⟩) bs.length a1) HB.o
  simpa using this
 ·have:=World.ownsRow.cells HO.o rfl i v hi
  exact Zo a5 (x:=⟨g,0+i,none⟩) (by exact HG.o) (by rw[Addr.add_mid] at this;exact this)
end
end Go.Proofs.YtbimkhdiplnbfaaGreat
