/- Walks. -/
import Derived.Test.YtbimkhdiplnbfaaGreatU41
set_option linter.unusedVariables false
set_option linter.unusedSimpArgs false
namespace Go.Proofs.YtbimkhdiplnbfaaGreat
set_option maxRecDepth 1000000
set_option maxHeartbeats 16000000
variable {B:BatchV} {D:Dk} {area ev kd on:Int} {l:KV} {X:Lg} {KK:List Bool} {N b c d f kc m n p pb q r rc rn t u:Nat} {C C' F F' G G' T:Nat→Prop} {a ka ra:Option Addr} {w w' w0 w5:World}
section
open Go.RowKit Go.Shelf
def SdP (r b:Nat)(C G F:Nat→Prop)(k:Nat):Prop:=G k∨F k∨k=r∨k=b∨C k
def SdM (m:Nat)(T G F:Nat→Prop)(k:Nat):Prop:=G k∨F k∨k=m∨T k
theorem RegMem.keptZ {Z:Nat→Prop}(h:RegMem w r q p ev b n C l area X D G F)(hu:Upd Z w w')(hz: ∀k,SdP r b C G F k→ ¬Z k):RegMem w' r q p ev b n C l area X D G F:=
 ⟨(hu.block _ (Za h.reg) (hz r (.inr (.inr (.inl rfl))))).trans h.reg,h.map.kept hu (hz b (.inr (.inr (.inr (.inl rfl))))) (fun k hk=>hz k (.inr (.inr (.inr (.inr hk))))),⟨h.wal.1.kept hu (fun k hk=>hz k (.inl hk)),h.wal.2.1.kept hu (fun k hk=>hz k (.inr (.inl hk))),h.wal.2.2⟩,h.nr,h.nbB,h.nC⟩
theorem ModAt.keptZ {Z:Nat→Prop}{s:Int×KV}(h:ModAt w m q p s area X D C T G F)(hu:Upd Z w w')(hz: ∀k,SdM m T G F k→ ¬Z k):ModAt w' m q p s area X D C T G F:=by
 obtain⟨a,c,h1,h2,h3⟩:=h.cells
 have hT: ∀k,T k→ ¬Z k:=fun k hk=>hz k (.inr (.inr (.inr hk)))
 exact⟨⟨a,c,(hu.block _ (Za h1) (hz m (.inr (.inr (.inl rfl))))).trans h1,h2.kept hu (fun g o e=>hT g (h3 g o e)) (fun k hk=>hT k (h.sub k hk)),h3⟩,h.sub,fun k hk=>⟨(h.apart k hk).1,(h.apart k hk).2.1,(h.apart k hk).2.2.1,Nat.lt_of_lt_of_le (h.apart k hk).2.2.2 hu.size⟩,h.nm,h.gf,h.row.kept hu (fun k hk=>hT k (h.sub k hk)),h.log.kept hu (fun k hk=>hz k (.inl hk)),h.disk.kept hu (fun k hk=>hz k (.inr (.inl hk))),h.fine⟩
theorem RegMem.sdlt (h:RegMem w r q p ev b n C l area X D G F): ∀k,SdP r b C G F k→k<w.heap.size:=fun k hk=>by
 obtain⟨z1,z2,z3,z4,z5⟩:=h.lt
 rcases hk with e | e | e | e | e
 ·exact z4 k e
 ·exact z5 k e
 ·omega
 ·omega
 ·exact z3 k e
theorem ModAt.sdlt {s:Int×KV}(h:ModAt w m q p s area X D C T G F): ∀k,SdM m T G F k→k<w.heap.size:=fun k hk=>by
 obtain⟨z1,z2,z3,z4⟩:=h.lt
 rcases hk with e | e | e | e
 ·exact z3 k e
 ·exact z4 k e
 ·omega
 ·exact z2 k e
structure RdV (N:Nat) (area ev:Int) (X:Lg) (D:Dk) (n t:Nat):Prop where
 lg:LgI N X
 dok:D.Ok (20000+1100000 * t)
 len:D.arr.length=N
 ev:0≤ev∧ev≤4611686018427387904
 area:4≤area∧area≤1000
 n:n≤50000+48 * t
structure RdAt (N:Nat) (w0 w:World) (pb d f t:Nat):Prop where
 out: ∃r q m u ev area l X D b n C G F C' T G' F',PrAt w pb d f r q m u ev area l X D b n C G F C' T G' F'∧RdV N area ev X D n t∧
  (∀k,SdP r b C G F k→ ¬SdM m T G' F' k∧k≠pb∧w0.heap.size≤k)∧ ∀k,SdM m T G' F' k→k≠pb∧w0.heap.size≤k
 base:w0.heap.size≤pb
 upd:U0 w0 w
theorem RdAt.kept0 (h:RdAt N w0 w pb d f t)(hu:U0 w w'):RdAt N w0 w' pb d f t:=by
 obtain⟨⟨r,q,m,u,ev,a0,l,X,D,b,n,C,G,F,C',T,G',F',h1,h2,h3,h4⟩,h5,h6⟩:=h
 exact⟨⟨r,q,m,u,ev,a0,l,X,D,b,n,C,G,F,C',T,G',F',h1.kept0 hu,h2,h3,h4⟩,h5,h6.trans hu⟩
theorem RdAt.shut {w6:World}{D':Dk}{F5 F6:Nat→Prop}(hp:PrAt w pb d f r q m u ev area l X D b n C G F C' T G' F')(hv:RdV N area ev X D n t)
  (h3: ∀k,SdP r b C G F k→ ¬SdM m T G' F' k∧k≠pb∧w0.heap.size≤k) (h4: ∀k,SdM m T G' F' k→k≠pb∧w0.heap.size≤k) (h5:w0.heap.size≤pb) (h6:U0 w0 w)
  (k1:Dsk w5 d D' F5) (k2: ∀k,F5 k→F k∨w.heap.size≤k) (k3:Upd F w w5) (kl:D'.arr.length=D.arr.length) (q1:Dsk w6 f D' F6) (q2: ∀k,F6 k→F' k∨w5.heap.size≤k) (q3:Upd F' w5 w6) (q4:D'.Ok (20000+1100000 * (t+1))):
  RdAt N w0 w6 pb d f (t+1):=by
 have a4:=hp.reg.sdlt
 have a3:=hp.mod.sdlt
 have a5:RegMem w5 r q d ev b n C l area X D' G F5:=hp.reg.after1 (Upd.refl _ w) ⟨hp.reg.wal.1.kept k3 (fun k hk=>hp.reg.wal.2.2 k hk),k1,fun k hk e=>by
  rcases k2 k e with e | e
  ·exact hp.reg.wal.2.2 k hk e
  ·have:=a4 k (.inl hk);omega⟩ (fun k hk=>.inl hk) k2 (k3.mono (fun _ _ e=>.inr e))
 have a0:ModAt w5 m u f (ev,l) area X D C' T G' F':=hp.mod.keptZ k3 (fun k hk e=>(h3 k (.inr (.inl e))).1 hk)
 have b0:=a5.keptZ q3 (fun k hk e=>by
  have a7:SdP r b C G F k∨w.heap.size≤k:=by
   rcases hk with e2 | e2 | e2 | e2 | e2
   ·exact .inl (.inl e2)
   ·exact(k2 k e2).imp_left (fun e3=>.inr (.inl e3))
   ·exact .inl (.inr (.inr (.inl e2)))
   ·exact .inl (.inr (.inr (.inr (.inl e2))))
   ·exact .inl (.inr (.inr (.inr (.inr e2))))
  rcases a7 with e2 | e2
  ·exact(h3 k e2).1 (.inr (.inl e))
  ·have:=a3 k (.inr (.inl e));omega)
 have a2:=a0.sdlt
 have a8:ModAt w6 m u f (ev,l) area X D' C' T G' F6:=a0.after1 (Upd.refl _ w5) ⟨a0.log.kept q3 (fun k hk=>a0.gf k hk),q1,fun k hk e=>by
  rcases q2 k e with e | e
  ·exact a0.gf k hk e
  ·have:=a2 k (.inl hk);omega⟩ (fun k hk=>.inl hk) q2 (q3.mono (fun _ _ e=>.inr e))
 have a6:=Za hp.pair
 have a9:=k3.size;have b2:=h6.size;have b1:=q3.size
 have a1:w6.heap[pb]?=_:=(q3.block _ (Nat.lt_of_lt_of_le a6 a9) (fun e=>(h4 pb (.inr (.inl e))).1 rfl)).trans ((k3.block _ a6 (fun e=>(h3 pb (.inr (.inl e))).2.1 rfl)).trans hp.pair)
 have hP: ∀k,SdP r b C G F5 k→SdP r b C G F k∨(w.heap.size≤k∧k<w5.heap.size):=fun k hk=>by
  have hl:=a5.sdlt k hk
  rcases hk with e2 | e2 | e2 | e2 | e2
  ·exact .inl (.inl e2)
  ·exact(k2 k e2).imp (fun e3=>.inr (.inl e3)) (fun e=>⟨e,hl⟩)
  ·exact .inl (.inr (.inr (.inl e2)))
  ·exact .inl (.inr (.inr (.inr (.inl e2))))
  ·exact .inl (.inr (.inr (.inr (.inr e2))))
 have hM: ∀k,SdM m T G' F6 k→SdM m T G' F' k∨w5.heap.size≤k:=fun k hk=>by
  rcases hk with e2 | e2 | e2 | e2
  ·exact .inl (.inl e2)
  ·exact(q2 k e2).imp_left (fun e3=>.inr (.inl e3))
  ·exact .inl (.inr (.inr (.inl e2)))
  ·exact .inl (.inr (.inr (.inr e2)))
 refine⟨⟨r,q,m,u,ev,area,l,X,D',b,n,C,G,F5,C',T,G',F6,⟨a1,b0,a8⟩,⟨hv.lg,q4,kl.trans hv.len,hv.ev,hv.area,by have:=hv.n;omega⟩,fun k hk=>⟨fun e=>?_,fun e=>?_,?_⟩,fun k hk=>⟨fun e=>?_,?_⟩⟩,h5,(h6.step k3 (fun k hk e=>by have:=(h3 k (.inr (.inl e))).2.2;omega)).step q3 (fun k hk e=>by have:=(h4 k (.inr (.inl e))).2;omega)⟩
 ·rcases hP k hk with e1 | e1<;> rcases hM k e with e2 | e2
  ·exact(h3 k e1).1 e2
  ·have:=a4 k e1;omega
  ·have:=a3 k e2;omega
  ·omega
 ·rcases hP k hk with e1 | e1
  ·exact(h3 k e1).2.1 e
  ·omega
 ·rcases hP k hk with e1 | e1
  ·exact(h3 k e1).2.2
  ·omega
 ·rcases hM k hk with e1 | e1
  ·exact(h4 k e1).1 e
  ·omega
 ·rcases hM k hk with e1 | e1
  ·exact(h4 k e1).2
  ·omega
theorem Zjx (w:World)(h:RdAt N w0 w pb d f t)(hN:N≤1000)(ht:t≤400):
  Calls Tryz.prog 53 #[.pointer (some ⟨pb,0,none⟩)] w fun e w'=>e=.returned (.bool true)∧RdAt N w0 w' pb d f (t+1):=by
 obtain⟨⟨r,q,m,u,ev,a9,l,X,D,b,n,C,G,F,C',T,G',F',hp,hv,h3,h4⟩,a0,a1⟩:=h
 have HP:=V hp;have HV:=V hv;have H3:=V h3;have H4:=V h4;have j6:=V hp.reg.sdlt;have d6:=V hp.mod.sdlt
 obtain⟨p0,p1,p2,p3⟩:=Zp hp.pair
 have e6:=Zpi w hp.reg.wal.2.1 hv.dok (by omega)
 have e4:=fun W (hu:Upd F w W)=>Zp0 W (hp.mod.disk.kept hu (fun k hk e=>(h3 k (.inr (.inl e))).1 (.inr (.inl hk)))) hv.dok (by omega)
 have h1:=Zfn (D:=D)
 have d9:=Zpw D
 have e7:=fun Y=>Zs7 (D:=D) (X:=Y)
 obtain⟨R,hR⟩: ∃R,R=openD D:=⟨_,rfl⟩
 rw[←hR] at e6 h1 d9
 simp only[←hR] at e4 e7
 obtain⟨o,E,D'⟩:=R
 have b5:=V e4;have f6:=V (show D'.arr.length=D.arr.length from d9);have i7:=V e7;have h6:=V e6
 clear hp hv h3 h4 hR e4 d9 e7 e6
 go_enter Tryz.func53,Tryz.ntmps53
 go_wp2_with (go_at_call 35;fail)
 refine h6.o.mono ?_
 rintro e w5 ⟨F5,k1,k2,k3,k4,kR⟩
 have c8:=V k1;have c4:=V k2;have b1:=V k3;have j9:=V k4
 have f9:=(k3.block _ (Za HP.o.pair) (fun e=>(H3.o pb (.inr (.inl e))).2.1 rfl)).trans HP.o.pair
 have f8:=V f9;have b3:=V (b5.o w5 k3)
 clear p0 p1 p2 p3 k1 k2 k3 k4 h6 b5
 obtain⟨p0,p1,p2,p3⟩:=Zp f9
 clear f9
 cases o with
 |none=>
  have hE:E≠0:=h1 rfl
  simp only at kR
  subst kR
  have j7:(E == 0)=false:=by simpa using hE
  clear h1 hE
  simp only[]
  go_wp2_with (go_at_call 44;fail)
  refine b3.o.mono ?_
  rintro e w6 ⟨F6,q1,q2,q3,q4,rfl⟩
  have b4:Dsk w6 d D' F5:=c8.o.kept q3 (fun j hj e=>by
   rcases c4.o j hj with h | h
   ·exact(H3.o j (.inr (.inl h))).1 (.inr (.inl e))
   ·have:=d6.o j (.inr (.inl e));omega)
  have c5:=RdAt.shut HP.o HV.o H3.o H4.o a0 a1 c8.o c4.o b1.o f6.o q1 q2 q3 (q4.mono (by omega))
  have f0:=V c5;have e8:=V b4;have e2:=V q1;have a8:=V q4
  have b9:=V (show w6.heap[pb]?=some (.cells #[.pointer (some ⟨d,0,none⟩),.pointer (some ⟨f,0,none⟩),.pointer (some ⟨r,0,none⟩),.pointer (some ⟨m,0,none⟩)] 204 (0,0)) from(q3.block _ (Nat.lt_of_lt_of_le (Za HP.o.pair) b1.o.size) (fun e=>(H4.o pb (.inr (.inl e))).1 rfl)).trans f8.o)
  clear q1 q2 q3 q4 b4 c5 b3
  simp only[]
  go_upto_region 8 with fail
  have hA:U0 w6 w6.drew:=(Upd.refl _ _).drew
  refine Zj 9 (fun W=>U0 w6 W) [false,false,false,false,false,false,false,false,false,false] rfl (by kernel_rfl) ?_
  generalize w6.drew=wd at hA ⊢
  refine tpZ 0 (.pointer (some ⟨pb,0,none⟩)) hA ?_
  simp only[zz]
  refine tpZ 1 (.pointer (some ⟨pb,0,none⟩)) hA ?_
  simp only[zz]
  refine tpZ 2 (.pointer (some ⟨pb,0,none⟩)) hA ?_
  simp only[zz]
  refine tqZ 3 (.pointer (some ⟨d,0,none⟩)) [] hA (fun w5 q1=>?_) ?_
  ·obtain⟨c0,c1,c2,c3⟩:=Zp (kb q1 b9.o)
   go_simp
  simp only[zz]
  refine tpZ 4 (.pointer (some ⟨pb,0,none⟩)) hA ?_
  simp only[zz]
  refine tpZ 5 (.pointer (some ⟨pb,0,none⟩)) hA ?_
  simp only[zz]
  refine tpZ 6 (.pointer (some ⟨pb,1,none⟩)) hA ?_
  simp only[zz]
  refine tqZ 7 (.pointer (some ⟨f,0,none⟩)) [] hA (fun w5 q1=>?_) ?_
  ·obtain⟨c0,c1,c2,c3⟩:=Zp (kb q1 b9.o)
   go_simp
  simp only[zz]
  refine diZ 8 (fun K HKK=>?_)
  go_step
  refine(Zex wd (e8.o.kept hA n3Z) (e2.o.kept hA n3Z) a8.o (by omega)).mono ?_
  rintro e i5 ⟨rfl,a5⟩
  have b8:=hA.trans a5
  clear a5
  simp only[]
  refine HKK.o _ _ b8 ?_
  clear HKK
  simp only[zz]
  refine tlZ 9 ?_
  simp only[List.drop]
  go_wp2
  go_ret
  exact⟨rfl,f0.o.kept0 b8⟩
 |some Y=>
  simp only at kR
  obtain⟨a3,_,y0,d7,a2,hk⟩:=kR
  have g6:=V a2;have g9:=V (show LgI N Y from HV.o.len ▸ i7.o Y rfl a3 (by have:=a3.area;omega));have d4:=V a3
  clear a2 h1 a3
  rcases hk with ⟨b6,rfl⟩ | ⟨b6,j3⟩
  ·have e3:=V b6
   clear b6
   simp only[]
   go_wp2_with (go_at_call 44;fail)
   refine b3.o.mono ?_
   rintro e w6 ⟨F6,q1,q2,q3,q4,_,_,e1,b2,a6,q5⟩
   obtain⟨rfl,rfl⟩:y0=e1∧d7=b2:=by
    have h9:=g6.o
    rw[h9] at a6
    injection a6 with a b
    exact⟨a,b⟩
   rcases q5 with ⟨_,rfl⟩ | ⟨a7,_⟩
   ·clear a6
    have b4:Dsk w6 d D' F5:=c8.o.kept q3 (fun j hj e=>by
     rcases c4.o j hj with h | h
     ·exact(H3.o j (.inr (.inl h))).1 (.inr (.inl e))
     ·have:=d6.o j (.inr (.inl e));omega)
    have c5:=RdAt.shut HP.o HV.o H3.o H4.o a0 a1 c8.o c4.o b1.o f6.o q1 q2 q3 (q4.mono (by omega))
    have f0:=V c5;have e8:=V b4;have e2:=V q1;have a8:=V q4
    have b9:=V (show w6.heap[pb]?=some (.cells #[.pointer (some ⟨d,0,none⟩),.pointer (some ⟨f,0,none⟩),.pointer (some ⟨r,0,none⟩),.pointer (some ⟨m,0,none⟩)] 204 (0,0)) from(q3.block _ (Nat.lt_of_lt_of_le (Za HP.o.pair) b1.o.size) (fun e=>(H4.o pb (.inr (.inl e))).1 rfl)).trans f8.o)
    clear q1 q2 q3 q4 b4 c5 b3
    simp only[]
    go_upto_region 8 with fail
    have hA:U0 w6 w6.drew:=(Upd.refl _ _).drew
    refine Zj 9 (fun W=>U0 w6 W) [false,false,false,false,false,false,false,false,false,false] rfl (by kernel_rfl) ?_
    generalize w6.drew=wd at hA ⊢
    refine tpZ 0 (.pointer (some ⟨pb,0,none⟩)) hA ?_
    simp only[zz]
    refine tpZ 1 (.pointer (some ⟨pb,0,none⟩)) hA ?_
    simp only[zz]
    refine tpZ 2 (.pointer (some ⟨pb,0,none⟩)) hA ?_
    simp only[zz]
    refine tqZ 3 (.pointer (some ⟨d,0,none⟩)) [] hA (fun w5 q1=>?_) ?_
    ·obtain⟨c0,c1,c2,c3⟩:=Zp (kb q1 b9.o)
     go_simp
    simp only[zz]
    refine tpZ 4 (.pointer (some ⟨pb,0,none⟩)) hA ?_
    simp only[zz]
    refine tpZ 5 (.pointer (some ⟨pb,0,none⟩)) hA ?_
    simp only[zz]
    refine tpZ 6 (.pointer (some ⟨pb,1,none⟩)) hA ?_
    simp only[zz]
    refine tqZ 7 (.pointer (some ⟨f,0,none⟩)) [] hA (fun w5 q1=>?_) ?_
    ·obtain⟨c0,c1,c2,c3⟩:=Zp (kb q1 b9.o)
     go_simp
    simp only[zz]
    refine diZ 8 (fun K HKK=>?_)
    go_step
    refine(Zex wd (e8.o.kept hA n3Z) (e2.o.kept hA n3Z) a8.o (by omega)).mono ?_
    rintro e i5 ⟨rfl,a5⟩
    have b8:=hA.trans a5
    clear a5
    simp only[]
    refine HKK.o _ _ b8 ?_
    clear HKK
    simp only[zz]
    refine tlZ 9 ?_
    simp only[List.drop]
    go_wp2
    go_ret
    exact⟨rfl,f0.o.kept0 b8⟩
   ·have h9:=e3.o
    rw[a7] at h9
    cases h9
  ·obtain⟨r2,rq,rb,rn,rC,rG,rfl,e5,a4,g0,g3,g7,i9,j4,h7⟩:=j3
   have e3:=V b6
   obtain⟨s0,d1⟩: ∃s,s=(foundN y0 d7).1:=⟨_,rfl⟩
   obtain⟨ar,c6⟩: ∃ar,ar=areaN (Y.h.area - Y.used) Y.parts:=⟨_,rfl⟩
   obtain⟨c7,l2⟩:=s0
   rw[←d1,←c6] at e5
   rw[←d1] at a4 g0
   have i4:=V d1;have i8:=V c6;have g4:=V e5;have g2:=V (show 0≤c7∧c7≤4611686018427387904 from g0);have i3:=V g3
   have e9:=V (show 4≤ar∧ar≤1000 by
    rw[c6,Zic _ _ (fun b hb=>(d4.o.bytes b hb).2),←g9.o.used]
    have:=d4.o.area
    omega)
   have d0:=V (show∀k,SdP r2 rb rC rG F5 k→F k∨w.heap.size≤k from fun k hk=>by
    rcases hk with e | e | e | e | e
    ·exact .inr (g7 k e)
    ·exact c4.o k e
    ·exact .inr (by omega)
    ·exact .inr (by omega)
    ·exact .inr (h7 k e))
   clear d1 c6 e5 a4 g0 g3 b6 g7 i9 j4 h7
   simp only[]
   go_wp2_with (go_at_call 44;fail)
   refine b3.o.mono ?_
   rintro e w6 ⟨F6,q1,q2,q3,q4,_,_,e1,b2,a6,q5⟩
   obtain⟨rfl,rfl⟩:y0=e1∧d7=b2:=by
    have h9:=g6.o
    rw[h9] at a6
    injection a6 with a b
    exact⟨a,b⟩
   rcases q5 with ⟨a7,_⟩ | ⟨_,m2,mq,mC,mT,mG,rfl,b0,j0,i0,g8⟩
   ·have h9:=e3.o
    rw[a7] at h9
    cases h9
   ·rw[←i4.o,←i8.o] at b0
    have d3:=Nat.lt_of_lt_of_le (Za HP.o.pair) b1.o.size
    have h5:=(q3.block _ d3 (fun e=>(H4.o pb (.inr (.inl e))).1 rfl)).trans f8.o
    have b7:=g4.o.keptZ q3 (fun k hk e=>by
     rcases d0.o k hk with h | h
     ·exact(H3.o k (.inr (.inl h))).1 (.inr (.inl e))
     ·have:=d6.o k (.inr (.inl e));omega)
    have d2:=V h5;have e0:=V b7;have f1:=V b0;have i1:=V q4;have j1:=V q3
    have d8:=V (show∀k,SdM m2 mT mG F6 k→F' k∨w5.heap.size≤k from fun k hk=>by
     rcases hk with e | e | e | e
     ·exact .inr (i0 k e)
     ·exact q2 k e
     ·exact .inr (by omega)
     ·exact .inr (g8 k e))
    clear q1 q2 q3 q4 a6 b0 j0 i0 g8 h5 b7 d3 b3 p0 p1 p2 p3
    simp only[]
    have f2:w6.frozen? ⟨pb,2,none⟩=false:=Zb d2.o
    have f3:w6.frozen? ⟨pb,3,none⟩=false:=Zb d2.o
    obtain⟨p0,p1,p2,p3⟩:=Zp d2.o
    go_upto_region 7 with fail
    obtain⟨w7,d5⟩: ∃w7,w7=(w6.setCell ⟨pb,2,none⟩ (.pointer (some ⟨r2,0,none⟩))).setCell ⟨pb,3,none⟩ (.pointer (some ⟨m2,0,none⟩)):=⟨_,rfl⟩
    rw[←d5]
    have c9:Upd (fun k=>k=pb) w6 w7:=by rw[d5];exact(Zd w6 pb 2 _).trans (Zd _ pb 3 _)
    have g5:w7.heap[pb]?=some (.cells #[.pointer (some ⟨d,0,none⟩),.pointer (some ⟨f,0,none⟩),.pointer (some ⟨r2,0,none⟩),.pointer (some ⟨m2,0,none⟩)] 204 (0,0)):=by
     rw[d5]
     have:=Ze (i:=3) (v:=.pointer (some ⟨m2,0,none⟩)) (Ze (i:=2) (v:=.pointer (some ⟨r2,0,none⟩)) d2.o)
     simpa using this
    have d3:=Za HP.o.pair
    have i2:=b1.o.size
    have g1: ∀k,SdP r2 rb rC rG F5 k→k≠pb:=fun k hk e=>by
     rcases d0.o k hk with h | h
     ·exact(H3.o k (.inr (.inl h))).2.1 e
     ·omega
    have f7: ∀k,SdM m2 mT mG F6 k→k≠pb:=fun k hk e=>by
     rcases d8.o k hk with h | h
     ·exact(H4.o k (.inr (.inl h))).1 e
     ·omega
    have f5:PrAt w7 pb d f r2 rq m2 mq c7 ar l2 Y D' rb rn rC rG F5 mC mT mG F6:=⟨g5,e0.o.keptZ c9 g1,f1.o.keptZ c9 f7⟩
    have j5:Y.parts.length≤1000:=d4.o.len
    have h8:RdAt N w0 w7 pb d f (t+1):=by
     refine⟨⟨r2,rq,m2,mq,c7,ar,l2,Y,D',rb,rn,rC,rG,F5,mC,mT,mG,F6,f5,⟨g9.o,i1.o.mono (by omega),f6.o.trans HV.o.len,g2.o,e9.o,by have:=i3.o;omega⟩,fun k hk=>⟨fun e=>?_,g1 k hk,?_⟩,fun k hk=>⟨f7 k hk,?_⟩⟩,a0,((a1.step b1.o (fun k hk e=>by have:=(H3.o k (.inr (.inl e))).2.2;omega)).step j1.o (fun k hk e=>by have:=(H4.o k (.inr (.inl e))).2;omega)).step c9 (fun k hk e=>by omega)⟩
     ·have j8:=g4.o.sdlt k hk
      rcases d0.o k hk with h | h<;> rcases d8.o k e with h2 | h2
      ·exact(H3.o k (.inr (.inl h))).1 (.inr (.inl h2))
      ·omega
      ·have:=d6.o k (.inr (.inl h2));omega
      ·omega
     ·have:=a1.size
      rcases d0.o k hk with h | h
      ·exact(H3.o k (.inr (.inl h))).2.2
      ·omega
     ·have:=a1.size
      rcases d8.o k hk with h | h
      ·exact(H4.o k (.inr (.inl h))).2
      ·omega
    have i6:=V h8
    have h0:=Zey w7 f5 (i1.o.mono (K':=900000000) (by omega)) (by omega) (by have:=d4.o.turn;omega)
    have j2:=V h0
    clear d5 c9 g5 d3 i2 g1 f7 f5 j5 h8 h0 f2 f3 p0 p1 p2 p3
    go_wp2_with (go_at_call 52;fail)
    refine j2.o.mono ?_
    rintro e w8 ⟨rfl,a5⟩
    have f4:=V (i6.o.kept0 a5)
    clear a5
    simp only[]
    go_wp2
    go_ret
    exact⟨rfl,f4.o⟩
theorem Ztk {area:Nat}(ha:4≤area∧area≤1000)(hN:N=2+2 * area)(hok:(⟨fmtH area,[[]],1,false⟩:Lg).Ok):LgI N ⟨fmtH area,[[]],1,false⟩:=
 ⟨hok,by show(1:Int)=Zx [[]];decide,by show(1:Int)≤area;omega,by show 2+2 * (area:Int)≤N;omega⟩
theorem Zqr {area:Nat}(w:World)(ha:4≤area∧area≤400)(hN:N=2+2 * area):
  Calls Tryz.prog 50 #[.int .i64 area] w fun e w'=> ∃pb d f,e=.returned (.tuple #[.pointer (some ⟨pb,0,none⟩),.bool true])∧RdAt N w w' pb d f 0:=by
 have c1:IntKind.i64.wrap (2 * (area:Int))=2 * (area:Int):=by rw[IntKind.wrap_i64];omega
 have c2:IntKind.i64.wrap (2+2 * (area:Int))=(N:Int):=by rw[IntKind.wrap_i64];omega
 have HN:=V hN;have HA:=V ha
 clear hN ha
 obtain⟨wa,i2,e6,e4⟩:=nb w (.cells #[.pointer none,.pointer none,.pointer none,.pointer none] 204)
 obtain⟨pb,b5⟩: ∃pb,pb=w.heap.size:=⟨_,rfl⟩
 rw[←b5] at e4
 have i4:=V i2;have j4:=V e6;have i6:=V e4;have a1:=V b5
 clear i2 e6 e4
 go_enter Tryz.func50,Tryz.ntmps50
 go_upto_region 2 with fail
 rw[←i4.o,←b5]
 clear i4 b5
 go_wp2_with (go_at_call 13;fail)
 refine(Zcv N wa (by have:=HN.o;have:=HA.o;omega)).mono ?_
 rintro e w1 ⟨F1,rfl,hD,hF,hu,hg,f4⟩
 obtain⟨d,hd⟩: ∃d,d=wa.heap.size+1:=⟨_,rfl⟩
 rw[←hd] at hD ⊢
 have c7:=kb hu i6.o
 have HD:=V hD;have HF:=V hF;have e9:=V (j4.o.trans hu);have HG:=V hg;have g1:=V f4;have i3:=V c7
 have f0:w1.frozen? ⟨pb,0,none⟩=false:=Zb c7
 obtain⟨p0,p1,p2,p3⟩:=Zp c7
 have a5:=V (show w.heap.size<wa.heap.size by rw[←a1.o];exact Za i6.o)
 clear hD hF hu hg f4 hd c7
 simp only[]
 go_upto_region 3 with fail
 obtain⟨w2,b7⟩: ∃w2,w2=w1.setCell ⟨pb,0,none⟩ (.pointer (some ⟨d,0,none⟩)):=⟨_,rfl⟩
 rw[←b7]
 have c9:Upd (fun k=>k=pb) w1 w2:=by rw[b7];exact Zd w1 pb 0 _
 have g5:w2.heap[pb]?=some (.cells #[.pointer (some ⟨d,0,none⟩),.pointer none,.pointer none,.pointer none] 204 (0,0)):=by
  rw[b7]
  have:=Ze (i:=0) (v:=.pointer (some ⟨d,0,none⟩)) i3.o
  simpa using this
 have c8:=V (HD.o.kept c9 (fun k hk e=>by have:=HF.o k hk;have:=a5.o;have:=a1.o;omega))
 have d9:=V (e9.o.step c9 (fun k hk e=>by have:=a1.o;omega));have d3:=V g5
 clear b7 c9 g5 f0 p0 p1 p2 p3 HD i3 e9
 go_wp2_with (go_at_call 13;fail)
 refine(Zcv N w2 (by have:=HN.o;have:=HA.o;omega)).mono ?_
 rintro e w3 ⟨F3,rfl,hD,hF,hu,_,_⟩
 obtain⟨f,hf⟩: ∃f,f=w2.heap.size+1:=⟨_,rfl⟩
 rw[←hf] at hD ⊢
 have b9:=kb hu d3.o
 have f0:w3.frozen? ⟨pb,1,none⟩=false:=Zb b9
 obtain⟨p0,p1,p2,p3⟩:=Zp b9
 have g9:=V hD.lt
 have g6:=V hD;have b4:=V hF;have g0:=V (d9.o.trans hu);have f6:=V b9;have f5:=V (c8.o.kept hu n3Z);have g4:=V c8.o.lt
 have a3:=V hu.size
 have d6:=V d9.o.size;have c3:=V (Za d3.o)
 clear hD hF hu hf b9 c8 d9 d3
 simp only[]
 go_upto_region 4 with fail
 obtain⟨w4,b6⟩: ∃w4,w4=w3.setCell ⟨pb,1,none⟩ (.pointer (some ⟨f,0,none⟩)):=⟨_,rfl⟩
 rw[←b6]
 have b1:Upd (fun k=>k=pb) w3 w4:=by rw[b6];exact Zd w3 pb 1 _
 have d2:w4.heap[pb]?=some (.cells #[.pointer (some ⟨d,0,none⟩),.pointer (some ⟨f,0,none⟩),.pointer none,.pointer none] 204 (0,0)):=by
  rw[b6]
  have:=Ze (i:=1) (v:=.pointer (some ⟨f,0,none⟩)) f6.o
  simpa using this
 have e8:=V (f5.o.kept b1 (fun k hk e=>by have:=HF.o k hk;have:=a5.o;have:=a1.o;omega))
 have g7:=V (g6.o.kept b1 (fun k hk e=>by have:=b4.o k hk;have:=c3.o;omega))
 have c0:=V b1.size
 have j2:=V (g0.o.step b1 (fun k hk e=>by have:=a1.o;omega));have f7:=V d2
 obtain⟨r0,r1,r2,r3⟩:=Zp d2
 clear b6 b1 d2 f0 p0 p1 p2 p3 f5 g6 f6 g0
 have a6:=Zfd (area:=area) (N:=N) (K:=0) w4 e8.o HG.o g1.o (by omega) (by have:=HA.o;omega) (by have:=HN.o;omega)
 have b3:=V a6
 clear a6
 go_wp2_with (go_at_call 47;fail)
 refine b3.o.mono ?_
 rintro e w5 ⟨r,b,q,G5,F5,rfl,h1,h2,h3,h4,h5,h6,h7,h8,h9,d5⟩
 have a7:=Za f7.o
 have i0:=(h6.block _ a7 (fun e=>by have:=HF.o _ e;have:=a5.o;have:=a1.o;omega)).trans f7.o
 have a2: ∀k,F1 k→ ¬F3 k:=fun k h e=>by have:=g4.o k h;have:=b4.o k e;omega
 have j9:=V (g7.o.kept h6 (fun k hk e=>a2 k e hk))
 have e7:=V (show RegMem w5 r q d 0 b 0 (fun _=>False) [] area ⟨fmtH area,[[]],1,false⟩ (fmtD (Dk.new N) area 3) G5 F5 from
  ⟨h1,⟨h2,List.Pairwise.nil,fun x hx=>by cases hx⟩,h3.wal,⟨fun e=>by have:=h9 _ e;omega,fun e=>by have:=d5 _ e;omega⟩,⟨fun e=>by have:=h9 _ e;omega,fun e=>by have:=d5 _ e;omega⟩,fun k hk=>hk.elim⟩)
 have d0:=V (show∀k,SdP r b (fun _=>False) G5 F5 k→F1 k∨w4.heap.size≤k from fun k hk=>by
  rcases hk with e | e | e | e | e
  ·exact .inr (h4 k e)
  ·exact h5 k e
  ·exact .inr (by omega)
  ·exact .inr (by omega)
  ·exact e.elim)
 have j8:=V h3;have e1:=V i0;have j1:=V (j2.o.step h6 (fun k hk e=>by have:=HF.o k e;have:=a5.o;omega));have i7:=V a2
 have i1:=V h6.size
 clear h1 h2 h3 h4 h5 h6 h7 h8 h9 d5 i0 a2 a7 b3 r0 r1 r2 r3 e8 g7
 obtain⟨r0,r1,r2,r3⟩:=Zp e1.o
 simp only[]
 have a6:=Zgr (area:=area) (N:=N) (K:=0) w5 j9.o HG.o g1.o (by omega) (by have:=HA.o;omega) (by have:=HN.o;omega)
 have b3:=V a6
 clear a6
 go_wp2_with (go_at_call 41;fail)
 refine b3.o.mono ?_
 rintro e w6 ⟨u,G6,F6,rfl,h1,h2,h3,h4⟩
 have g3:=(h4.block _ (Za e1.o) (fun e=>by have:=b4.o _ e;have:=c3.o;omega)).trans e1.o
 have a9:=e7.o.keptZ h4 (fun k hk e=>by
  rcases d0.o k hk with h | h
  ·exact i7.o k h e
  ·have:=g9.o k e;have:=c0.o;omega)
 have e5:=V (show∀k,(G6 k∨F6 k)→F3 k∨w5.heap.size≤k from fun k hk=>hk.elim (fun e=>.inr (h2 k e)) (h3 k))
 have a8:=V h1;have f9:=V g3;have d1:=V a9;have i8:=V (j1.o.step h4 (fun k hk e=>by have:=b4.o k e;have:=d6.o;omega))
 have k0:=V h4.size
 clear h1 h2 h3 h4 g3 a9 b3 r0 r1 r2 r3
 simp only[]
 obtain⟨w7,e2,d4,a4⟩:=nb w6 (.cells #[.pointer (some ⟨u,0,none⟩),.int .u64 0,.slice none 0 0,.int .i64 area] 108)
 have d8:=kb d4 f9.o
 have a0:=d8
 rw[e2] at a0
 have f2:=Zb (n:=2) a0
 have f3:=Zb (n:=3) a0
 obtain⟨r0,r1,r2,r3⟩:=Zp a0
 have j0:=V e2;have b8:=V d4;have j6:=V a4;have i9:=V d8
 clear e2 d4 a4 d8 a0
 go_upto_region 11 with fail
 rw[←j0.o]
 obtain⟨m,hm⟩: ∃m,m=w6.heap.size:=⟨_,rfl⟩
 rw[←hm]
 obtain⟨w8,c4⟩: ∃w8,w8=(w7.setCell ⟨pb,2,none⟩ (.pointer (some ⟨r,0,none⟩))).setCell ⟨pb,3,none⟩ (.pointer (some ⟨m,0,none⟩)):=⟨_,rfl⟩
 rw[←c4]
 have c6:Upd (fun k=>k=pb) w7 w8:=by rw[c4];exact(Zd w7 pb 2 _).trans (Zd _ pb 3 _)
 have h0:w8.heap[pb]?=some (.cells #[.pointer (some ⟨d,0,none⟩),.pointer (some ⟨f,0,none⟩),.pointer (some ⟨r,0,none⟩),.pointer (some ⟨m,0,none⟩)] 204 (0,0)):=by
  rw[c4]
  have:=Ze (i:=3) (v:=.pointer (some ⟨m,0,none⟩)) (Ze (i:=2) (v:=.pointer (some ⟨r,0,none⟩)) i9.o)
  simpa using this
 have a4:=j6.o
 rw[←hm] at a4
 have j5:pb<w6.heap.size:=Za f9.o
 have f8:=a8.o.wal.1.lt;have f1:=a8.o.wal.2.1.lt
 have b2:ModAt w7 m u f (0,[]) area ⟨fmtH area,[[]],1,false⟩ (fmtD (Dk.new N) area 3) (fun _=>False) (fun _=>False) G6 F6:=
  ⟨⟨none,0,a4,fun i p h=>by simp at h,fun g o e=>by cases e⟩,fun k hk=>hk.elim,fun k hk=>hk.elim,⟨fun e=>by have:=f8 _ e;omega,fun e=>by have:=f1 _ e;omega⟩,a8.o.wal.2.2,fun k hk=>hk.elim,a8.o.wal.1.kept b8.o n3Z,a8.o.wal.2.1.kept b8.o n3Z,KV.Fine.nil⟩
 have e3: ∀k,SdP r b (fun _=>False) G5 F5 k→k≠pb∧w.heap.size≤k:=fun k hk=>by
  have:=a1.o;have:=a5.o;have:=d6.o;have:=c0.o;have:=c3.o;have:=a3.o
  rcases d0.o k hk with h | h
  ·have:=HF.o k h;omega
  ·omega
 have c5: ∀k,SdM m (fun _=>False) G6 F6 k→(F3 k∨w5.heap.size≤k)∧k≠pb∧w.heap.size≤k:=fun k hk=>by
  have:=a1.o;have:=a5.o;have:=d6.o;have:=c0.o;have:=c3.o;have:=a3.o;have:=i1.o;have:=k0.o
  have h9:F3 k∨w5.heap.size≤k:=by
   rcases hk with e | e | e | e
   ·exact e5.o k (.inl e)
   ·exact e5.o k (.inr e)
   ·exact .inr (by omega)
   ·exact e.elim
  refine⟨h9,?_⟩
  rcases h9 with h | h
  ·have:=b4.o k h;omega
  ·omega
 have e0:PrAt w8 pb d f r q m u 0 area [] ⟨fmtH area,[[]],1,false⟩ (fmtD (Dk.new N) area 3) b 0 (fun _=>False) G5 F5 (fun _=>False) (fun _=>False) G6 F6:=
  ⟨h0,(d1.o.kept0 b8.o).keptZ c6 (fun k hk=>(e3 k hk).1),b2.keptZ c6 (fun k hk=>(c5 k hk).2.1)⟩
 have b0:=j8.o
 have g8:RdAt N w w8 pb d f 0:=by
  refine⟨⟨r,q,m,u,0,area,[],_,_,b,0,_,G5,F5,_,_,G6,F6,e0,⟨Ztk (by have:=HA.o;omega) HN.o b0.ok,by simpa using b0.dok,b0.good.len,by omega,by have:=HA.o;omega,by omega⟩,fun k hk=>⟨fun e=>?_,e3 k hk⟩,fun k hk=>(c5 k hk).2⟩,by have:=a1.o;omega,(i8.o.trans b8.o).step c6 (fun k hk e=>by have:=a1.o;omega)⟩
  have hl:=e7.o.sdlt k hk
  have k1:=c0.o
  rcases d0.o k hk with h | h<;> rcases(c5 k e).1 with h2 | h2
  ·exact i7.o k h h2
  ·have:=g4.o k h;have:=a3.o;have:=i1.o;omega
  ·have:=g9.o k h2;omega
  ·omega
 have j3:=V g8
 have g2:=Zey w8 e0 (by simpa using b0.dok) (by omega) (by show(0:Int)≤1∧(1:Int)<_;omega)
 have j7:=V g2
 clear c4 c6 h0 a4 j5 f8 f1 b2 e3 c5 e0 b0 g8 g2 f2 f3 r0 r1 r2 r3 hm
 go_wp2_with (go_at_call 52;fail)
 refine j7.o.mono ?_
 rintro e w9 ⟨rfl,i5⟩
 have d7:=V (j3.o.kept0 i5)
 clear i5
 simp only[]
 go_wp2
 go_returns
 exact⟨pb,d,f,rfl,d7.o⟩
def Zcn (kd on:Int)(B:BatchV)(a:Option Addr)(c:Nat)(ra:Option Addr)(rn rc:Nat)(ka:Option Addr)(kn kc:Nat):Value:=.agg #[.int .i64 kd,.int .i64 on,.int .u64 B.epoch,.bool B.large,.slice a B.sets.length c,.slice ra rn rc,.slice ka kn kc]
theorem Dk.Ok.doArm {K:Nat}{n:Int}(h:D.Ok K)(hn:n≤9223372036854775807):(D.doArm n).Ok K:=by
 unfold Dk.doArm
 split
 ·exact h
 ·exact⟨h.len,h.blks,h.rblks,h.sorted,h.sent,h.ops,⟨by show -1≤max n (-1);omega,by show max n (-1)≤_;omega⟩,h.fail,h.rowlen⟩
theorem Dk.Ok.doFail {K:Nat}{n:Int}(h:D.Ok K)(hn:n≤9223372036854775807):(D.doFail n).Ok K:=by
 unfold Dk.doFail
 split
 ·exact h
 ·exact⟨h.len,h.blks,h.rblks,h.sorted,h.sent,h.ops,h.arm,⟨by show -1≤max n (-1);omega,by show max n (-1)≤_;omega⟩,h.rowlen⟩
theorem Zqf (D:Dk)(n:Int):(D.doArm n).arr.length=D.arr.length:=by unfold Dk.doArm;split<;> rfl
theorem Zof (D:Dk)(n:Int):(D.doFail n).arr.length=D.arr.length:=by unfold Dk.doFail;split<;> rfl
theorem RdAt.turned {w6:World}{D':Dk}{F5 F6:Nat→Prop}(hp:PrAt w pb d f r q m u ev area l X D b n C G F C' T G' F')(hv:RdV N area ev X D n t)
  (h3: ∀k,SdP r b C G F k→ ¬SdM m T G' F' k∧k≠pb∧w0.heap.size≤k) (h4: ∀k,SdM m T G' F' k→k≠pb∧w0.heap.size≤k) (h5:w0.heap.size≤pb) (h6:U0 w0 w)
  (k1:Dsk w5 d D' F5) (k2: ∀k,F5 k→F k∨w.heap.size≤k) (k3:Upd F w w5) (kl:D'.arr.length=D.arr.length) (q1:Dsk w6 f D' F6) (q2: ∀k,F6 k→F' k∨w5.heap.size≤k) (q3:Upd F' w5 w6) (q4:D'.Ok (20000+1100000 * t)):
  RdAt N w0 w6 pb d f (t+1):=RdAt.shut hp hv h3 h4 h5 h6 k1 k2 k3 kl q1 q2 q3 (q4.mono (by omega))
theorem Znw (on:Int): ∃m:Int,IntKind.i64.wrap ((IntKind.u64.wrap on).tmod 40)=m∧0≤m∧m≤1000:=by
 have h0:0≤IntKind.u64.wrap on:=by rw[IntKind.wrap_u64];omega
 rw[Int.tmod_eq_emod_of_nonneg h0]
 have h1:=Int.emod_nonneg (IntKind.u64.wrap on) (b:=40) (by decide)
 have h2:=Int.emod_lt_of_pos (IntKind.u64.wrap on) (b:=40) (by decide)
 exact⟨(IntKind.u64.wrap on) % 40,by rw[IntKind.wrap_i64];omega,by omega,by omega⟩
theorem RdAt.more (h:RdAt N w0 w pb d f t):RdAt N w0 w pb d f (t+1):=by
 obtain⟨⟨r,q,m,u,ev,a0,l,X,D,b,n,C,G,F,C',T,G',F',h1,h2,h3,h4⟩,h5,h6⟩:=h
 exact⟨⟨r,q,m,u,ev,a0,l,X,D,b,n,C,G,F,C',T,G',F',h1,⟨h2.lg,h2.dok.mono (by omega),h2.len,h2.ev,h2.area,by have:=h2.n;omega⟩,h3,h4⟩,h5,h6⟩
theorem Y0 {x0 x1 x2 x3 x4 x5 x6:Value}{t:TypeId}(h:w.heap[b]?=some (.cells #[x0,x1,x2,x3,x4,x5,x6] t (0,0))):w.cell? ⟨b,0,none⟩=some x0∧w.cell? ⟨b,1,none⟩=some x1∧w.cell? ⟨b,2,none⟩=some x2∧w.cell? ⟨b,3,none⟩=some x3∧w.cell? ⟨b,4,none⟩=some x4∧w.cell? ⟨b,5,none⟩=some x5∧w.cell? ⟨b,6,none⟩=some x6:=by simp[World.cell?,h]
theorem Zqd {kn:Nat}(w:World)(h:RdAt N w0 w pb d f t)(hN:N≤1000)(ht:t≤400)(hkd:Zb8 kd=1):
  Calls Tryz.prog 51 #[.pointer (some ⟨pb,0,none⟩),Zcn kd on B a c ra rn rc ka kn kc] w fun e w'=>e=.returned (.bool true)∧RdAt N w0 w' pb d f (t+2):=by
 obtain⟨⟨r,q,m,u,ev,d4,l,X,D,b,n,C,G,F,C',T,G',F',hp,hv,h3,h4⟩,a6,a5⟩:=h
 obtain⟨w1,b7,a7,b3⟩:=nb w (.cells #[.int .i64 kd,.int .i64 on,.int .u64 B.epoch,.bool B.large,.slice a B.sets.length c,.slice ra rn rc,.slice ka kn kc] 58)
 have HP:=V (hp.kept0 a7);have HV:=V hv;have H3:=V h3;have H4:=V h4;have c9:=V hp.reg.sdlt;have e6:=V hp.mod.sdlt;have e0:=V hkd
 have c8:=V b3;have c7:=V (a5.trans a7);have b8:=V b7;have e9:=V (Za hp.pair);have d3:=V a7.size
 obtain⟨ob,b2⟩: ∃ob,ob=w.heap.size:=⟨_,rfl⟩
 have b4:=V b2
 obtain⟨o0,o1,o2,o3,o4,o5,o6⟩:=Y0 b3
 clear hp hv h3 h4 b3 a7 b7 hkd a5
 unfold Zcn
 go_enter Tryz.func51,Tryz.ntmps51
 go_upto_region 1 with fail
 rw[←b8.o]
 go_wp2_with (go_at_call 123;fail)
 refine(Zdq w1).mono ?_
 rintro e w2 ⟨rfl,a2⟩
 rw[e0.o]
 have a0:=V (HP.o.kept0 a2);have e2:=V (c7.o.trans a2)
 have d9:=V (show w2.heap[ob]?=some (.cells #[.int .i64 kd,.int .i64 on,.int .u64 B.epoch,.bool B.large,.slice a B.sets.length c,.slice ra rn rc,.slice ka kn kc] 58 (0,0)) by rw[b4.o];exact kb a2 c8.o)
 have e3:=V (show∀k,SdP r b C G F k→k<w.heap.size from c9.o)
 have e8:=V (Nat.le_trans d3.o a2.size)
 clear a2 o0 o1 o2 o3 o4 o5 o6 c8 HP b8 c7
 simp only[]
 go_upto_region 18 with fail
 rw[←b2]
 have hA:w2.drew.heap[pb]?=some (.cells #[.pointer (some ⟨d,0,none⟩),.pointer (some ⟨f,0,none⟩),.pointer (some ⟨r,0,none⟩),.pointer (some ⟨m,0,none⟩)] 204 (0,0))∧w2.drew.heap[ob]?=some (.cells #[.int .i64 kd,.int .i64 on,.int .u64 B.epoch,.bool B.large,.slice a B.sets.length c,.slice ra rn rc,.slice ka kn kc] 58 (0,0)):=⟨a0.o.pair,d9.o⟩
 obtain⟨n1,b5,d2,d0⟩:=Znw on
 have d1:=V b5;have d7:=V (And.intro d2 d0)
 have HD:=V (a0.o.reg.wal.2.1.kept ((Upd.refl (fun _=>False) w2).drew) n3Z);have HE:=V (a0.o.mod.disk.kept ((Upd.refl (fun _=>False) w2).drew) n3Z);have b0:=V ((Upd.refl (fun _=>False) w2).drew)
 have a9:=V a0.o.reg.wal.2.1.mem;have b1:=V a0.o.mod.disk.mem
 clear b5 d2 d0 b2
 refine Zj 21 (fun W=>W.heap[pb]?=some (.cells #[.pointer (some ⟨d,0,none⟩),.pointer (some ⟨f,0,none⟩),.pointer (some ⟨r,0,none⟩),.pointer (some ⟨m,0,none⟩)] 204 (0,0))∧W.heap[ob]?=some (.cells #[.int .i64 kd,.int .i64 on,.int .u64 B.epoch,.bool B.large,.slice a B.sets.length c,.slice ra rn rc,.slice ka kn kc] 58 (0,0))) [false,false,false,false,false,false,false,false,false,false,false,false,false,false,false,false,false,false,false,false,false,false] rfl (by kernel_rfl) ?_
 generalize w2.drew=wd at hA HD HE b0 ⊢
 refine tpZ 0 (.pointer (some ⟨pb,0,none⟩)) hA ?_
 simp only[zz]
 refine tpZ 1 (.pointer (some ⟨pb,0,none⟩)) hA ?_
 simp only[zz]
 refine tpZ 2 (.pointer (some ⟨pb,0,none⟩)) hA ?_
 simp only[zz]
 refine tqZ 3 (.pointer (some ⟨d,0,none⟩)) [] hA (fun w5 q1=>?_) ?_
 ·obtain⟨c0,c1,c2,c3⟩:=Zp q1.1
  go_simp
 simp only[zz]
 refine tpZ 4 (.pointer (some ⟨ob,1,none⟩)) hA ?_
 simp only[zz]
 refine tqZ 5 (.int .i64 on) [] hA (fun w5 q1=>?_) ?_
 ·obtain⟨c0,c1,c2,c3,c4,c5,c6⟩:=Y0 q1.2
  go_simp
 simp only[zz]
 refine tpZ 6 (.int .u64 (IntKind.u64.wrap on)) hA ?_
 simp only[zz]
 refine tpZ 7 (.int .u64 ((IntKind.u64.wrap on).tmod 40)) hA ?_
 simp only[zz]
 refine tqZ 8 (.int .i64 n1) [] hA (fun w5 q1=>?_) ?_
 ·have hh:=d1.o
  go_simp
 simp only[zz]
 refine tpZ 10 (.pointer (some ⟨pb,0,none⟩)) hA ?_
 simp only[zz]
 refine tpZ 11 (.pointer (some ⟨pb,0,none⟩)) hA ?_
 simp only[zz]
 refine tpZ 12 (.pointer (some ⟨pb,1,none⟩)) hA ?_
 simp only[zz]
 refine tqZ 13 (.pointer (some ⟨f,0,none⟩)) [] hA (fun w5 q1=>?_) ?_
 ·obtain⟨c0,c1,c2,c3⟩:=Zp q1.1
  go_simp
 simp only[zz]
 refine tpZ 14 (.pointer (some ⟨ob,1,none⟩)) hA ?_
 simp only[zz]
 refine tqZ 15 (.int .i64 on) [] hA (fun w5 q1=>?_) ?_
 ·obtain⟨c0,c1,c2,c3,c4,c5,c6⟩:=Y0 q1.2
  go_simp
 simp only[zz]
 refine tpZ 16 (.int .u64 (IntKind.u64.wrap on)) hA ?_
 simp only[zz]
 refine tpZ 17 (.int .u64 ((IntKind.u64.wrap on).tmod 40)) hA ?_
 simp only[zz]
 refine tqZ 18 (.int .i64 n1) [] hA (fun w5 q1=>?_) ?_
 ·have hh:=d1.o
  go_simp
 simp only[zz]
 refine diZ 9 (fun K HKK=>?_)
 go_step
 refine(Zh5 n1 wd HD.o).mono ?_
 rintro e b9 ⟨rfl,a3,a4⟩
 have a1:=(⟨(a4.block _ (Za hA.1) (fun e=>(H3.o pb (.inr (.inl (e ▸ a9.o)))).2.1 rfl)).trans hA.1,(a4.block _ (Za hA.2) (fun e=>by have:=c9.o d (.inr (.inl a9.o));have:=b4.o;omega)).trans hA.2⟩:_∧_)
 have HE:=V (HE.o.kept a4 (fun k hk e=>(H3.o d (.inr (.inl a9.o))).1 (.inr (.inl (e ▸ hk)))))
 have e7:=V a3;have d8:=V a4
 clear a3 a4
 simp only[]
 refine HKK.o _ _ a1 ?_
 clear HKK
 simp only[zz]
 refine diZ 19 (fun K HKK=>?_)
 go_step
 refine(Zh5 n1 b9 HE.o).mono ?_
 rintro e e1 ⟨rfl,a3,a8⟩
 have b6:=(⟨(a8.block _ (Za a1.1) (fun e=>(H4.o pb (.inr (.inl (e ▸ b1.o)))).1 rfl)).trans a1.1,(a8.block _ (Za a1.2) (fun e=>by have:=e6.o f (.inr (.inl b1.o));have:=b4.o;omega)).trans a1.2⟩:_∧_)
 have d6:=V a3;have e5:=V a8
 clear a3 a8
 simp only[]
 refine HKK.o _ _ b6 ?_
 clear HKK
 simp only[zz]
 refine tpZ 20 (.bool true) b6 ?_
 simp only[zz]
 refine tlZ 21 ?_
 simp only[List.drop]
 go_wp2
 go_ret
 have e4:=a0.o.kept0 b0.o
 have d5:=RdAt.turned (w:=wd) (w5:=b9) (w6:=e1) (D':=D.doFail n1) (F5:=F) (F6:=F') e4 HV.o H3.o H4.o a6 (e2.o.trans b0.o) e7.o (fun k hk=>.inl hk) (d8.o.mono (F:=fun k=>k=d) (fun k _ e=>e ▸ a9.o)) (Zof D n1) d6.o (fun k hk=>.inl hk) (e5.o.mono (F:=fun k=>k=f) (fun k _ e=>e ▸ b1.o)) (HV.o.dok.doFail (by have:=d7.o;omega))
 exact⟨by simp,d5.more⟩
theorem Zr5 {kn:Nat}(w:World)(h:RdAt N w0 w pb d f t)(hN:N≤1000)(ht:t≤400)(hkd:Zb8 kd=2):
  Calls Tryz.prog 51 #[.pointer (some ⟨pb,0,none⟩),Zcn kd on B a c ra rn rc ka kn kc] w fun e w'=>e=.returned (.bool true)∧RdAt N w0 w' pb d f (t+2):=by
 obtain⟨⟨r,q,m,u,ev,d4,l,X,D,b,n,C,G,F,C',T,G',F',hp,hv,h3,h4⟩,a6,a5⟩:=h
 obtain⟨w1,b7,a7,b3⟩:=nb w (.cells #[.int .i64 kd,.int .i64 on,.int .u64 B.epoch,.bool B.large,.slice a B.sets.length c,.slice ra rn rc,.slice ka kn kc] 58)
 have HP:=V (hp.kept0 a7);have HV:=V hv;have H3:=V h3;have H4:=V h4;have c9:=V hp.reg.sdlt;have e6:=V hp.mod.sdlt;have e0:=V hkd
 have c8:=V b3;have c7:=V (a5.trans a7);have b8:=V b7;have e9:=V (Za hp.pair);have d3:=V a7.size
 obtain⟨ob,b2⟩: ∃ob,ob=w.heap.size:=⟨_,rfl⟩
 have b4:=V b2
 obtain⟨o0,o1,o2,o3,o4,o5,o6⟩:=Y0 b3
 clear hp hv h3 h4 b3 a7 b7 hkd a5
 unfold Zcn
 go_enter Tryz.func51,Tryz.ntmps51
 go_upto_region 1 with fail
 rw[←b8.o]
 go_wp2_with (go_at_call 123;fail)
 refine(Zdq w1).mono ?_
 rintro e w2 ⟨rfl,a2⟩
 rw[e0.o]
 have a0:=V (HP.o.kept0 a2);have e2:=V (c7.o.trans a2)
 have d9:=V (show w2.heap[ob]?=some (.cells #[.int .i64 kd,.int .i64 on,.int .u64 B.epoch,.bool B.large,.slice a B.sets.length c,.slice ra rn rc,.slice ka kn kc] 58 (0,0)) by rw[b4.o];exact kb a2 c8.o)
 have e3:=V (show∀k,SdP r b C G F k→k<w.heap.size from c9.o)
 have e8:=V (Nat.le_trans d3.o a2.size)
 clear a2 o0 o1 o2 o3 o4 o5 o6 c8 HP b8 c7
 simp only[]
 go_upto_region 20 with fail
 rw[←b2]
 have hA:w2.drew.heap[pb]?=some (.cells #[.pointer (some ⟨d,0,none⟩),.pointer (some ⟨f,0,none⟩),.pointer (some ⟨r,0,none⟩),.pointer (some ⟨m,0,none⟩)] 204 (0,0))∧w2.drew.heap[ob]?=some (.cells #[.int .i64 kd,.int .i64 on,.int .u64 B.epoch,.bool B.large,.slice a B.sets.length c,.slice ra rn rc,.slice ka kn kc] 58 (0,0)):=⟨a0.o.pair,d9.o⟩
 obtain⟨n1,b5,d2,d0⟩:=Znw on
 have d1:=V b5;have d7:=V (And.intro d2 d0)
 have HD:=V (a0.o.reg.wal.2.1.kept ((Upd.refl (fun _=>False) w2).drew) n3Z);have HE:=V (a0.o.mod.disk.kept ((Upd.refl (fun _=>False) w2).drew) n3Z);have b0:=V ((Upd.refl (fun _=>False) w2).drew)
 have a9:=V a0.o.reg.wal.2.1.mem;have b1:=V a0.o.mod.disk.mem
 clear b5 d2 d0 b2
 refine Zj 21 (fun W=>W.heap[pb]?=some (.cells #[.pointer (some ⟨d,0,none⟩),.pointer (some ⟨f,0,none⟩),.pointer (some ⟨r,0,none⟩),.pointer (some ⟨m,0,none⟩)] 204 (0,0))∧W.heap[ob]?=some (.cells #[.int .i64 kd,.int .i64 on,.int .u64 B.epoch,.bool B.large,.slice a B.sets.length c,.slice ra rn rc,.slice ka kn kc] 58 (0,0))) [false,false,false,false,false,false,false,false,false,false,false,false,false,false,false,false,false,false,false,false,false,false] rfl (by kernel_rfl) ?_
 generalize w2.drew=wd at hA HD HE b0 ⊢
 refine tpZ 0 (.pointer (some ⟨pb,0,none⟩)) hA ?_
 simp only[zz]
 refine tpZ 1 (.pointer (some ⟨pb,0,none⟩)) hA ?_
 simp only[zz]
 refine tpZ 2 (.pointer (some ⟨pb,0,none⟩)) hA ?_
 simp only[zz]
 refine tqZ 3 (.pointer (some ⟨d,0,none⟩)) [] hA (fun w5 q1=>?_) ?_
 ·obtain⟨c0,c1,c2,c3⟩:=Zp q1.1
  go_simp
 simp only[zz]
 refine tpZ 4 (.pointer (some ⟨ob,1,none⟩)) hA ?_
 simp only[zz]
 refine tqZ 5 (.int .i64 on) [] hA (fun w5 q1=>?_) ?_
 ·obtain⟨c0,c1,c2,c3,c4,c5,c6⟩:=Y0 q1.2
  go_simp
 simp only[zz]
 refine tpZ 6 (.int .u64 (IntKind.u64.wrap on)) hA ?_
 simp only[zz]
 refine tpZ 7 (.int .u64 ((IntKind.u64.wrap on).tmod 40)) hA ?_
 simp only[zz]
 refine tqZ 8 (.int .i64 n1) [] hA (fun w5 q1=>?_) ?_
 ·have hh:=d1.o
  go_simp
 simp only[zz]
 refine tpZ 10 (.pointer (some ⟨pb,0,none⟩)) hA ?_
 simp only[zz]
 refine tpZ 11 (.pointer (some ⟨pb,0,none⟩)) hA ?_
 simp only[zz]
 refine tpZ 12 (.pointer (some ⟨pb,1,none⟩)) hA ?_
 simp only[zz]
 refine tqZ 13 (.pointer (some ⟨f,0,none⟩)) [] hA (fun w5 q1=>?_) ?_
 ·obtain⟨c0,c1,c2,c3⟩:=Zp q1.1
  go_simp
 simp only[zz]
 refine tpZ 14 (.pointer (some ⟨ob,1,none⟩)) hA ?_
 simp only[zz]
 refine tqZ 15 (.int .i64 on) [] hA (fun w5 q1=>?_) ?_
 ·obtain⟨c0,c1,c2,c3,c4,c5,c6⟩:=Y0 q1.2
  go_simp
 simp only[zz]
 refine tpZ 16 (.int .u64 (IntKind.u64.wrap on)) hA ?_
 simp only[zz]
 refine tpZ 17 (.int .u64 ((IntKind.u64.wrap on).tmod 40)) hA ?_
 simp only[zz]
 refine tqZ 18 (.int .i64 n1) [] hA (fun w5 q1=>?_) ?_
 ·have hh:=d1.o
  go_simp
 simp only[zz]
 refine diZ 9 (fun K HKK=>?_)
 go_step
 refine(Zjo n1 wd HD.o).mono ?_
 rintro e b9 ⟨rfl,a3,a4⟩
 have a1:=(⟨(a4.block _ (Za hA.1) (fun e=>(H3.o pb (.inr (.inl (e ▸ a9.o)))).2.1 rfl)).trans hA.1,(a4.block _ (Za hA.2) (fun e=>by have:=c9.o d (.inr (.inl a9.o));have:=b4.o;omega)).trans hA.2⟩:_∧_)
 have HE:=V (HE.o.kept a4 (fun k hk e=>(H3.o d (.inr (.inl a9.o))).1 (.inr (.inl (e ▸ hk)))))
 have e7:=V a3;have d8:=V a4
 clear a3 a4
 simp only[]
 refine HKK.o _ _ a1 ?_
 clear HKK
 simp only[zz]
 refine diZ 19 (fun K HKK=>?_)
 go_step
 refine(Zjo n1 b9 HE.o).mono ?_
 rintro e e1 ⟨rfl,a3,a8⟩
 have b6:=(⟨(a8.block _ (Za a1.1) (fun e=>(H4.o pb (.inr (.inl (e ▸ b1.o)))).1 rfl)).trans a1.1,(a8.block _ (Za a1.2) (fun e=>by have:=e6.o f (.inr (.inl b1.o));have:=b4.o;omega)).trans a1.2⟩:_∧_)
 have d6:=V a3;have e5:=V a8
 clear a3 a8
 simp only[]
 refine HKK.o _ _ b6 ?_
 clear HKK
 simp only[zz]
 refine tpZ 20 (.bool true) b6 ?_
 simp only[zz]
 refine tlZ 21 ?_
 simp only[List.drop]
 go_wp2
 go_ret
 have e4:=a0.o.kept0 b0.o
 have d5:=RdAt.turned (w:=wd) (w5:=b9) (w6:=e1) (D':=D.doArm n1) (F5:=F) (F6:=F') e4 HV.o H3.o H4.o a6 (e2.o.trans b0.o) e7.o (fun k hk=>.inl hk) (d8.o.mono (F:=fun k=>k=d) (fun k _ e=>e ▸ a9.o)) (Zqf D n1) d6.o (fun k hk=>.inl hk) (e5.o.mono (F:=fun k=>k=f) (fun k _ e=>e ▸ b1.o)) (HV.o.dok.doArm (by have:=d7.o;omega))
 exact⟨by simp,d5.more⟩
theorem Zoe (w:World)(h:RdAt N w0 w pb d f t)(hN:N≤1000)(ht:t≤300)(hkd:Zb8 kd=3)(hkp:BoolsIn w0 ka KK)(hkl:KK.length≤140737488351232):
  Calls Tryz.prog 51 #[.pointer (some ⟨pb,0,none⟩),Zcn kd on B a c ra rn rc ka KK.length kc] w fun e w'=>e=.returned (.bool true)∧RdAt N w0 w' pb d f (t+2):=by
 obtain⟨⟨r,q,m,u,ev,f9,l,X,D,b,n,C,G,F,C',T,G',F',hp,hv,h3,h4⟩,c8,c7⟩:=h
 obtain⟨w1,e2,d1,d8⟩:=nb w (.cells #[.int .i64 kd,.int .i64 on,.int .u64 B.epoch,.bool B.large,.slice a B.sets.length c,.slice ra rn rc,.slice ka KK.length kc] 58)
 have HP:=V (hp.kept0 d1);have HV:=V hv;have H3:=V h3;have H4:=V h4;have d4:=V hp.reg.sdlt;have f3:=V hp.mod.sdlt;have g9:=V hkd
 have f4:=V d8;have e4:=V (c7.trans d1);have e3:=V e2;have h5:=V (Za hp.pair);have f8:=V d1.size
 obtain⟨ob,d6⟩: ∃ob,ob=w.heap.size:=⟨_,rfl⟩
 have d9:=V d6
 obtain⟨o0,o1,o2,o3,o4,o5,o6⟩:=Y0 d8
 clear hp hv h3 h4 d8 d1 e2 hkd c7
 unfold Zcn
 go_enter Tryz.func51,Tryz.ntmps51
 go_upto_region 1 with fail
 rw[←e3.o]
 go_wp2_with (go_at_call 123;fail)
 refine(Zdq w1).mono ?_
 rintro e w2 ⟨rfl,b7⟩
 rw[g9.o]
 have b8:=V (HP.o.kept0 b7);have e0:=V (e4.o.trans b7)
 have e7:=V (show w2.heap[ob]?=some (.cells #[.int .i64 kd,.int .i64 on,.int .u64 B.epoch,.bool B.large,.slice a B.sets.length c,.slice ra rn rc,.slice ka KK.length kc] 58 (0,0)) by rw[d9.o];exact kb b7 f4.o)
 have h1:=V (show∀k,SdP r b C G F k→k<w.heap.size from d4.o)
 have g8:=V (Nat.le_trans f8.o b7.size)
 clear b7 o0 o1 o2 o3 o4 o5 o6 f4 HP e3 e4
 simp only[]
 go_upto_region 21 with fail
 rw[←d6]
 have hA:w2.drew.heap[pb]?=some (.cells #[.pointer (some ⟨d,0,none⟩),.pointer (some ⟨f,0,none⟩),.pointer (some ⟨r,0,none⟩),.pointer (some ⟨m,0,none⟩)] 204 (0,0))∧w2.drew.heap[ob]?=some (.cells #[.int .i64 kd,.int .i64 on,.int .u64 B.epoch,.bool B.large,.slice a B.sets.length c,.slice ra rn rc,.slice ka KK.length kc] 58 (0,0)):=⟨b8.o.pair,e7.o⟩
 have a5:=V ((Upd.refl (fun _=>False) w2).drew)
 have HD:=V (b8.o.reg.wal.2.1.kept a5.o n3Z);have HE:=V (b8.o.mod.disk.kept a5.o n3Z);have a1:=V (e0.o.trans a5.o);have a0:=V (Upd.refl (fun _=>False) w2.drew)
 have a6:=V (show pb<w2.drew.heap.size∧ob<w2.drew.heap.size∧w.heap.size≤w2.drew.heap.size∧w0.heap.size≤w2.drew.heap.size from⟨Nat.lt_of_lt_of_le (Za b8.o.pair) a5.o.size,Nat.lt_of_lt_of_le (Za e7.o) a5.o.size,Nat.le_trans g8.o a5.o.size,(e0.o.trans a5.o).size⟩)
 have h2:=V (show∀k,F k→k<w.heap.size from fun k hk=>d4.o k (.inr (.inl hk)));have f1:=V (show∀k,F' k→k<w.heap.size from fun k hk=>f3.o k (.inr (.inl hk)))
 clear d6
 refine Zj 21 (fun W=>W.heap[pb]?=some (.cells #[.pointer (some ⟨d,0,none⟩),.pointer (some ⟨f,0,none⟩),.pointer (some ⟨r,0,none⟩),.pointer (some ⟨m,0,none⟩)] 204 (0,0))∧W.heap[ob]?=some (.cells #[.int .i64 kd,.int .i64 on,.int .u64 B.epoch,.bool B.large,.slice a B.sets.length c,.slice ra rn rc,.slice ka KK.length kc] 58 (0,0))) [false,false,false,false,false,false,false,false,false,false,false,false,false,false,false,false,false,false,false,false,false,false] rfl (by kernel_rfl) ?_
 generalize w2.drew=wd at hA HD HE a5 a1 a0 a6 ⊢
 refine tpZ 0 (.pointer (some ⟨pb,0,none⟩)) hA ?_
 simp only[zz]
 refine tpZ 1 (.pointer (some ⟨pb,0,none⟩)) hA ?_
 simp only[zz]
 refine tpZ 2 (.pointer (some ⟨pb,0,none⟩)) hA ?_
 simp only[zz]
 refine tqZ 3 (.pointer (some ⟨d,0,none⟩)) [10,8] hA (fun w5 q1=>?_) ?_
 ·obtain⟨c0,c1,c2,c3⟩:=Zp q1.1
  go_simp
 simp only[zz]
 refine tpZ 5 (.pointer (some ⟨ob,6,none⟩)) hA ?_
 simp only[zz]
 refine tqZ 6 (.slice ka KK.length kc) [10,8,7] hA (fun w5 q1=>?_) ?_
 ·obtain⟨c0,c1,c2,c3,c4,c5,c6⟩:=Y0 q1.2
  go_simp
 simp only[zz]
 refine diZ 4 (fun K HKK=>?_)
 go_step
 have ua:U0 wd (wd.alloc (.cells #[] 4)):=(Upd.refl _ _).alloc _
 have b1:=(⟨kb ua hA.1,kb ua hA.2⟩:_∧_)
 have e1:=V (Zc (w:=wd) (o:=.cells #[] 4) rfl)
 have a8:=V a0.o.size
 have HD:=V (HD.o.kept ua n3Z);have HE:=V (HE.o.kept ua n3Z);have a1:=V (a1.o.trans ua);have a0:=V (a0.o.trans (ua.mono (F:=fun _=>False) (fun _ _ e=>e.elim)))
 clear ua
 generalize wd.alloc (.cells #[] 4)=wd1 at b1 e1 HD HE a1 a0 ⊢
 obtain⟨f7,b3⟩: ∃x,x=wd.heap.size:=⟨_,rfl⟩
 rw[←b3] at e1 ⊢
 have a8:=V (show wd.heap.size≤f7 by rw[b3];exact a8.o)
 clear b3
 refine HKK.o _ _ b1 ?_
 clear HKK
 simp only[zz]
 refine diZ 7 (fun K HKK=>?_)
 obtain⟨a9,c9,f0,b0,d0,a2⟩:=Zi7 (ty:=40) (kc:=kc) e1.o (hkp.kept a1.o) hkl
 refine Lib.wp_append_run wd1 (.tmp 122) (.tmp 124) 40 40 rfl _ _ rfl rfl _ f0 b0 ?_
 clear b0
 have b5:=(⟨(a2.block _ (Za b1.1) (fun e=>by have:=a6.o;have:=a8.o;omega)).trans b1.1,(a2.block _ (Za b1.2) (fun e=>by have:=a6.o;have:=a8.o;omega)).trans b1.2⟩:_∧_)
 have HD:=V (HD.o.kept a2 (fun k hk e=>by have:=h2.o k hk;have:=a6.o;have:=a8.o;omega));have HE:=V (HE.o.kept a2 (fun k hk e=>by have:=f1.o k hk;have:=a6.o;have:=a8.o;omega));have a1:=V (a1.o.step a2 (fun k hk e=>by have:=a6.o;have:=a8.o;omega));have a0:=V (a0.o.step a2 (fun k hk e=>by have:=a8.o;omega))
 have d7:=V d0
 clear d0 a2
 refine HKK.o _ _ b5 ?_
 clear HKK
 simp only[zz]
 refine diZ 8 (fun K HKK=>?_)
 go_step
 refine(Zh6 (kc:=c9) f0 a9 KK d7.o (by omega) HD.o (HV.o.dok.mono (by omega))).mono ?_
 rintro e a4 ⟨rfl,F5,g1,g2,g3⟩
 have a3:=(⟨(g3.block _ (Za b5.1) (fun e=>(H3.o pb (.inr (.inl e))).2.1 rfl)).trans b5.1,(g3.block _ (Za b5.2) (fun e=>by have:=d4.o ob (.inr (.inl e));have:=d9.o;omega)).trans b5.2⟩:_∧_)
 have HE:=V (HE.o.kept g3 (fun k hk e=>(H3.o k (.inr (.inl e))).1 (.inr (.inl hk))));have a1:=V (a1.o.step g3 (fun k hk e=>by have:=(H3.o k (.inr (.inl e))).2.2;omega))
 have f5:=V g1;have g4:=V (show∀k,F5 k→F k∨wd.heap.size≤k from fun k hk=>(g2 k hk).imp_right (fun e=>Nat.le_trans a0.o.size e))
 have e5:=V (show Upd F wd a4 from(a0.o.mono (F:=fun _=>False) (fun _ _ e=>e.elim)).step g3 n3Z)
 have HD:=f5;have a0:=V (Upd.refl (fun _=>False) a4);have a7:=V e5.o.size
 clear g1 g2 g3
 simp only[]
 refine HKK.o _ _ a3 ?_
 clear HKK
 simp only[zz]
 refine tpZ 9 (.bool false) a3 ?_
 simp only[zz]
 refine tpZ 10 (.bool false) a3 ?_
 simp only[zz]
 refine tpZ 11 (.pointer (some ⟨pb,0,none⟩)) a3 ?_
 simp only[zz]
 refine tpZ 12 (.pointer (some ⟨pb,0,none⟩)) a3 ?_
 simp only[zz]
 refine tpZ 13 (.pointer (some ⟨pb,1,none⟩)) a3 ?_
 simp only[zz]
 refine tqZ 14 (.pointer (some ⟨f,0,none⟩)) [20,19] a3 (fun w5 q1=>?_) ?_
 ·obtain⟨c0,c1,c2,c3⟩:=Zp q1.1
  go_simp
 simp only[zz]
 refine tpZ 16 (.pointer (some ⟨ob,6,none⟩)) a3 ?_
 simp only[zz]
 refine tqZ 17 (.slice ka KK.length kc) [20,19,18] a3 (fun w5 q1=>?_) ?_
 ·obtain⟨c0,c1,c2,c3,c4,c5,c6⟩:=Y0 q1.2
  go_simp
 simp only[zz]
 refine diZ 15 (fun K HKK=>?_)
 go_step
 have ua:U0 a4 (a4.alloc (.cells #[] 4)):=(Upd.refl _ _).alloc _
 have b2:=(⟨kb ua a3.1,kb ua a3.2⟩:_∧_)
 have d2:=V (Zc (w:=a4) (o:=.cells #[] 4) rfl)
 have b4:=V a0.o.size
 have HD:=V (HD.o.kept ua n3Z);have HE:=V (HE.o.kept ua n3Z);have a1:=V (a1.o.trans ua);have a0:=V (a0.o.trans (ua.mono (F:=fun _=>False) (fun _ _ e=>e.elim)))
 clear ua
 generalize a4.alloc (.cells #[] 4)=wd4 at b2 d2 HD HE a1 a0 ⊢
 obtain⟨g6,b3⟩: ∃x,x=a4.heap.size:=⟨_,rfl⟩
 rw[←b3] at d2 ⊢
 have b4:=V (show a4.heap.size≤g6 by rw[b3];exact b4.o)
 clear b3
 refine HKK.o _ _ b2 ?_
 clear HKK
 simp only[zz]
 refine diZ 18 (fun K HKK=>?_)
 obtain⟨b9,e9,e8,b0,d0,a2⟩:=Zi7 (ty:=40) (kc:=kc) d2.o (hkp.kept a1.o) hkl
 refine Lib.wp_append_run wd4 (.tmp 133) (.tmp 135) 40 40 rfl _ _ rfl rfl _ e8 b0 ?_
 clear b0
 have b6:=(⟨(a2.block _ (Za b2.1) (fun e=>by have:=a6.o;have:=a7.o;have:=b4.o;omega)).trans b2.1,(a2.block _ (Za b2.2) (fun e=>by have:=a6.o;have:=a7.o;have:=b4.o;omega)).trans b2.2⟩:_∧_)
 have HE:=V (HE.o.kept a2 (fun k hk e=>by have:=f1.o k hk;have:=a6.o;have:=a7.o;have:=b4.o;omega));have a1:=V (a1.o.step a2 (fun k hk e=>by have:=a6.o;have:=a7.o;have:=b4.o;omega));have a0:=V (a0.o.step a2 (fun k hk e=>by have:=b4.o;omega))
 have d7:=V d0
 clear d0 a2
 refine HKK.o _ _ b6 ?_
 clear HKK
 simp only[zz]
 refine diZ 19 (fun K HKK=>?_)
 go_step
 refine(Zh6 (kc:=e9) e8 b9 KK d7.o (by omega) HE.o (HV.o.dok.mono (by omega))).mono ?_
 rintro e d5 ⟨rfl,F6,g1,g2,g3⟩
 have d3:=(⟨(g3.block _ (Za b6.1) (fun e=>(H4.o pb (.inr (.inl e))).1 rfl)).trans b6.1,(g3.block _ (Za b6.2) (fun e=>by have:=f3.o ob (.inr (.inl e));have:=d9.o;omega)).trans b6.2⟩:_∧_)
 have g0:=V g1;have g5:=V (show∀k,F6 k→F' k∨a4.heap.size≤k from fun k hk=>(g2 k hk).imp_right (fun e=>Nat.le_trans a0.o.size e))
 have f6:=V (show Upd F' a4 d5 from(a0.o.mono (F:=fun _=>False) (fun _ _ e=>e.elim)).step g3 n3Z)
 clear g1 g2 g3
 simp only[]
 refine HKK.o _ _ d3 ?_
 clear HKK
 simp only[zz]
 refine tpZ 20 (.bool false) d3 ?_
 simp only[zz]
 refine tlZ 21 ?_
 simp only[List.drop]
 have f2:=b8.o.kept0 a5.o
 have e6:=RdAt.turned (w:=wd) (w5:=a4) (w6:=d5) (D':=D.crash KK) (F5:=F5) (F6:=F6) f2 HV.o H3.o H4.o c8 (e0.o.trans a5.o) f5.o g4.o e5.o (Zqj D KK) g0.o g5.o f6.o (HV.o.dok.crash KK)
 have h0:=V e6
 clear f2 e6 hA b1 b5 a3 b2 b6 d3
 go_wp2_with (go_at_call 53;fail)
 refine(Zjx d5 h0.o hN (by omega)).mono ?_
 rintro e w9 ⟨rfl,b0⟩
 have g7:=V b0
 clear b0
 simp only[]
 go_wp2
 go_ret
 exact⟨rfl,g7.o⟩
theorem Zom {e:Ending}(h:CommitAns w r q p ev b n C l area X D G F B e w'): ∃E,e=.returned (.int .i64 E)∧Upd (fun k=>G k∨F k∨k=r) w w':=by
 unfold CommitAns at h
 split at h
 ·exact⟨_,h.1,h.2.mono (F:=fun _=>False) (fun _ _ e=>e.elim)⟩
 ·obtain⟨hb,⟨_,h1,h2⟩ | ⟨_,h1,_,_,_,_,_,_,_,_,_,_,_,_,_,_,_,h2⟩⟩:=h
  ·exact⟨_,h1,h2.mono (F:=fun _=>False) (fun _ _ e=>e.elim)⟩
  ·exact⟨_,h1,h2⟩
 ·obtain⟨hb,⟨_,h1,h2⟩ | ⟨_,_,h1,h2⟩ | ⟨_,_,h1,_,_,_,_,_,_,_,_,_,_,_,_,_,_,_,h2⟩⟩:=h
  ·exact⟨_,h1,h2.mono (F:=fun _=>False) (fun _ _ e=>e.elim)⟩
  ·exact⟨_,h1,h2.mono (F:=fun _=>False) (fun _ _ e=>e.elim)⟩
  ·exact⟨_,h1,h2⟩
theorem Zmh {CB:Nat→Prop}{e:Ending}(h:MCommitAns w m q p ev area l X D T G F CB B e w'): ∃E,e=.returned (.int .i64 E)∧Upd (fun k=>G k∨F k∨k=m) w w':=by
 unfold MCommitAns at h
 split at h
 ·exact⟨_,h.1,h.2.mono (F:=fun _=>False) (fun _ _ e=>e.elim)⟩
 ·obtain⟨hb,⟨_,h1,h2⟩ | ⟨_,h1,_,_,_,_,_,_,_,_,h2⟩⟩:=h
  ·exact⟨_,h1,h2.mono (F:=fun _=>False) (fun _ _ e=>e.elim)⟩
  ·exact⟨_,h1,h2⟩
 ·obtain⟨hb,⟨_,h1,h2⟩ | ⟨_,_,h1,h2⟩ | ⟨_,_,h1,_,_,_,_,_,_,_,_,h2⟩⟩:=h
  ·exact⟨_,h1,h2.mono (F:=fun _=>False) (fun _ _ e=>e.elim)⟩
  ·exact⟨_,h1,h2.mono (F:=fun _=>False) (fun _ _ e=>e.elim)⟩
  ·exact⟨_,h1,h2⟩
structure TwoAt (N:Nat) (w w' w'':World) (r q m u d f:Nat) (area:Int) (b n t:Nat) (C G F T G' F' CB:Nat→Prop) (E:Int) (w5:World):Prop where
 out: ∃ev1 l1 X1 D1 b1 n1 C1 G1 F1 C1' T1 G1' F1',RegMem w5 r q d ev1 b1 n1 C1 l1 area X1 D1 G1 F1∧ModAt w'' m u f (ev1,l1) area X1 D1 C1' T1 G1' F1'∧RdV N area ev1 X1 D1 n1 (t+1)∧
  (∀k,SdP r b1 C1 G1 F1 k→SdP r b C G F k∨w.heap.size≤k)∧ ∀k,SdM m T1 G1' F1' k→SdM m T G' F' k∨CB k∨w'.heap.size≤k
theorem Ztl {E:Int}(hr:0≤ev∧ev≤4611686018427387904)(hk:B.Ok)(hB:B.right=true){ev1:Int}(h1:E=0→ev1=B.epoch)(h2:E≠0→ev1=ev):0≤ev1∧ev1≤4611686018427387904:=by
 by_cases e:E=0
 ·rw[h1 e]
  exact⟨hk.epoch.1,(BatchV.right_sets hB).1⟩
 ·rw[h2 e]
  exact hr
theorem Znx (h:Z2 ev area l X B=.app∨Z2 ev area l X B=.cp):B.right=true:=by
 unfold Z2 at h
 split at h
 ·rcases h with h | h<;> cases h
 split at h
 ·rcases h with h | h<;> cases h
 ·rename_i h2
  simpa using h2
theorem Zk0 {u:Int}(hok:X.Ok)(h:X.refuses n u=0)(hu:0≤u):secsN n≤1000:=by
 have ha:=hok.area
 unfold Lg.refuses at h
 split at h
 ·cases h
 split at h
 ·cases h
 split at h
 ·cases h
 omega
theorem Zol {w'':World}{CB:Nat→Prop}{E1 E2:Int}
  (hP:RegMem w r q d ev b n C l area X D G F) (hM:ModAt w' m u f (ev,l) area X D C' T G' F') (hv:RdV N area ev X D n t) (hN:N≤1000) (hk:B.Ok)
  (h1:CommitAns w r q d ev b n C l area X D G F B (.returned (.int .i64 E1)) w5) (h2:MCommitAns w' m u f ev area l X D T G' F' CB B (.returned (.int .i64 E2)) w''):
  E1=E2∧TwoAt N w w' w'' r q m u d f area b n t C G F T G' F' CB E1 w5:=by
 have b2: ∀{E:Int},NoAns w E (.returned (.int .i64 E1)) w5→NoAns w' E (.returned (.int .i64 E2)) w''→E1=E2∧TwoAt N w w' w'' r q m u d f area b n t C G F T G' F' CB E1 w5:=fun {E} k1 k2=>by
  have e1:E1=E:=by have:=k1.1;injection this with this;injection this
  have e2:E2=E:=by have:=k2.1;injection this with this;injection this
  exact⟨by rw[e1,e2],⟨ev,l,X,D,b,n,C,G,F,C',T,G',F',hP.kept0 k1.2,hM.kept0 k2.2,⟨hv.lg,hv.dok.mono (by omega),hv.len,hv.ev,hv.area,by have:=hv.n;omega⟩,fun k hk=>.inl hk,fun k hk=>.inl hk⟩⟩
 have b0: ∀{E:Int} {X':Lg} {D':Dk},Z2 ev area l X B=.app∨Z2 ev area l X B=.cp→LgI N X'→D'.Ok (20000+1100000 * (t+1))→D'.arr.length=D.arr.length→DoneAns w r q d ev b n C l area G F B E X' D' (.returned (.int .i64 E1)) w5→MDone w' m u f ev area l T G' F' CB B E X' D' (.returned (.int .i64 E2)) w''→E1=E2∧TwoAt N w w' w'' r q m u d f area b n t C G F T G' F' CB E1 w5:=fun {E X' D'} hpl hx hd hl k1 k2=>by
  obtain⟨a1,b5,b1,n1,C1,l1,G1,F1,a2,a3,a4,a5,a6,a7,a8,a9,_⟩:=k1
  obtain⟨c1,b8,T1,b6,b7,c2,c3,c4,c5,_⟩:=k2
  have e1:E1=E:=by injection a1 with a1;injection a1
  have e2:E2=E:=by injection c1 with c1;injection c1
  have hs:(if E=0 then(B.epoch,l.withs B.sets) else(ev,l))=(b5,l1):=by
   split
   ·rename_i h;rw[(a3 h).1,(a3 h).2]
   ·rename_i h;rw[(a4 h).1,(a4 h).2]
  rw[hs] at c2
  refine⟨by rw[e1,e2],⟨b5,l1,X',D',b1,n1,C1,G1,F1,b8,T1,b6,b7,a2,c2,⟨hx,hd,hl.trans hv.len,Ztl hv.ev hk (Znx hpl) (fun e=>(a3 e).1) (fun e=>(a4 e).1),hv.area,by have:=hv.n;omega⟩,fun k hk=>?_,fun k hk=>?_⟩⟩
  ·rcases hk with e | e | e | e | e
   ·exact(a8 k e).imp_left .inl
   ·exact(a9 k e).imp_left (fun e=>.inr (.inl e))
   ·exact .inl (.inr (.inr (.inl e)))
   ·rcases a6 with h | h
    ·exact .inl (.inr (.inr (.inr (.inl (e.trans h)))))
    ·exact .inr (by omega)
   ·exact(a7 k e).imp_left (fun e=>.inr (.inr (.inr (.inr e))))
  ·rcases hk with e | e | e | e
   ·exact(c4 k e).imp (fun e=>.inl e) .inr
   ·exact(c5 k e).imp (fun e=>.inr (.inl e)) .inr
   ·exact .inl (.inr (.inr (.inl e)))
   ·exact(c3 k e).imp_left (fun e=>.inr (.inr (.inr e)))
 unfold CommitAns at h1
 unfold MCommitAns at h2
 cases hpl:Z2 ev area l X B with
 |no E=>
  rw[hpl] at h1 h2
  exact b2 h1 h2
 |app=>
  rw[hpl] at h1 h2
  obtain⟨hb,h1⟩:=h1
  obtain⟨b9,h2⟩:=h2
  rcases h1 with ⟨r1,h1⟩ | ⟨r1,h1⟩<;> rcases h2 with ⟨r2,h2⟩ | ⟨r2,h2⟩
  ·exact b2 h1 h2
  ·exact absurd r2 r1
  ·exact absurd r1 r2
  ·refine b0 (.inl hpl) (hv.lg.after hN hb r1) ?_ (Zch _ _) h1 h2
   have hs:=Zk0 hv.lg.ok r1 hv.lg.ok.used.1
   have a0:=Dk.lays_ok (partSc X.h (X.h.number+X.parts.length) (X.h.place+X.used) false (encF B) hb) hv.dok
   rw[Yk] at a0
   exact a0.mono (by omega)
 |cp=>
  rw[hpl] at h1 h2
  obtain⟨hb,h1⟩:=h1
  obtain⟨b9,h2⟩:=h2
  rcases h1 with ⟨r1,h1⟩ | ⟨r1,b3,h1⟩ | ⟨r1,b3,h1⟩<;> rcases h2 with ⟨r2,h2⟩ | ⟨r2,b4,h2⟩ | ⟨r2,b4,h2⟩
  ·exact b2 h1 h2
  ·exact absurd r2 r1
  ·exact absurd r2 r1
  ·exact absurd r1 r2
  ·exact b2 h1 h2
  ·exact absurd b3 b4
  ·exact absurd r1 r2
  ·exact absurd b4 b3
  ·refine b0 (.inr hpl) (hv.lg.cp hb r1 b3) ?_ (Ztq _ _ _ _) h1 h2
   have hs:=Zk0 hv.lg.ok r1 (by omega)
   have a0:=Dk.lays_ok (partSc X.h X.cpH.number X.cpH.place true (Zz B.epoch (l.withs B.sets)) hb) hv.dok
   rw[Yk] at a0
   unfold Lg.cpD
   split
   ·exact Dk.Ok.mono (Dk.lays_ok [headSc X.cpH] a0) (by simp;omega)
   ·exact a0.mono (by omega)
theorem put3 {W:World}{t6:Nat}{x0 x1 x2 u v z:Value}{ty:TypeId}(hx:W.heap[t6]?=some (.cells #[x0,x1,x2] ty (0,0))):
  (((W.setCell ⟨t6,0,none⟩ u).setCell ⟨t6,1,none⟩ v).setCell ⟨t6,2,none⟩ z).heap[t6]?=some (.cells #[u,v,z] ty (0,0))∧Upd (fun k=>k=t6) W (((W.setCell ⟨t6,0,none⟩ u).setCell ⟨t6,1,none⟩ v).setCell ⟨t6,2,none⟩ z):=by
 refine⟨?_,((Zd W t6 0 _).trans (Zd _ t6 1 _)).trans (Zd _ t6 2 _)⟩
 have:=Ze (i:=2) (v:=z) (Ze (i:=1) (v:=v) (Ze (i:=0) (v:=u) hx))
 simpa using this
theorem SetRow.keptT {B:Nat}{l:List SetV}{cs:Array Value}{ty:TypeId}(h:SetRow w B C (.slice a n c) l)(hr:RowC w C)(hx:w.heap[t]?=some (.cells cs ty (0,0)))(h73:ty≠73)(h5:ty≠5)(hu:Upd (fun k=>k=t) w w'):SetRow w' B C (.slice a n c) l∧RowC w' C:=by
 have hc: ∀k,C k→ ¬k=t:=fun k hk=>by
  obtain⟨ds,q⟩:=hr k hk
  exact Zs q hx (fun e=>h5 e.symm)
 refine⟨h.kept hu (fun k hk=>?_) hc,hr.kept hu hc⟩
 obtain⟨ds,q⟩:=SetRow.block73 h hk
 exact Zs q hx (fun e=>h73 e.symm)
theorem SetRow.fines {B:Nat}{v:Value}{l:List SetV}(h:SetRow w B C v l): ∀x∈l,x.fine:=by
 obtain⟨L,rfl,h1,h2,h3⟩:=h
 exact h3
theorem Zmo (w:World)(h:RdAt N w0 w pb d f t)(hN:N≤1000)(ht:t≤300)(hkd:Zb8 kd=0){R:List Bool}(hop:OpIn w0 B a c ra R rc ka KK kc):
  Calls Tryz.prog 51 #[.pointer (some ⟨pb,0,none⟩),Zcn kd on B a c ra R.length rc ka KK.length kc] w fun e w'=>e=.returned (.bool true)∧RdAt N w0 w' pb d f (t+2):=by
 obtain⟨⟨r,q,m,u,ev,f3,l,X,D,b,n,C,G,F,C',T,G',F',hp,hv,h3,h4⟩,g8,i1⟩:=h
 obtain⟨w1,q3,j9,m3⟩:=nb w (.cells #[.int .i64 kd,.int .i64 on,.int .u64 B.epoch,.bool B.large,.slice a B.sets.length c,.slice ra R.length rc,.slice ka KK.length kc] 58)
 have HP:=V (hp.kept0 j9);have HV:=V hv;have H3:=V h3;have H4:=V h4;have a8:=V hp.reg.sdlt;have b5:=V hp.mod.sdlt;have A1:=V hkd
 have r0:=V m3;have q4:=V (i1.trans j9);have r3:=V q3;have k1:=V (Za hp.pair);have v2:=V j9.size
 obtain⟨ob,n5⟩: ∃ob,ob=w.heap.size:=⟨_,rfl⟩
 have w6:=V n5
 obtain⟨o0,o1,o2,o3,o4,o5,o6⟩:=Y0 m3
 clear hp hv h3 h4 m3 j9 q3 hkd i1
 unfold Zcn
 go_enter Tryz.func51,Tryz.ntmps51
 go_upto_region 1 with fail
 rw[←r3.o]
 go_wp2_with (go_at_call 123;fail)
 refine(Zdq w1).mono ?_
 rintro e w2 ⟨rfl,g3⟩
 rw[A1.o]
 have j8:=V (HP.o.kept0 g3);have e7:=V (q4.o.trans g3)
 have u9:=V (show w2.heap[ob]?=some (.cells #[.int .i64 kd,.int .i64 on,.int .u64 B.epoch,.bool B.large,.slice a B.sets.length c,.slice ra R.length rc,.slice ka KK.length kc] 58 (0,0)) by rw[w6.o];exact kb g3 r0.o)
 have z7:=V (show∀k,SdP r b C G F k→k<w.heap.size from a8.o)
 have d3:=V (Nat.le_trans v2.o g3.size)
 clear g3 o0 o1 o2 o3 o4 o5 o6 r0 HP r3 q4
 simp only[]
 go_upto_region 3 with fail
 rw[←n5]
 obtain⟨ma,mc,f7,u7,_⟩:=j8.o.mod.cells
 have w9:=V j8.o.pair;have A2:=V f7;have x6:=V u7;have p0:=V (show l.Fine from j8.o.mod.fine)
 obtain⟨B1,s7⟩: ∃B1,B1=Zdi l R B:=⟨_,rfl⟩
 have g6:=Zqt (l:=l) (R:=R) p0.o hop.batch.epoch hop.batch.bytes
 have m6:=fun W (hu:U0 w2 W)=>Zms (kd:=kd) (on:=on) (e0:=ev) (ka:=ka) (kn:=KK.length) (kc:=kc) (rc:=rc) (pc:=mc) (R:=R) (l:=l) W (hop.kept (e7.o.trans hu)).batch.sets hop.batch.bytes hop.batch.len (by have:=hop.batch.cap;unfold maxLen;omega) (hop.kept (e7.o.trans hu)).right.boolsR rfl (x6.o.kept0 hu) rfl p0.o
 simp only[←s7] at g6 m6
 have a1:=V g6;have m0:=V m6;have j6:=V (show∀x∈B1.sets,Bytes x.old∧Bytes x.new from fun x hx=>⟨(g6.1.sets x hx).old,(g6.1.sets x hx).new⟩)
 clear f7 u7 s7 g6 m6 n5 hop
 go_cut [5] from 17 to 26 (fun v5 wx=> ∃(t5:Nat) (a2:Option Addr) (c2:Nat) (CB:Nat→Prop),v5=.pointer (some ⟨t5,0,none⟩)∧wx.heap[t5]?=some (.cells #[.int .u64 B1.epoch,.bool B1.large,.slice a2 B1.sets.length c2] 56 (0,0))∧SetRow wx w2.heap.size CB (.slice a2 B1.sets.length c2) B1.sets∧RowC wx CB∧(∀k,CB k→w2.heap.size≤k)∧B1.sets.length≤c2∧U0 w2 wx∧w2.heap.size≤t5)
 case first=>
  have hA:U0 w2 w2.drew:=(Upd.refl _ _).drew
  have HU:=V hA
  refine Zj 10 (fun W=>U0 w2 W) [false,false,false,false,false,false,false,false,false,false,false] rfl (by kernel_rfl) ?_
  generalize w2.drew=wd at hA HU ⊢
  refine tqZ 0 (.agg #[.int .i64 kd,.int .i64 on,.int .u64 B.epoch,.bool B.large,.slice a B.sets.length c,.slice ra R.length rc,.slice ka KK.length kc]) [] hA (fun w5 q1=>?_) ?_
  ·obtain⟨c0,c1,c2,c3,c4,c5,c6⟩:=Y0 (kb q1 u9.o)
   go_simp
  simp only[zz]
  refine tpZ 1 (.pointer (some ⟨pb,0,none⟩)) hA ?_
  simp only[zz]
  refine tpZ 2 (.pointer (some ⟨pb,0,none⟩)) hA ?_
  simp only[zz]
  refine tpZ 3 (.pointer (some ⟨pb,3,none⟩)) hA ?_
  simp only[zz]
  refine tqZ 4 (.pointer (some ⟨m,0,none⟩)) [] hA (fun w5 q1=>?_) ?_
  ·obtain⟨c0,c1,c2,c3⟩:=Zp (kb q1 w9.o)
   go_simp
  simp only[zz]
  refine tpZ 5 (.pointer (some ⟨m,0,none⟩)) hA ?_
  simp only[zz]
  refine tpZ 6 (.pointer (some ⟨m,1,none⟩)) hA ?_
  simp only[zz]
  refine tqZ 7 (.agg #[.int .u64 ev,.slice ma l.length mc]) [] hA (fun w5 q1=>?_) ?_
  ·obtain⟨c0,c1,c2,c3⟩:=Zp (kb q1 A2.o)
   go_simp
  simp only[zz]
  refine Ya (i:=8) (j:=9) rfl rfl (by kernel_rfl) rfl rfl (fun K hK=>?_) (fun K hK=>?_)
  ·have a0:=V hK
   clear hK
   go_step
   refine(m0.o wd hA).mono ?_
   rintro e h6 ⟨a2,c2,rfl,⟨CB,s1,s2,s3⟩,s4,g2⟩
   unfold batchV
   simp only[]
   have c7:=V (SetRow.low s1 hA.size);have b6:=V s2;have b7:=V (show∀k,CB k→w2.heap.size≤k from fun k hk=>Nat.le_trans hA.size (s3 k hk));have k9:=V s4
   have hA:=hA.trans g2
   have HU:=V hA
   clear s1 s2 s3 s4 g2
   refine a0.o _ _ hA ?_
   clear a0
   simp only[zz]
   refine doZ 9 (fun K a0=>?_)
   go_step
   have ua:U0 h6 (h6.alloc (.cells #[.int .u64 0,.bool false,.slice none 0 0] 56)):=(Upd.refl _ _).alloc _
   have d6:=V HU.o.size
   have HX:=V (Zc (w:=h6) (o:=.cells #[.int .u64 0,.bool false,.slice none 0 0] 56) rfl)
   have hA:=hA.trans ua
   have HU:=V (HU.o.trans ua)
   have c7:=V (c7.o.kept ua n3Z n3Z)
   have b6:=V (b6.o.kept ua n3Z)
   clear ua
   refine a0.o _ _ hA ?_
   clear a0
   simp only[zz]
   generalize h6.alloc (.cells #[.int .u64 0,.bool false,.slice none 0 0] 56)=wdNX at HX hA HU c7 b6 ⊢
   generalize h6.heap.size=bo at HX d6 ⊢
   refine tlZ 10 ?_
   simp only[List.drop]
   have f0:wdNX.frozen? ⟨bo,0,none⟩=false:=Zb HX.o
   have f1:wdNX.frozen? ⟨bo,1,none⟩=false:=Zb HX.o
   have f2:wdNX.frozen? ⟨bo,2,none⟩=false:=Zb HX.o
   obtain⟨d0,d1,d2⟩:=Zk HX.o
   go_wp2
   go_meet
   case rel=>
    obtain⟨p1,p2⟩:=put3 (u:=.int .u64 B1.epoch) (v:=.bool B1.large) (z:=.slice a2 B1.sets.length c2) HX.o
    obtain⟨p3,p4⟩:=c7.o.keptT b6.o HX.o (by decide) (by decide) p2
    exact⟨bo,a2,c2,CB,rfl,p1,p3,p4,b7.o,k9.o,hA.step p2 (fun k hk e=>by have:=d6.o;omega),d6.o⟩
  ·have a0:=V hK
   clear hK
   go_step
   have ua:U0 wd (wd.alloc (.cells #[.int .u64 0,.bool false,.slice none 0 0] 56)):=(Upd.refl _ _).alloc _
   have d6:=V HU.o.size
   have HX:=V (Zc (w:=wd) (o:=.cells #[.int .u64 0,.bool false,.slice none 0 0] 56) rfl)
   have hA:=hA.trans ua
   have HU:=V (HU.o.trans ua)
   clear ua
   refine a0.o _ _ hA ?_
   clear a0
   simp only[zz]
   generalize wd.alloc (.cells #[.int .u64 0,.bool false,.slice none 0 0] 56)=wdX at HX hA HU ⊢
   generalize wd.heap.size=bo at HX d6 ⊢
   refine doZ 8 (fun K a0=>?_)
   go_step
   refine(m0.o wdX hA).mono ?_
   rintro e d4 ⟨a2,c2,rfl,⟨CB,s1,s2,s3⟩,s4,g2⟩
   unfold batchV
   simp only[]
   have c7:=V (SetRow.low s1 hA.size);have b6:=V s2;have b7:=V (show∀k,CB k→w2.heap.size≤k from fun k hk=>Nat.le_trans hA.size (s3 k hk));have k9:=V s4
   have hA:=hA.trans g2
   have HU:=V hA
   have HX:=V (kb g2 HX.o)
   clear s1 s2 s3 s4 g2
   refine a0.o _ _ hA ?_
   clear a0
   simp only[zz]
   refine tlZ 10 ?_
   simp only[List.drop]
   have f0:d4.frozen? ⟨bo,0,none⟩=false:=Zb HX.o
   have f1:d4.frozen? ⟨bo,1,none⟩=false:=Zb HX.o
   have f2:d4.frozen? ⟨bo,2,none⟩=false:=Zb HX.o
   obtain⟨d0,d1,d2⟩:=Zk HX.o
   go_wp2
   go_meet
   case rel=>
    obtain⟨p1,p2⟩:=put3 (u:=.int .u64 B1.epoch) (v:=.bool B1.large) (z:=.slice a2 B1.sets.length c2) HX.o
    obtain⟨p3,p4⟩:=c7.o.keptT b6.o HX.o (by decide) (by decide) p2
    exact⟨bo,a2,c2,CB,rfl,p1,p3,p4,b7.o,k9.o,hA.step p2 (fun k hk e=>by have:=d6.o;omega),d6.o⟩
 case rest=>
  obtain⟨t5,a2,c2,CB,rfl,k3,k8,r8,s6,z6,r1,t7⟩:=hcut
  have u2:=V t7;have b7:=V s6;have q8:=V k3;have c7:=V k8;have b6:=V r8;have n8:=V r1
  obtain⟨y0,y1,y2⟩:=Zk k3
  have e5:=Zet (c:=c2) (a:=a2) (B:=B1) wc k8.setsAt.setsIn j6.o (by have:=a1.o.2;omega)
  unfold batchV at e5
  have i4:=V e5
  clear e5 k3 k8 r8 s6 z6 r1 t7 m0 u9
  go_wp2_with (go_at_call 20;fail)
  refine i4.o.mono ?_
  rintro e w4 ⟨a3,c3,rfl,⟨CD,s1,s2,s3⟩,s4,g4⟩
  unfold batchV
  simp only[]
  obtain⟨w5,q9,f5,o7⟩:=nb w4 (.cells #[.int .u64 B1.epoch,.bool B1.large,.slice a3 B1.sets.length c3] 56)
  obtain⟨t6,m7⟩: ∃t6,t6=w4.heap.size:=⟨_,rfl⟩
  rw[←m7] at o7
  have d9:U0 w2 w5:=(n8.o.trans g4).trans f5
  have l9:=n8.o.size;have x7:=g4.size
  have v0:=V (show w2.heap.size≤t6 by omega)
  have p9:=V (kb (g4.trans f5) q8.o);have m5:=V o7
  have g1:=V (SetRow.low (s1.kept f5 n3Z n3Z) l9);have n9:=V (show∀k,CD k→w2.heap.size≤k from fun k hk=>Nat.le_trans l9 (s3 k hk))
  have e8:=V (c7.o.kept (g4.trans f5) n3Z n3Z);have l4:=V (b6.o.kept (g4.trans f5) n3Z);have p7:=V (j8.o.kept0 d9);have j0:=V d9
  have e6:=V (show∀k,(Value.slice a3 B1.sets.length c3).ownBlock=some k→w2.heap.size≤k from fun k hk=>by obtain⟨L,_,h4,_⟩:=g1.o;exact(World.ownsRow.lt h4 k hk).1)
  have g5:=V (show∀k,(Value.slice a2 B1.sets.length c2).ownBlock=some k→w2.heap.size≤k from fun k hk=>by obtain⟨L,_,h4,_⟩:=e8.o;exact(World.ownsRow.lt h4 k hk).1)
  have v7:=V (s2.kept f5 n3Z)
  have r5:=V q9;have w7:=V m7
  clear s1 s2 s3 s4 g4 q9 f5 o7 d9 l9 x7 m7 y0 y1 y2 i4 q8 c7 b6 n8
  go_upto_region 5 with fail
  rw[←r5.o,←w7.o]
  clear r5
  have hA:w5.drew.heap[pb]?=some (.cells #[.pointer (some ⟨d,0,none⟩),.pointer (some ⟨f,0,none⟩),.pointer (some ⟨r,0,none⟩),.pointer (some ⟨m,0,none⟩)] 204 (0,0))∧w5.drew.heap[t5]?=some (.cells #[.int .u64 B1.epoch,.bool B1.large,.slice a2 B1.sets.length c2] 56 (0,0))∧w5.drew.heap[t6]?=some (.cells #[.int .u64 B1.epoch,.bool B1.large,.slice a3 B1.sets.length c3] 56 (0,0)):=⟨p7.o.pair,p9.o,m5.o⟩
  have b8:U0 w5 w5.drew:=(Upd.refl _ w5).drew
  have p8:=V (p7.o.reg.kept0 b8);have h9:=V (p7.o.mod.kept0 b8);have l2:=V (show w.heap.size≤w5.drew.heap.size∧w5.heap.size≤w5.drew.heap.size from⟨Nat.le_trans d3.o (Nat.le_trans j0.o.size b8.size),b8.size⟩)
  have g1:=V (g1.o.kept b8 n3Z n3Z);have e8:=V (e8.o.kept b8 n3Z n3Z);have f6:=V (l4.o.kept b8 n3Z);have i7:=V (j0.o.trans b8)
  have l3:=Zeu (c:=c2) (a:=a2) (B:=B1) w5.drew p8.o HV.o.lg.ok (HV.o.lg.few hN) HV.o.dok (by omega) (by have:=HV.o.n;omega) p0.o HV.o.ev.1 HV.o.area e8.o.setsAt.setsIn (by have:=a1.o.2;omega) a1.o.1 (fun b o e=>(e8.o.addr b o e).2)
  unfold batchV at l3
  have r9:=V l3
  clear b8 l3
  refine Zj 13 (fun W=>W.heap[pb]?=some (.cells #[.pointer (some ⟨d,0,none⟩),.pointer (some ⟨f,0,none⟩),.pointer (some ⟨r,0,none⟩),.pointer (some ⟨m,0,none⟩)] 204 (0,0))∧W.heap[t5]?=some (.cells #[.int .u64 B1.epoch,.bool B1.large,.slice a2 B1.sets.length c2] 56 (0,0))∧W.heap[t6]?=some (.cells #[.int .u64 B1.epoch,.bool B1.large,.slice a3 B1.sets.length c3] 56 (0,0))) [false,false,false,false,false,false,false,false,false,false,false,false,false,false,false] rfl (by kernel_rfl) ?_
  generalize w5.drew=wd at hA r9 g1 p8 h9 e8 l2 f6 i7 ⊢
  refine tpZ 0 (.pointer (some ⟨pb,0,none⟩)) hA ?_
  simp only[zz]
  refine tpZ 1 (.pointer (some ⟨pb,0,none⟩)) hA ?_
  simp only[zz]
  refine tpZ 2 (.pointer (some ⟨pb,2,none⟩)) hA ?_
  simp only[zz]
  refine tqZ 3 (.pointer (some ⟨r,0,none⟩)) [] hA (fun w5 q1=>?_) ?_
  ·obtain⟨c0,c1,c2,c3⟩:=Zp q1.1
   go_simp
  simp only[zz]
  refine tqZ 4 (.agg #[.int .u64 B1.epoch,.bool B1.large,.slice a2 B1.sets.length c2]) [] hA (fun w5 q1=>?_) ?_
  ·obtain⟨c0,c1,c2⟩:=Zk q1.2.1
   go_simp
  simp only[zz]
  refine tpZ 6 (.pointer (some ⟨pb,0,none⟩)) hA ?_
  simp only[zz]
  refine tpZ 7 (.pointer (some ⟨pb,0,none⟩)) hA ?_
  simp only[zz]
  refine tpZ 8 (.pointer (some ⟨pb,3,none⟩)) hA ?_
  simp only[zz]
  refine tqZ 9 (.pointer (some ⟨m,0,none⟩)) [12] hA (fun w5 q1=>?_) ?_
  ·obtain⟨c0,c1,c2,c3⟩:=Zp q1.1
   go_simp
  simp only[zz]
  refine tqZ 10 (.agg #[.int .u64 B1.epoch,.bool B1.large,.slice a3 B1.sets.length c3]) [12,11] hA (fun w5 q1=>?_) ?_
  ·obtain⟨c0,c1,c2⟩:=Zk q1.2.2
   go_simp
  simp only[zz]
  refine diZ 5 (fun K a0=>?_)
  go_step
  refine(r9.o).mono ?_
  rintro e v3 m4
  obtain⟨E1,rfl,g0⟩:=Zom m4
  have e9: ∀k,(G k∨F k∨k=r)→SdP r b C G F k:=fun k e=>by
   rcases e with e | e | e
   ·exact .inl e
   ·exact .inr (.inl e)
   ·exact .inr (.inr (.inl e))
  have h5:=(⟨(g0.block _ (Za hA.1) (fun e=>(H3.o pb (e9 _ e)).2.1 rfl)).trans hA.1,(g0.block _ (Za hA.2.1) (fun e=>by have:=a8.o _ (e9 _ e);have:=u2.o;have:=d3.o;omega)).trans hA.2.1,(g0.block _ (Za hA.2.2) (fun e=>by have:=a8.o _ (e9 _ e);have:=v0.o;have:=d3.o;omega)).trans hA.2.2⟩:_∧_∧_)
  have z5:=V m4;have e3:=V g0;have d5:=V e9
  have n4:=V ((g1.o.kept g0 (fun k hk e=>by have:=a8.o _ (e9 _ e);have:=(e6.o k hk);have:=d3.o;omega) (fun k hk e=>by have:=a8.o _ (e9 _ e);have:=n9.o k hk;have:=d3.o;omega)).setsAt.setsIn)
  have e5:=Zet (c:=c3) (a:=a3) (B:=B1) v3 n4.o j6.o (by have:=a1.o.2;omega)
  unfold batchV at e5
  have u1:=V e5
  clear m4 g0 e5 e9
  simp only[]
  refine a0.o _ _ h5 ?_
  clear a0
  simp only[zz]
  refine diZ 11 (fun K a0=>?_)
  go_step
  refine(u1.o).mono ?_
  rintro e r6 ⟨a4,c4,rfl,⟨CE,s1,s2,s3⟩,s4,g9⟩
  unfold batchV
  have c9:=(⟨kb g9 h5.1,kb g9 h5.2.1,kb g9 h5.2.2⟩:_∧_∧_)
  have b0:=(h9.o.keptZ e3.o (fun k hk e=>(H3.o k (d5.o k e)).1 hk)).kept0 g9
  have f7:=Zmg (sc:=c4) r6 b0 HV.o.lg.ok (HV.o.lg.few hN) HV.o.dok (by omega) HV.o.area (s1.setsAt.toR (R':=fun k=>k<r6.heap.size) (fun b o e=>(s1.addr b o e).2)) (fun k hk=>hk) s2 (by have:=a1.o.2;omega) s4 a1.o.1 (fun k hk=>by
   have h1:=s3 k hk
   have h2:=e3.o.size
   have h3:=l2.o
   have hx: ∀j,SdM m T G' F' j→j<k:=fun j hj=>by have:=b5.o j hj;omega
   exact⟨fun e=>by have:=hx k (.inl e);omega,fun e=>by have:=hx k (.inr (.inl e));omega,fun e=>by have:=hx k (.inr (.inr (.inl e)));omega⟩)
  unfold batchV at f7
  have j4:=V f7;have g7:=V b0;have f8:=V g9;have j1:=V s3
  clear f7 b0 s1 s2 s3 s4 g9
  simp only[]
  refine a0.o _ _ c9 ?_
  clear a0
  simp only[zz]
  refine diZ 12 (fun K a0=>?_)
  go_step
  refine(j4.o).mono ?_
  rintro e f9 m2
  obtain⟨E2,rfl,b3⟩:=Zmh m2
  have a9: ∀k,(G' k∨F' k∨k=m)→SdM m T G' F' k:=fun k e=>by
   rcases e with e | e | e
   ·exact .inl e
   ·exact .inr (.inl e)
   ·exact .inr (.inr (.inl e))
  have d8:=(⟨(b3.block _ (Za c9.1) (fun e=>(H4.o pb (a9 _ e)).1 rfl)).trans c9.1,(b3.block _ (Za c9.2.1) (fun e=>by have:=b5.o _ (a9 _ e);have:=u2.o;have:=d3.o;omega)).trans c9.2.1,(b3.block _ (Za c9.2.2) (fun e=>by have:=b5.o _ (a9 _ e);have:=v0.o;have:=d3.o;omega)).trans c9.2.2⟩:_∧_∧_)
  have v4:=V m2;have a7:=V b3;have a5:=V a9
  clear m2 b3 a9
  simp only[]
  refine a0.o _ _ d8 ?_
  clear a0
  simp only[zz]
  refine tlZ 13 ?_
  simp only[List.drop]
  obtain⟨rfl,⟨A0,l1,X1,D1,b1,n1,C1,G1,F1,z4,T1,u0,r7,t1,t2,t3,t4,i6⟩⟩:=Zol p8.o g7.o HV.o hN a1.o.1 z5.o v4.o
  have k2:=e3.o.size;have l7:=f8.o.size;have l6:=a7.o.size;have z8:=l2.o;have y7:=d3.o
  have j3:U0 w0 f9:=(((e7.o.trans i7.o).step e3.o (fun k hk e=>by have:=(H3.o k (d5.o k e)).2.2;omega)).trans f8.o).step a7.o (fun k hk e=>by have:=(H4.o k (a5.o k e)).2;omega)
  have q6:=t1.sdlt
  have q7:=(t1.kept0 f8.o).keptZ a7.o (fun k hk e=>by
   rcases t4 k hk with h | h
   ·exact(H3.o k h).1 (a5.o k e)
   ·have:=b5.o k (a5.o k e);omega)
  have f4: ∀k,CB k→w2.heap.size≤k∧k<wd.heap.size:=fun k hk=>⟨b7.o k hk,f6.o.lt k hk⟩
  have t8: ∀k,SdP r b1 C1 G1 F1 k→ ¬CB k:=fun k hk e=>by
   have:=f4 k e
   rcases t4 k hk with h | h
   ·have:=a8.o k h;omega
   ·omega
  have s0: ∀k,SdM m T1 u0 r7 k→ ¬CB k:=fun k hk e=>by
   have:=f4 k e
   rcases i6 k hk with h | h | h
   ·have:=b5.o k h;omega
   ·have:=j1.o k h;omega
   ·omega
  have i0: ∀W,Upd CB f9 W→RdAt N w0 W pb d f (t+1):=fun W hu=>by
   refine⟨⟨r,q,m,u,A0,f3,l1,X1,D1,b1,n1,C1,G1,F1,z4,T1,u0,r7,⟨(hu.block _ (Za d8.1) (fun e=>by have:=f4 pb e;have:=k1.o;omega)).trans d8.1,q7.keptZ hu t8,t2.keptZ hu s0⟩,t3,fun k hk=>⟨fun e=>?_,fun e=>?_,?_⟩,fun k hk=>⟨fun e=>?_,?_⟩⟩,g8,j3.step hu (fun k hk e=>by have:=f4 k e;have:=e7.o.size;omega)⟩
   ·have:=q6 k hk
    rcases t4 k hk with h | h<;> rcases i6 k e with h2 | h2 | h2
    ·exact(H3.o k h).1 h2
    ·have:=j1.o k h2;have:=a8.o k h;omega
    ·have:=a8.o k h;omega
    ·have:=b5.o k h2;omega
    ·have:=j1.o k h2;omega
    ·omega
   ·rcases t4 k hk with h | h
    ·exact(H3.o k h).2.1 e
    ·have:=k1.o;omega
   ·rcases t4 k hk with h | h
    ·exact(H3.o k h).2.2
    ·have:=(e7.o.trans i7.o).size;omega
   ·rcases i6 k hk with h | h | h
    ·exact(H4.o k h).1 e
    ·have:=j1.o k h;have:=k1.o;omega
    ·have:=k1.o;omega
   ·rcases i6 k hk with h | h | h
    ·exact(H4.o k h).2
    ·have:=j1.o k h;have:=(e7.o.trans i7.o).size;omega
    ·have:=(e7.o.trans i7.o).size;omega
  have d7:SetRow f9 w2.heap.size CB (.slice a2 B1.sets.length c2) B1.sets:=((e8.o.kept e3.o (fun k hk e=>by have:=a8.o _ (d5.o _ e);have:=g5.o k hk;omega) (fun k hk e=>by have:=a8.o _ (d5.o _ e);have:=b7.o k hk;omega)).kept f8.o n3Z n3Z).kept a7.o (fun k hk e=>by have:=b5.o _ (a5.o _ e);have:=g5.o k hk;omega) (fun k hk e=>by have:=b5.o _ (a5.o _ e);have:=b7.o k hk;omega)
  have i9:SetsIn f9 a3 B1.sets:=(((g1.o.kept e3.o (fun k hk e=>by have:=a8.o _ (d5.o _ e);have:=e6.o k hk;omega) (fun k hk e=>by have:=a8.o _ (d5.o _ e);have:=n9.o k hk;omega)).kept f8.o n3Z n3Z).kept a7.o (fun k hk e=>by have:=b5.o _ (a5.o _ e);have:=e6.o k hk;omega) (fun k hk e=>by have:=b5.o _ (a5.o _ e);have:=n9.o k hk;omega)).setsAt.setsIn
  have i8:RowC f9 CB:=((f6.o.kept e3.o (fun k hk e=>by have:=a8.o _ (d5.o _ e);have:=b7.o k hk;omega)).kept f8.o n3Z).kept a7.o (fun k hk e=>by have:=b5.o _ (a5.o _ e);have:=b7.o k hk;omega)
  have k5:=Zrf (c:=c2) (d:=c3) (a:=a2) (b:=a3) (A:=B1) (B:=B1) f9 d7.setsAt.setsIn i9 j6.o j6.o (by have:=a1.o.2;omega)
  unfold batchV at k5
  have s8:=V k5;have o9:=V i0;have k7:=V d7;have l8:=V i8;have k6:=V d8.2.1
  obtain⟨y0,y1,y2⟩:=Zk d8.2.1
  obtain⟨z0,z1,z2⟩:=Zk d8.2.2
  clear hA h5 c9 d8 t1 t2 t3 t4 i6 k2 l7 l6 z8 y7 j3 q6 q7 f4 t8 s0 i0 d7 i9 i8 k5 u1 j4
  go_wp2_with (go_at_call 23;fail)
  refine s8.o.mono ?_
  rintro e w8 ⟨rr,rfl,h0,hu⟩
  obtain rfl:rr=true:=h0.2 rfl
  have l0:=V (kb hu k6.o);have n6:=V hu
  have b9:=k7.o.kept hu n3Z n3Z
  have c8:=l8.o.kept hu n3Z
  have x9:=V b9.fines
  have w3:=V (NewOk.of b9.setsAt (fun b o e e2=>by
   obtain⟨ds,q1⟩:=SetRow.block73 b9 (show(Value.slice a2 B1.sets.length c2).ownBlock=some b by rw[e];rfl)
   obtain⟨A8,q2⟩:=c8 b e2
   rw[q1] at q2
   injection q2 with q2
   injection q2 with _ q2
   exact absurd q2 (by decide)))
  have o8:=V c8
  obtain⟨x0,x1,x2⟩:=Zk l0.o
  have n2:=V c8.lt
  clear h0 hu b9 c8 y0 y1 y2 z0 z1 z2 s8
  simp only[]
  go_upto_block 1 with fail
  clear x0 x1 x2
  go_upto_region 8 with fail
  obtain⟨nz,k0⟩: ∃nz,nz=B1.sets.length:=⟨_,rfl⟩
  rw[←k0]
  have z9:=V k0
  have p5:=V (show nz≤49 by rw[k0];exact a1.o.2)
  clear k0
  go_loopg [47] nz (fun gk i wr=> ∃k:Nat,k≤nz∧gk=nz - k∧i=.int .i64 k∧NewOk CB a2 B1.sets wr∧RowC wr CB∧Upd CB w8 wr)
  case atStart=>exact⟨0,Nat.zero_le _,rfl,rfl,w3.o,o8.o,Upd.refl _ _⟩
  case round=>
   obtain⟨k4,A7,rfl,rfl,u5,r4,r2⟩:=hrel
   have t9:=V u5;have v6:=V r4;have n3:=V r2
   clear u5 r4 r2
   by_cases A6:k4<nz
   ·have x8:(k4:Int)<nz:=by omega
    obtain⟨x,hx⟩: ∃x,B1.sets[k4]?=some x:=⟨_,List.getElem?_eq_getElem (by have:=z9.o;omega)⟩
    obtain⟨b4,o4,v1,z3,na,nc,rfl,f4,c0,c1,v9,y4,v8,e4,j5⟩:=t9.o k4 x hx
    have h7:=V j5;have HX:=V hx;have A5:=V e4
    have h8:=V (show x.new.length≤140737488351232 from(x9.o x (List.mem_of_getElem? hx)).2.2.1)
    clear f4 j5 hx e4
    go_upto_region 10 with fail
    obtain⟨A4,i5,b2,a6⟩:=nb wr (.cells #[.string x.name,.bool x.was,.bool x.is,.slice v1 x.old.length z3,.slice na x.new.length nc] 73)
    rw[←i5]
    have q0: ∀k,CB k→k≠wr.heap.size:=fun k hk e=>by have:=n2.o k hk;have:=n3.o.size;omega
    obtain⟨nl,e4⟩: ∃nl,nl=x.new.length:=⟨_,rfl⟩
    rw[←e4] at a6
    have i3:CurOk CB na nl wr:=by
     rcases h7.o with e | ⟨g,p,e1,hg,hc⟩
     ·exact .inl (by rw[e4,e];rfl)
     ·exact .inr ⟨g,p,e1,hg,fun j hj=>hc j (by omega)⟩
    have i2:nl≤140737488351232:=by rw[e4];exact h8.o
    generalize wr.heap.size=t20 at a6 q0 ⊢
    have j2:=V a6;have y3:=V q0;have n0:=V (i3.kept0 b2);have p6:=V (t9.o.kept0 b2);have n7:=V (v6.o.kept b2 n3Z);have m8:=V (n3.o.trans (b2.mono (F:=fun _=>False) (fun _ _ e=>e.elim)))
    obtain⟨x0,x1,x2,x3,x4⟩:=Zu a6
    have m1:=V i2
    clear i5 b2 a6 q0 i3 i2 c0 c1 v9 y4 v8 h7 h8 e4
    go_upto_block 3 with fail
    clear x0 x1 x2 x3 x4
    go_upto_region 11 with fail
    go_loopg [54] nl (fun gk i wr=> ∃j:Nat,j≤nl∧gk=nl - j∧i=.int .i64 j∧NewOk CB (some ⟨b4,o4,none⟩) B1.sets wr∧RowC wr CB∧CurOk CB na nl wr∧Upd CB A4 wr)
    case atStart=>exact⟨0,Nat.zero_le _,rfl,rfl,p6.o,n7.o,n0.o,Upd.refl _ _⟩
    case round=>
     obtain⟨j,hj,rfl,rfl,s5,u6,j7,t0⟩:=hrel
     have s9:=V s5;have l5:=V u6;have y5:=V j7;have m9:=V t0
     clear s5 u6 t0
     by_cases y6:j<nl
     ·have y8:(j:Int)<nl:=by omega
      obtain⟨g,p,rfl,hg,hc⟩: ∃g p,na=some ⟨g,p,none⟩∧CB g∧ ∀j,j<nl→ ∃v,wr.cell? ⟨g,p+j,none⟩=some (.int .u8 v):=by
       rcases j7 with e | h
       ·omega
       ·exact h
      obtain⟨v,hv⟩:=hc j y6
      obtain⟨gs,u3⟩:=l5.o g hg
      have hf:wr.frozen? ⟨g,p+j,none⟩=false:=Zb u3
      have a6:=(m9.o.block _ (Za j2.o) (fun e=>y3.o _ e rfl)).trans j2.o
      obtain⟨x0,x1,x2,x3,x4⟩:=Zu a6
      have x5:IntKind.i64.wrap ((j:Int)+1)=(j:Int)+1:=by rw[IntKind.wrap_i64];have:=m1.o;omega
      have HG:=V hg;have q5:=V hv
      clear hc u3 a6 hg j7
      go_wp2
      go_roundg (nl - (j+1))
      case measure=>omega
      case rel=>exact⟨j+1,by omega,rfl,congrArg _ (by omega),s9.o.put HG.o q5.o,l5.o.put,y5.o.put q5.o,m9.o.trans ((Zd wr g (p+j) _).mono (F:=fun k=>k=g) (fun _ _ e=>e ▸ HG.o))⟩
     ·obtain rfl:j=nl:=by omega
      have A3:IntKind.i64.wrap ((k4:Int)+1)=(k4:Int)+1:=by rw[IntKind.wrap_i64];have:=p5.o;omega
      clear j7
      go_wp2
      go_roundg (nz - (k4+1))
      case measure=>omega
      case rel=>exact⟨k4+1,by omega,rfl,congrArg _ (by omega),s9.o,l5.o,m8.o.trans m9.o⟩
   ·obtain rfl:k4=nz:=by omega
    have u4:=(o9.o wr ((n6.o.mono (F:=fun _=>False) (fun _ _ e=>e.elim)).trans n3.o)).more
    have y9:=V u4
    clear u4
    go_wp2
    go_ret
    exact⟨by simp,y9.o⟩
theorem Zqx (w:World)(h:RdAt N w0 w pb d f t)(ht:t≤400):
  Calls Tryz.prog 52 #[.pointer (some ⟨pb,0,none⟩)] w fun e w'=>e=.returned (.bool true)∧RdAt N w0 w' pb d f t:=by
 have h0:=h
 obtain⟨⟨r,q,m,u,ev,a0,l,X,D,b,n,C,G,F,C',T,G',F',hp,hv,h3,h4⟩,h5,h6⟩:=h
 refine(Zey w hp (hv.dok.mono (K':=900000000) (by omega)) (by omega) (by have:=hv.lg.ok.turn;omega)).mono ?_
 rintro e w' ⟨rfl,hu⟩
 exact⟨rfl,h0.kept0 hu⟩
theorem Zr6 {R:List Bool}(w:World)(h:RdAt N w0 w pb d f t)(hN:N≤1000)(ht:t≤300)(hop:OpIn w0 B a c ra R rc ka KK kc):
  Calls Tryz.prog 51 #[.pointer (some ⟨pb,0,none⟩),Zcn kd on B a c ra R.length rc ka KK.length kc] w fun e w'=>e=.returned (.bool true)∧RdAt N w0 w' pb d f (t+2):=by
 by_cases h5:(IntKind.u64.wrap kd).tmod 8=5
 ·exact Zqd w h hN (by omega) (by unfold Zb8;rw[if_pos h5])
 by_cases h6:(IntKind.u64.wrap kd).tmod 8=6
 ·exact Zr5 w h hN (by omega) (by unfold Zb8;rw[if_neg h5,if_pos h6])
 by_cases h7:(IntKind.u64.wrap kd).tmod 8=7
 ·exact Zoe w h hN (by omega) (by unfold Zb8;rw[if_neg h5,if_neg h6,if_pos h7]) hop.keep hop.klen'
 ·exact Zmo w h hN ht (by unfold Zb8;rw[if_neg h5,if_neg h6,if_neg h7]) hop
theorem Zma {la:Option Addr}{ln lc:Nat}(w:World)(hops:OpsIn w la ln)(hl:ln≤lc)(hc:lc≤maxLen):
  Calls Tryz.prog 11 #[.int .i64 area,.slice la ln lc] w fun e w'=>e=.returned (.bool true)∧U0 w w':=by
 obtain⟨n1,b1,d3,d1⟩:=Znw area
 have c8:n1<40:=by
  have h0:0≤IntKind.u64.wrap area:=by rw[IntKind.wrap_u64];omega
  rw[Int.tmod_eq_emod_of_nonneg h0,IntKind.wrap_i64] at b1
  omega
 obtain⟨k0,d0⟩: ∃k:Nat,4+n1=(k:Int):=⟨(4+n1).toNat,by omega⟩
 have c3:IntKind.i64.wrap (4+n1)=(k0:Int):=by rw[IntKind.wrap_i64];omega
 have HO:=V hops;have HL:=V hl;have HC:=V hc;have b6:=V (show 4≤k0∧k0≤43 by omega)
 clear hops hl hc d3 d1 c8 d0
 go_enter Tryz.func11,Tryz.ntmps11
 go_wp2_with (go_at_call 18;fail)
 refine(Zo3 w).mono ?_
 rintro e w1 ⟨rfl,a7⟩
 have c5:=V a7;have c4:=V (HO.o.kept a7)
 clear a7 HO
 simp only[]
 go_wp2_with (go_at_call 50;fail)
 refine(Zqr (area:=k0) (N:=2+2 * k0) w1 (by have:=b6.o;omega) rfl).mono ?_
 rintro e w2 ⟨pb,d,f,rfl,b7⟩
 have b8:=V b7
 obtain⟨N,hN⟩: ∃N,N=2+2 * k0:=⟨_,rfl⟩
 rw[←hN] at b8
 have HN:=V (show N≤1000 by have:=b6.o;omega)
 clear b7 hN b1 c3
 simp only[]
 go_wp2_with (go_at_call 29;fail)
 refine(Ztm w2 c4.o HL.o HC.o).mono ?_
 rintro e w4 ⟨d5,kn,rfl,hops,a1,rfl⟩
 have c6:=V hops;have a3:=V a1
 clear hops a1
 simp only[]
 go_upto_block 0 with fail
 go_upto_region 7 with fail
 go_loopg [25] kn (fun gk i wr=> ∃k:Nat,k≤kn∧gk=kn - k∧i=.int .i64 k∧RdAt N w1 wr pb d f (2 * k))
 case atStart=>exact⟨0,Nat.zero_le _,rfl,rfl,b8.o⟩
 case round=>
  obtain⟨k,hk,rfl,rfl,b2⟩:=hrel
  have a8:=V b2
  clear b2
  by_cases c1:k<kn
  ·have c7:(k:Int)<kn:=by omega
   have a1:k<20:=by have:=a3.o;omega
   have b4:=a8.o.upd
   obtain⟨b,o,kd,on,B,a,c,ra,R,rc,ka,KK,kc,rfl,b9,a0⟩:=c6.o k c1
   have a2: ∀{ad:Addr} {v:Value},w1.cell? ad=some v→wr.cell? ad=some v:=fun h=>Zo b4 id h
   have q0:=a0 0 (by omega);have q1:=a0 1 (by omega);have q2:=a0 2 (by omega);have q3:=a0 3 (by omega);have q4:=a0 4 (by omega);have q5:=a0 5 (by omega);have q6:=a0 6 (by omega)
   simp only[opC,←Nat.add_assoc,Nat.add_zero] at q0 q1 q2 q3 q4 q5 q6
   simp at q0 q1 q2 q3 q4 q5 q6
   replace q0:=a2 q0;replace q1:=a2 q1;replace q2:=a2 q2;replace q3:=a2 q3;replace q4:=a2 q4;replace q5:=a2 q5;replace q6:=a2 q6
   have c2:=V b9
   clear b9 a0 a2 b4
   go_upto_region 9 with fail
   obtain⟨wa,c0,b3,a9⟩:=nb wr (.cells #[.int .i64 kd,.int .i64 on,.int .u64 B.epoch,.bool B.large,.slice a B.sets.length c,.slice ra R.length rc,.slice ka KK.length kc] 58)
   rw[←c0]
   obtain⟨xb,b5⟩: ∃b,b=wr.heap.size:=⟨_,rfl⟩
   rw[←b5] at a9 ⊢
   have a5:=Zr6 (kd:=kd) (on:=on) wa (a8.o.kept0 b3) HN.o (by omega) c2.o
   unfold Zcn at a5
   have d4:=V a5
   obtain⟨o0,o1,o2,o3,o4,o5,o6⟩:=Y0 a9
   clear c0 b3 a9 b5 a5 q0 q1 q2 q3 q4 q5 q6
   have c9:IntKind.i64.wrap ((k:Int)+1)=(k:Int)+1:=by rw[IntKind.wrap_i64];omega
   go_wp2_with (go_at_call 51;fail)
   refine d4.o.mono ?_
   rintro e wb ⟨rfl,a4⟩
   have a6:=V a4
   clear a4 o0 o1 o2 o3 o4 o5 o6
   simp only[]
   go_wp2_with (go_at_call 52;fail)
   refine(Zqx wb a6.o (by omega)).mono ?_
   rintro e wc ⟨rfl,b0⟩
   have d2:=V b0
   clear b0
   simp only[]
   go_wp2
   go_roundg (kn - (k+1))
   case measure=>omega
   case rel=>exact⟨k+1,by omega,rfl,congrArg _ (by omega),d2.o⟩
  ·obtain rfl:k=kn:=by omega
   have a1:k≤20:=a3.o
   go_wp2_with (go_at_call 53;fail)
   refine(Zjx wr a8.o HN.o (by omega)).mono ?_
   rintro e wb ⟨rfl,a4⟩
   have a6:=V a4
   clear a4
   simp only[]
   go_wp2
   go_ret
   exact⟨rfl,c5.o.trans a6.o.upd⟩
end
end Go.Proofs.YtbimkhdiplnbfaaGreat
