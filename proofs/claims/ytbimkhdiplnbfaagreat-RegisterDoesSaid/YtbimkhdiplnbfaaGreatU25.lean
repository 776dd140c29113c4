/- Walks. -/
import Derived.Test.YtbimkhdiplnbfaaGreatU22
import Derived.Test.YtbimkhdiplnbfaaGreatU27
set_option linter.unusedVariables false
set_option linter.unusedSimpArgs false
namespace Go.Proofs.YtbimkhdiplnbfaaGreat
set_option maxRecDepth 1000000
set_option maxHeartbeats 16000000
variable {cs:Array Value} {ok:Bool} {s:ByteArray} {D:Dk} {area ev:Int} {l:KV} {X:Lg} {B ab b c i k kb n p q r sb:Nat} {C F G:Nat→Prop} {a:Option Addr} {t:TypeId} {sv:Value} {w w':World}
section
open Go.RowKit Go.Shelf
def playS (s:Int×KV)(x:List Int):Int×KV:=if(decF x).2=0∧doE s.1 s.2 (decF x).1=0 then((decF x).1.epoch,s.2.withs (decF x).1.sets) else s
def playK (s:Int×KV)(x:List Int):Bool:=decide ((decF x).2=0∧doE s.1 s.2 (decF x).1=0)
structure PlayAt (w:World) (ab sb kb:Nat) (area ev:Int) (b n:Nat) (C:Nat→Prop) (l:KV) (ok:Bool):Prop where
 a:w.heap[ab]?=some (.cells #[.int .i64 area] 3 (0,0))
 s:w.heap[sb]?=some (.cells #[.int .u64 ev,.map (some b)] 167 (0,0))
 k:w.heap[kb]?=some (.cells #[.bool ok] 4 (0,0))
 m:MapKV w b n C l
 fine:l.Fine
 ev:0≤ev∧ev≤4611686018427387904
theorem PlayAt.kept0 (h:PlayAt w ab sb kb area ev b n C l ok)(hu:U0 w w'):PlayAt w' ab sb kb area ev b n C l ok:=
 ⟨_root_.Go.Proofs.YtbimkhdiplnbfaaGreat.kb hu h.a,_root_.Go.Proofs.YtbimkhdiplnbfaaGreat.kb hu h.s,_root_.Go.Proofs.YtbimkhdiplnbfaaGreat.kb hu h.k,h.m.kept0 hu,h.fine,h.ev⟩
theorem Zs {j:Nat}{ds:Array Value}{u:TypeId}(h1:w.heap[i]?=some (.cells cs t (0,0)))(h2:w.heap[j]?=some (.cells ds u (0,0)))(h:t≠u):i≠j:=by
 rintro rfl
 rw[h1] at h2
 injection h2 with h2
 injection h2 with _ h2
 exact h h2
theorem Zht (hm:MapKV w b n C l)(h:w.heap[i]?=some (.cells cs t (0,0))):b≠i:=by
 rintro rfl
 obtain⟨es,c,q⟩:=hm.1.isMapBlock
 rw[h] at q
 cases q
theorem C_ne (hm:MapKV w b n C l)(h:w.heap[i]?=some (.cells cs t (0,0)))(ht:t≠5): ∀k,C k→k≠i:=by
 rintro k hk rfl
 obtain⟨ds,q⟩:=hm.1.rowC k hk
 rw[h] at q
 injection q with q
 injection q with _ q
 exact ht q
theorem PlayAt.setA (h:PlayAt w ab sb kb area ev b n C l ok)(x:Int):PlayAt (w.setCell ⟨ab,0,none⟩ (.int .i64 x)) ab sb kb x ev b n C l ok:=by
 have hu:=Zd w ab 0 (.int .i64 x)
 refine⟨?_,(hu.block _ (Za h.s) (Zs h.s h.a (by decide))).trans h.s,(hu.block _ (Za h.k) (Zs h.k h.a (by decide))).trans h.k,h.m.kept hu (Zht h.m h.a) (C_ne h.m h.a (by decide)),h.fine,h.ev⟩
 have:=Ze (i:=0) (v:=.int .i64 x) h.a
 simpa using this
theorem PlayAt.setK (h:PlayAt w ab sb kb area ev b n C l ok)(x:Bool):PlayAt (w.setCell ⟨kb,0,none⟩ (.bool x)) ab sb kb area ev b n C l x:=by
 have hu:=Zd w kb 0 (.bool x)
 refine⟨(hu.block _ (Za h.a) (Zs h.a h.k (by decide))).trans h.a,(hu.block _ (Za h.s) (Zs h.s h.k (by decide))).trans h.s,?_,h.m.kept hu (Zht h.m h.k) (C_ne h.m h.k (by decide)),h.fine,h.ev⟩
 have:=Ze (i:=0) (v:=.bool x) h.k
 simpa using this
theorem PlayAt.setS {ev':Int}{b' n':Nat}{C':Nat→Prop}{l':KV}(h:PlayAt w ab sb kb area ev b n C l ok)(hm:MapKV w b' n' C' l')(hf:l'.Fine)(he:0≤ev'∧ev'≤4611686018427387904):
  PlayAt ((w.setCell ⟨sb,0,none⟩ (.int .u64 ev')).setCell ⟨sb,1,none⟩ (.map (some b'))) ab sb kb area ev' b' n' C' l' ok∧Upd (fun k=>k=sb) w ((w.setCell ⟨sb,0,none⟩ (.int .u64 ev')).setCell ⟨sb,1,none⟩ (.map (some b'))):=by
 obtain⟨p1,p2⟩:=put2 (u:=.int .u64 ev') (v:=.map (some b')) h.s
 exact⟨⟨(p2.block _ (Za h.a) (Zs h.a h.s (by decide))).trans h.a,p1,(p2.block _ (Za h.k) (Zs h.k h.s (by decide))).trans h.k,hm.kept p2 (Zht hm h.s) (C_ne hm h.s (by decide)),hf,he⟩,p2⟩
theorem Ztn {B:BatchV}(w0 w:World)(h0:w0.heap.size≤w.heap.size)(hm:MapKV w b n C l)(hn:n≤1000000)(hl:l.Fine)(hs:SetsIn w a B.sets)(hr:B.right=true):
  Calls Tryz.prog 96 #[.agg #[.int .u64 ev,.map (some b)],.agg #[.int .u64 B.epoch,.bool B.large,.slice a B.sets.length c]] w fun e w'=> ∃ev' b',e=.returned (.tuple #[.agg #[.int .u64 ev',.map (some b')],.int .i64 (doE ev l B)])∧DidIn w0 n C ev l B ev' b' w'∧(doE ev l B≠0→ev'=ev∧b'=b)∧U0 w w':=by
 refine(Zqe (c:=c) w hm hn hl hs hr).mono ?_
 rintro e w' ⟨hu,⟨hE,rfl⟩ | ⟨hE,b',n',C',rfl,h1,h2,h3,h4⟩⟩
 ·exact⟨ev,b,rfl,fun e=>absurd e hE,fun _=>⟨rfl,rfl⟩,hu⟩
 ·refine⟨B.epoch,b',by rw[hE];rfl,fun _=>⟨rfl,by omega,n',C',h1,?_,fun k hk=>(h4 k hk).imp_right (by omega)⟩,fun e=>absurd hE e,hu⟩
  have:=(BatchV.right_sets hr).2.1
  omega
def PlayAns (w:World)(ab sb kb:Nat)(area ev:Int)(b n:Nat)(C:Nat→Prop)(l:KV)(ok:Bool)(xs:List Int)(w':World):Prop:=
 ∃b' n' C',PlayAt w' ab sb kb (area+secsI xs.length) (playS (ev,l) xs).1 b' n' C' (playS (ev,l) xs).2 (ok && playK (ev,l) xs)∧n'≤n+48∧(b'=b∨w.heap.size≤b')∧(∀k,C' k→C k∨w.heap.size≤k)∧Upd (fun k=>k=ab∨k=sb∨k=kb) w w'
theorem Zk2 {xc:Nat}{xa:Option Addr}{xs:List Int}(w:World)(h:PlayAt w ab sb kb area ev b n C l ok)(hx:BytesIn w (.slice xa xs.length xc) xs)(hB:Bytes xs)(hl:xs.length≤1099511627776)(hab: ∀a,xa=some a→xs≠[]→a.block≠ab)(har: -1000000000≤area∧area≤1000000000)(hn:n≤900000):
  Calls Tryz.prog 154 #[.slice xa xs.length xc,.pointer (some ⟨ab,0,none⟩),.pointer (some ⟨sb,0,none⟩),.pointer (some ⟨kb,0,none⟩)] w fun e w'=>(∃v,e=.returned v)∧PlayAns w ab sb kb area ev b n C l ok xs w':=by
 have f9:0≤secsI xs.length∧secsI xs.length≤1000:=by unfold secsI;split<;> omega
 have e3:IntKind.i64.wrap (area+secsI xs.length)=area+secsI xs.length:=by rw[IntKind.wrap_i64];omega
 have e1:=V h;have HX:=V hx;have HB:=V hB;have e5:=V hab
 clear h hx hB hab
 go_enter Tryz.func154,Tryz.ntmps154
 go_upto_region 0 with fail
 have hA:w.drew.cell? ⟨ab,0,none⟩=some (.int .i64 area):=Zf e1.o.a
 have a2:=V (e1.o.kept0 ((Upd.refl (fun _=>False) w).drew))
 have c5:=V (HX.o.kept ((Upd.refl (fun _=>False) w).drew))
 have c2:=V ((Upd.refl (fun _=>False) w).drew)
 refine Zj 5 (fun W=>W.cell? ⟨ab,0,none⟩=some (.int .i64 area)) [false,false,false,false,false,false] rfl (by kernel_rfl) ?_
 generalize w.drew=wd at hA a2 c5 c2 ⊢
 refine tqY 0 (.int .i64 area) [] hA ?_
 simp only[zz]
 refine tpZ 1 (.slice xa xs.length xc) hA ?_
 simp only[zz]
 refine tpZ 2 (.int .i64 xs.length) hA ?_
 simp only[zz]
 refine doZ 3 (fun K HKK=>?_)
 go_step
 refine(Yf xs.length wd).mono ?_
 rintro e g0 ⟨rfl,rfl⟩
 refine HKK.o _ _ hA ?_
 clear HKK
 simp only[zz]
 refine tpZ 4 (.int .i64 (area+secsI xs.length)) hA ?_
 simp only[zz]
 refine tlZ 5 ?_
 simp only[List.drop]
 have f0:wd.frozen? ⟨ab,0,none⟩=false:=Zb a2.o.a
 have c0:=Zf a2.o.a
 clear hA
 go_upto_region 1 with fail
 obtain⟨w2,b0⟩: ∃w2,w2=wd.setCell ⟨ab,0,none⟩ (.int .i64 (area+secsI xs.length)):=⟨_,rfl⟩
 rw[←b0]
 have b5:Upd (fun k=>k=ab) wd w2:=by rw[b0];exact Zd wd ab 0 _
 have d3:=V (show PlayAt w2 ab sb kb (area+secsI xs.length) ev b n C l ok by rw[b0];exact a2.o.setA _)
 have d8:=V (show BytesIn w2 (.slice xa xs.length xc) xs from c5.o.keptF b5 (fun hne a' n' c' e=>by injection e with e;exact e5.o a' e hne))
 have f5:=V (show Upd (fun k=>k=ab∨k=sb∨k=kb) w w2 from(c2.o.mono (F:=fun _=>False) (fun _ _ e=>e.elim)).trans (b5.mono (F:=fun k=>k=ab) (fun _ _ e=>.inl e)))
 clear b0 b5 f0 c0 e3
 go_wp2_with (go_at_call 27;fail)
 refine(Zoi w2 d8.o HB.o hl).mono ?_
 rintro e w3 ⟨ba,bc,rfl,⟨CB,b6,e4,f8⟩,a3,_,b4⟩
 obtain⟨B,b3⟩: ∃B,B=(decF xs).1:=⟨_,rfl⟩
 obtain⟨E,hE⟩: ∃E,E=(decF xs).2:=⟨_,rfl⟩
 rw[←b3] at b6 a3
 rw[←b3,←hE]
 have b8:=V b3;have a9:=V hE;have c7:=V b6.setsIn;have d0:=V a3
 have d9:=V (d3.o.kept0 b4)
 have e2:=V (show Upd (fun k=>k=ab∨k=sb∨k=kb) w w3 from f5.o.trans (b4.mono (F:=fun _=>False) (fun _ _ e=>e.elim)))
 clear b3 hE b6 e4 f8 a3 b4 d3 a2 c5 d8 c2
 unfold batchV
 simp only[]
 go_upto_region 2 with fail
 obtain⟨w4,c9,b2,b7⟩:=nb w3 (.cells #[.int .u64 B.epoch,.bool B.large,.slice ba B.sets.length bc] 56)
 rw[←c9]
 have a4:=V (d9.o.kept0 b2)
 have c7:=V (c7.o.kept b2)
 have c6:=V (show Upd (fun k=>k=ab∨k=sb∨k=kb) w w4 from e2.o.trans (b2.mono (F:=fun _=>False) (fun _ _ e=>e.elim)))
 have d6:=V b7
 generalize w3.heap.size=t5 at b7 d6 ⊢
 clear c9 b2 b7 d9 e2
 have c3:=Zf a4.o.k
 have f3:w4.frozen? ⟨kb,0,none⟩=false:=Zb a4.o.k
 by_cases a0:E=0
 rotate_left
 ·have d7:(E == 0)=false:=by simpa using a0
  have a8:=V (show playK (ev,l) xs=false by unfold playK;rw[decide_eq_false (fun e=>a0 (a9.o.trans e.1))])
  have a7:=V (show playS (ev,l) xs=(ev,l) by unfold playS;rw[if_neg (fun e=>a0 (a9.o.trans e.1))])
  clear a0
  cases ok
  all_goals
   go_wp2
   go_end0
   refine⟨⟨_,rfl⟩,b,n,C,?_,by omega,.inl rfl,fun k hk=>.inl hk,c6.o.trans ((Zd w4 kb 0 _).mono (F:=fun k=>k=kb) (fun _ _ e=>.inr (.inr e)))⟩
   rw[a7.o,a8.o,Bool.and_false]
   exact a4.o.setK _
 ·subst a0
  have c1:=Ziq HB.o a9.o.symm
  rw[←b8.o] at c1
  have HR:=V c1.2
  have HN:=V hn
  obtain⟨x0,x1⟩:=Zg a4.o.s
  obtain⟨y0,y1,y2⟩:=Zk d6.o
  clear c1
  go_wp2_with (go_at_call 96;fail)
  refine(Ztn (c:=bc) w w4 c6.o.size a4.o.m (by omega) a4.o.fine c7.o HR.o).mono ?_
  rintro e w5 ⟨a6,b1,rfl,d2,d1,c4⟩
  obtain⟨E,hE⟩: ∃E,E=doE ev l B:=⟨_,rfl⟩
  rw[←hE]
  have HE:=V hE;have f7:=V d2;have e7:=V d1
  have a1:=V (a4.o.kept0 c4)
  have d5:=V (show Upd (fun k=>k=ab∨k=sb∨k=kb) w w5 from c6.o.trans (c4.mono (F:=fun _=>False) (fun _ _ e=>e.elim)))
  have e0:=V (show playK (ev,l) xs=decide (E=0) by
   unfold playK
   rw[←a9.o,←b8.o,←HE.o]
   simp)
  have c8:=V (show playS (ev,l) xs=if E=0 then(B.epoch,l.withs B.sets) else(ev,l) by
   unfold playS
   rw[←a9.o,←b8.o,←HE.o]
   simp)
  have c3:=Zf a1.o.k
  have f3:w5.frozen? ⟨kb,0,none⟩=false:=Zb a1.o.k
  obtain⟨x0,x1⟩:=Zg a1.o.s
  have f0:w5.frozen? ⟨sb,0,none⟩=false:=Zb a1.o.s
  have f1:w5.frozen? ⟨sb,1,none⟩=false:=Zb a1.o.s
  clear hE d2 d1 c4 y0 y1 y2
  simp only[]
  by_cases a0:E=0
  rotate_left
  ·obtain⟨h1,h2⟩:=e7.o (by rw[←HE.o];exact a0)
   subst h1
   subst h2
   have d7:(E == 0)=false:=by simpa using a0
   have a8:=V (show playK (a6,l) xs=false by rw[e0.o,decide_eq_false a0])
   have a7:=V (show playS (a6,l) xs=(a6,l) by rw[c8.o,if_neg a0])
   clear a0
   go_upto_region 4 with fail
   obtain⟨p1,p2⟩:=a1.o.setS (ev':=a6) a1.o.m a1.o.fine a1.o.ev
   obtain⟨w6,a5⟩: ∃w6,w6=(w5.setCell ⟨sb,0,none⟩ (.int .u64 a6)).setCell ⟨sb,1,none⟩ (.map (some b1)):=⟨_,rfl⟩
   rw[←a5] at p1 p2 ⊢
   have P1:=V p1;have P2:=V p2
   have c3:=Zf p1.k
   have f3:w6.frozen? ⟨kb,0,none⟩=false:=Zb p1.k
   clear p1 p2 a5 x0 x1 f0 f1
   cases ok
   all_goals
    go_wp2
    go_end0
    refine⟨⟨_,rfl⟩,b1,n,C,?_,by omega,.inl rfl,fun k hk=>.inl hk,(d5.o.trans (P2.out.mono (F:=fun k=>k=sb) (fun _ _ e=>.inr (.inl e)))).trans ((Zd _ kb 0 _).mono (F:=fun k=>k=kb) (fun _ _ e=>.inr (.inr e)))⟩
    rw[a7.o,a8.o,Bool.and_false]
    exact P1.out.setK _
  ·have d7:(E == 0)=true:=by simpa using a0
   obtain⟨h1,h2,n1,C1,h3,h4,h5⟩:=f7.o (by rw[←HE.o];exact a0)
   subst h1
   have b9:B.Ok:=⟨⟨by
    have: ¬B.epoch<ev:=fun hlt=>by
     have:=HE.o
     unfold doE at this
     rw[if_pos hlt,a0] at this
     omega
    have:=a1.o.ev
    omega,by have:=(BatchV.right_sets HR.o).1;omega⟩,fun x hx=>⟨(d0.o x hx).2.2.2.1,(d0.o x hx).2.2.2.2⟩⟩
   have d4:=Zdg a1.o.fine HR.o b9 (by rw[←HE.o];exact a0)
   have f2:=V d4.1;have f6:=V h3;have e9:=V h4;have e8:=V h5;have e6:=V h2
   have f4:=V (show 0≤B.epoch∧B.epoch≤4611686018427387904 from⟨b9.epoch.1,(BatchV.right_sets HR.o).1⟩)
   have a8:=V (show playK (ev,l) xs=true by rw[e0.o,decide_eq_true a0])
   have a7:=V (show playS (ev,l) xs=(B.epoch,l.withs B.sets) by rw[c8.o,if_pos a0])
   clear a0 b9 d4 h2 h3 h4 h5
   go_upto_region 4 with fail
   obtain⟨p1,p2⟩:=a1.o.setS (ev':=B.epoch) f6.o f2.o f4.o
   obtain⟨w6,a5⟩: ∃w6,w6=(w5.setCell ⟨sb,0,none⟩ (.int .u64 B.epoch)).setCell ⟨sb,1,none⟩ (.map (some b1)):=⟨_,rfl⟩
   rw[←a5] at p1 p2 ⊢
   have P1:=V p1;have P2:=V p2
   have c3:=Zf p1.k
   have f3:w6.frozen? ⟨kb,0,none⟩=false:=Zb p1.k
   clear p1 p2 a5 x0 x1 f0 f1
   cases ok
   all_goals
    go_wp2
    go_end0
    refine⟨⟨_,rfl⟩,b1,n1,C1,?_,e9.o,.inr e6.o,e8.o,(d5.o.trans (P2.out.mono (F:=fun k=>k=sb) (fun _ _ e=>.inr (.inl e)))).trans ((Zd _ kb 0 _).mono (F:=fun k=>k=kb) (fun _ _ e=>.inr (.inr e)))⟩
    rw[a7.o,a8.o,Bool.and_true]
    exact P1.out.setK _
theorem Zif {P:Program}{a:Addr}{fn:Fn}{f c:Array Value}:(store a (.func fn f c)).run P w=stored P w a (.func fn f c) .plain:=run_store P w a _ _ rfl
attribute [local go_sem] Oper.semAt_some Zif
def Yb (p0:List Int):(Int×KV)×Bool:=if p0=[] then((0,[]),true) else(playS (0,[]) p0,playK (0,[]) p0 && (Zz (playS (0,[]) p0).1 (playS (0,[]) p0).2 == p0))
def playN (s:(Int×KV)×Bool)(x:List Int):(Int×KV)×Bool:=(playS s.1 x,s.2 && playK s.1 x)
def areaN (a:Int)(l:List (List Int)):Int:=l.foldl (fun a x=>a+secsI x.length) a
def foundN (p0:List Int)(l:List (List Int)):(Int×KV)×Bool:=l.foldl playN (Yb p0)
theorem PlayAt.keptU (h:PlayAt w ab sb kb area ev b n C l ok)(hu:Upd F w w')(hF: ∀k o,w.heap[k]?=some o→(o.isCells=true∨ ∃es c,o=.map es c)→ ¬F k):PlayAt w' ab sb kb area ev b n C l ok:=by
 have hb: ¬F b:=by
  obtain⟨es,c,q⟩:=h.m.1.isMapBlock
  exact hF _ _ q (.inr ⟨_,_,rfl⟩)
 refine⟨(hu.block _ (Za h.a) (hF _ _ h.a (.inl rfl))).trans h.a,(hu.block _ (Za h.s) (hF _ _ h.s (.inl rfl))).trans h.s,(hu.block _ (Za h.k) (hF _ _ h.k (.inl rfl))).trans h.k,h.m.kept hu hb (fun k hk=>?_),h.fine,h.ev⟩
 obtain⟨cs,q⟩:=h.m.1.rowC k hk
 exact hF _ _ q (.inl rfl)
structure FnAt (w w1:World) (ab sb kb fb:Nat) (X:Lg) (s0:(Int×KV)×Bool) (a0:Int) (pre:List (Nat×Value)) (W:World):Prop where
 play: ∃b n C,PlayAt W ab sb kb (areaN a0 (X.parts.tail.take pre.length)) ((X.parts.tail.take pre.length).foldl playN s0).1.1 b n C ((X.parts.tail.take pre.length).foldl playN s0).1.2 ((X.parts.tail.take pre.length).foldl playN s0).2∧n≤48+48 * pre.length∧w.heap.size≤b∧ ∀k,C k→w.heap.size≤k
 fn:W.heap[fb]?=some (.cells #[.func (.func 154) #[] #[.pointer (some ⟨ab,0,none⟩),.pointer (some ⟨sb,0,none⟩),.pointer (some ⟨kb,0,none⟩)]] 195 (0,0))
 upd:Upd (fun k=>k=ab∨k=sb∨k=kb) w1 W
 len:pre.length+1≤X.parts.length
theorem FnAt.upd0 {w1 W W':World}{fb:Nat}{s0:(Int×KV)×Bool}{a0:Int}{pre:List (Nat×Value)}(h:FnAt w w1 ab sb kb fb X s0 a0 pre W)(hu:U0 W W'):FnAt w w1 ab sb kb fb X s0 a0 pre W':=by
 obtain⟨⟨b,n,C,h1,h2⟩,h3,h4,h5⟩:=h
 exact⟨⟨b,n,C,h1.kept0 hu,h2⟩,_root_.Go.Proofs.YtbimkhdiplnbfaaGreat.kb hu h3,h4.trans (hu.mono (F:=fun _=>False) (fun _ _ e=>e.elim)),h5⟩
theorem FnAt.put {w1 W:World}{fb lr:Nat}{s0:(Int×KV)×Bool}{a0:Int}{pre:List (Nat×Value)}{o:Loop}(o':Obj)(h:FnAt w w1 ab sb kb fb X s0 a0 pre W)(hl:w1.heap.size≤lr)(ho:W.heap[lr]?=some (.loop o)):FnAt w w1 ab sb kb fb X s0 a0 pre (W.putObj lr o'):=by
 obtain⟨⟨b,n,C,h1,h2⟩,h3,h4,h5⟩:=h
 have hF: ∀k p,W.heap[k]?=some p→(p.isCells=true∨ ∃es c,p=.map es c)→ ¬k=lr:=by
  rintro k p hp hc rfl
  rw[ho] at hp
  injection hp with hp
  subst hp
  rcases hc with hc | ⟨es,c,hc⟩
  ·cases hc
  ·cases hc
 have hu:=Zd5 (W:=W) (l:=lr) o'
 exact⟨⟨b,n,C,h1.keptU hu hF,h2⟩,(hu.block _ (Za h3) (hF _ _ h3 (.inl rfl))).trans h3,h4.step (hu.mono (F:=fun k=>k=lr) (G:=fun k=>k=lr) n3Z) (fun k hk e=>by omega),h5⟩
theorem Log.kept' (h:Log w q p X G)(hu:U0 w w'):Log w' q p X G:=h.kept hu n3Z
theorem Zid (a:Int)(l:List (List Int))(x:List Int):areaN a (l++[x])=areaN a l+secsI x.length:=by simp[areaN]
theorem Zdv (n:Nat):0≤secsI n∧secsI n≤1000:=by unfold secsI;split<;> omega
theorem Zd2: ∀(l:List (List Int)) (a:Int),a≤areaN a l∧areaN a l≤a+1000 * l.length
 | [],a=>by simp[areaN]
 |x :: l,a=>by
  have h1:=Zdv x.length
  have h2:=Zd2 l (a+secsI x.length)
  have e:areaN a (x :: l)=areaN (a+secsI x.length) l:=rfl
  rw[e,List.length_cons]
  omega
theorem Zl9 {u v:Value}(h:w.heap[b]?=some (.cells #[u,v] 167 (0,0))):(loadVar 167 ⟨b,0,none⟩).run Tryz.prog w=.ok (.agg #[u,v]) w:=Zd7 h
theorem Zph {v:Int}(h:w.heap[b]?=some (.cells #[.int .i64 v] 3 (0,0))):(loadVar 3 ⟨b,0,none⟩).run Tryz.prog w=.ok (.int .i64 v) w:=by
 have c:=Zf h
 simp[loadVar,isAgg,run_underlying Tryz.underlying3,Sem.run_bind,c]
theorem Zj4 {P:Program}{fn:Func}{ts:Array Value}{a:Nat}{s r:TypeId}{p q o:Addr}{v x y:Value}(hr:fn.results=#[.cell a t,.cell b s,.cell c r])(ha:ts.getD a undef=.pointer (some p))(hb:ts.getD b undef=.pointer (some q))(hc:ts.getD c undef=.pointer (some o))(hl:(loadVar t p).run P w=.ok v w)(hm:(loadVar s q).run P w=.ok x w)(hn:(loadVar r o).run P w=.ok y w):
  (Go.results fn ts).run P w=.ok (.tuple #[v,x,y]) w:=by
 unfold Go.results
 rw[hr]
 have a1:ts[a]?.getD undef=.pointer (some p):=by simpa using ha
 have a0:ts[b]?.getD undef=.pointer (some q):=by simpa using hb
 have a2:ts[c]?.getD undef=.pointer (some o):=by simpa using hc
 simp[asAddr,a1,a0,a2,hl,hm,hn]
def Zs9 (Q:Exit→Act→World→Prop):Exit→Act→World→Prop
 |.panic _,_,_=>False
 |e,a,w=>Q e a w
theorem Zhr {Q:Exit→Act→World→Prop}: ∀(e:Exit) (a:Act) (w:World),Zs9 Q e a w→Q e a w:=fun e a w h=>by
 cases e<;> first | exact h | exact h.elim
theorem Zhn {p0:List Int}{txs:List (List Int)}(w:World)(hlog:Log w q p X G)(hok:X.Ok)(hX:X.parts=p0 :: txs):
  Calls Tryz.prog 100 #[.agg #[.pointer (some ⟨q,0,none⟩)]] w fun e w'=> ∃b n C,e=.returned (.tuple #[.agg #[.int .u64 (foundN p0 txs).1.1,.map (some b)],.int .i64 (areaN (X.h.area - X.used) X.parts),.bool (foundN p0 txs).2])∧MapKV w' b n C (foundN p0 txs).1.2∧(foundN p0 txs).1.2.Fine∧(0≤(foundN p0 txs).1.1∧(foundN p0 txs).1.1≤4611686018427387904)∧n≤48+48 * X.parts.length∧w.heap.size≤b∧(∀k,C k→w.heap.size≤k)∧U0 w w':=by
 have p8:=V hlog;have b3:=V hok;have g7:=V hX
 have l4:=V hlog.lt
 have c6:=hok.bytes p0 (by rw[hX];simp)
 have o6:=V c6
 obtain⟨w1,c9⟩: ∃w1,w1=(((w.alloc (.cells #[.pointer (some ⟨q,0,none⟩)] 170)).alloc (.cells #[.int .u64 0,.map none] 167)).alloc (.cells #[.int .i64 0] 3)).alloc (.cells #[.bool false] 4):=⟨_,rfl⟩
 have b4:w1.heap[w.heap.size]?=some (.cells #[.pointer (some ⟨q,0,none⟩)] 170 (0,0)):=by rw[c9];exact(Zm (by simp<;> omega)).trans ((Zm (by simp<;> omega)).trans ((Zm (by simp)).trans (Zc rfl)))
 have a7:w1.heap[w.heap.size+1]?=some (.cells #[.int .u64 0,.map none] 167 (0,0)):=by rw[c9];exact(Zm (by simp<;> omega)).trans ((Zm (by simp<;> omega)).trans (Zc (by simp<;> omega)))
 have r3:w1.heap[w.heap.size+2]?=some (.cells #[.int .i64 0] 3 (0,0)):=by rw[c9];exact(Zm (by simp<;> omega)).trans (Zc (by simp<;> omega))
 have b0:w1.heap[w.heap.size+3]?=some (.cells #[.bool false] 4 (0,0)):=by rw[c9];exact Zc (by simp)
 have t7:w1.heap.size=w.heap.size+4:=by rw[c9];simp
 have s3:U0 w w1:=by rw[c9];exact((((Upd.refl _ w).alloc _).alloc _).alloc _).alloc _
 have s1:=V c9;have d4:=V b4;have j8:=V a7;have i0:=V r3;have i4:=V b0;have z0:=V t7;have h6:=V s3
 obtain⟨lb,n6⟩: ∃lb,lb=w.heap.size:=⟨_,rfl⟩
 clear hlog hok hX c6 c9 b4 a7 r3 b0 t7 s3
 refine(callsIn_wide (n:=5)).1 ?_
 refine callsIn_of_wp_marks Tryz.func100 rfl trivial ?_ rfl
 simp only[Tryz.ntmps100,List.size_toArray,List.length_cons,List.length_nil,Nat.reduceAdd,Nat.reduceSub,Array.replicate_succ,Array.replicate_zero,List.push_toArray,List.append_toArray,List.nil_append,List.cons_append]
 refine wpIn_mono ?_ Zhr
 refine wpIn_wide.2 ?_
 go_upto_region 1 with fail
 rw[←s1.o]
 obtain⟨kb,o5⟩: ∃kb,kb=w.heap.size+1+1+1:=⟨_,rfl⟩
 obtain⟨ab,p7⟩: ∃ab,ab=w.heap.size+1+1:=⟨_,rfl⟩
 obtain⟨sb,n1⟩: ∃sb,sb=w.heap.size+1:=⟨_,rfl⟩
 rw[←o5,←p7,←n1,←n6]
 have d4:RowKit.Hid (w1.heap[lb]?=some (.cells #[.pointer (some ⟨q,0,none⟩)] 170 (0,0))):=V (by rw[n6];exact d4.o)
 have j8:RowKit.Hid (w1.heap[sb]?=some (.cells #[.int .u64 0,.map none] 167 (0,0))):=V (by rw[n1];exact j8.o)
 have i0:RowKit.Hid (w1.heap[ab]?=some (.cells #[.int .i64 0] 3 (0,0))):=V (by rw[p7];exact i0.o)
 have i4:RowKit.Hid (w1.heap[kb]?=some (.cells #[.bool false] 4 (0,0))):=V (by rw[o5];exact i4.o)
 have g6:=V (show w.heap.size≤lb∧w.heap.size≤sb∧w.heap.size≤ab∧w.heap.size≤kb by omega)
 clear o5 p7 n1 n6 s1
 have u9: ∀W:World,(Instr.makeMap 165 none).run Tryz.prog W=.ok (.map (some W.heap.size)) (W.alloc (.map #[] 0)):=fun W=>run_makeMap 165 W
 have j7:U0 w1 (w1.alloc (.map #[] 0)):=(Upd.refl _ w1).alloc _
 have a7:=_root_.Go.Proofs.YtbimkhdiplnbfaaGreat.kb j7 j8.o
 have b0:=_root_.Go.Proofs.YtbimkhdiplnbfaaGreat.kb j7 i4.o
 have p2:PlayAt ((((w1.alloc (.map #[] 0)).setCell ⟨sb,1,none⟩ (.map (some w1.heap.size)))).setCell ⟨kb,0,none⟩ (.bool true)) ab sb kb 0 0 w1.heap.size 0 (fun _=>False) [] true:=by
  have h1:((w1.alloc (.map #[] 0)).setCell ⟨sb,1,none⟩ (.map (some w1.heap.size))).heap[sb]?=some (.cells #[.int .u64 0,.map (some w1.heap.size)] 167 (0,0)):=by
   have:=Ze (i:=1) (v:=.map (some w1.heap.size)) a7
   simpa using this
  have hu:=Zd (w1.alloc (.map #[] 0)) sb 1 (.map (some w1.heap.size))
  have h3:=_root_.Go.Proofs.YtbimkhdiplnbfaaGreat.kb j7 i0.o
  have h0:PlayAt ((w1.alloc (.map #[] 0)).setCell ⟨sb,1,none⟩ (.map (some w1.heap.size))) ab sb kb 0 0 w1.heap.size 0 (fun _=>False) [] false:=
   ⟨(hu.block _ (Za h3) (Zs h3 a7 (by decide))).trans h3,h1,(hu.block _ (Za b0) (Zs b0 a7 (by decide))).trans b0,(MapKV.made w1).kept hu (Zht (MapKV.made w1) a7) (fun _ e=>e.elim),KV.Fine.nil,by omega⟩
  exact h0.setK true
 have b1:Upd (fun k=>k=ab∨k=sb∨k=kb) w1 ((((w1.alloc (.map #[] 0)).setCell ⟨sb,1,none⟩ (.map (some w1.heap.size)))).setCell ⟨kb,0,none⟩ (.bool true)):=
  ((j7.mono (F:=fun _=>False) (fun _ _ e=>e.elim)).trans ((Zd _ sb 1 _).mono (F:=fun k=>k=sb) (fun _ _ e=>.inr (.inl e)))).trans ((Zd _ kb 0 _).mono (F:=fun k=>k=kb) (fun _ _ e=>.inr (.inr e)))
 have u1:sb≠kb:=Zs a7 b0 (by decide)
 obtain⟨y0,y1⟩:=Zg a7
 have y2:=Zf b0
 have g1:(w1.alloc (.map #[] 0)).frozen? ⟨sb,1,none⟩=false:=Zb a7
 have g2:(w1.alloc (.map #[] 0)).frozen? ⟨kb,0,none⟩=false:=Zb b0
 obtain⟨w2,o2⟩: ∃w2,w2=(((w1.alloc (.map #[] 0)).setCell ⟨sb,1,none⟩ (.map (some w1.heap.size)))).setCell ⟨kb,0,none⟩ (.bool true):=⟨_,rfl⟩
 rw[←o2] at p2 b1
 have r2:=V p2;have d7:=V b1;have q9:=V o2;have p9:=V (show w.heap.size≤w1.heap.size from h6.o.size)
 clear j7 a7 b0 p2 b1 o2
 go_upto_region 2 with fail
 rw[←q9.o]
 have e9:lb≠ab∧lb≠sb∧lb≠kb:=⟨Zs d4.o i0.o (by decide),Zs d4.o j8.o (by decide),Zs d4.o i4.o (by decide)⟩
 have i5:U0 w w2:=h6.o.step d7.o (fun k hk e=>by have:=g6.o;omega)
 have b4:=(d7.o.block _ (Za d4.o) (fun e=>by omega)).trans d4.o
 have c1:=Zf b4
 have f8:=V b4
 have o7:=V i5
 clear y0 y1 y2 g1 g2 u1 u9 b4 i5 q9 d4 j8 i0 i4
 go_wp2_with (go_at_call 54;fail)
 refine(Zem w2 (p8.o.kept' o7.o) b3.o).mono ?_
 rintro e w3 ⟨rfl,d5⟩
 have k3:=r2.o.kept0 d5
 have y3:=Zf k3.a
 have g3:w3.frozen? ⟨ab,0,none⟩=false:=Zb k3.a
 have m5:=k3.setA (X.h.area - X.used)
 have l1:=Zd w3 ab 0 (.int .i64 (X.h.area - X.used))
 have f6:=(l1.block _ (Nat.lt_of_lt_of_le (Za f8.o) d5.size) e9.1).trans (_root_.Go.Proofs.YtbimkhdiplnbfaaGreat.kb d5 f8.o)
 obtain⟨w4,o0⟩: ∃w4,w4=w3.setCell ⟨ab,0,none⟩ (.int .i64 (X.h.area - X.used)):=⟨_,rfl⟩
 rw[←o0] at m5 l1 f6
 have r1:=V o0;have t2:=V m5;have i7:=V f6
 have g0:=V (show Upd (fun k=>k=ab∨k=sb∨k=kb) w1 w4 from d7.o.trans ((d5.mono (F:=fun _=>False) (fun _ _ e=>e.elim)).trans (l1.mono (F:=fun k=>k=ab) (fun _ _ e=>.inl e))))
 clear o0 m5 d5 k3 l1 f6 c1 r2 f8
 simp only[]
 go_upto_region 3 with fail
 rw[←r1.o]
 clear y3 g3 r1
 go_upto_region 4 with fail
 obtain⟨fb,l8⟩: ∃fb,fb=w4.heap.size:=⟨_,rfl⟩
 obtain⟨w5,k8⟩: ∃w5,w5=w4.alloc (.cells #[.func (.func 154) #[] #[.pointer (some ⟨ab,0,none⟩),.pointer (some ⟨sb,0,none⟩),.pointer (some ⟨kb,0,none⟩)]] 195):=⟨_,rfl⟩
 rw[←k8,←l8]
 have m1:U0 w4 w5:=by rw[k8];exact(Upd.refl _ w4).alloc _
 have r8:w5.heap[fb]?=some (.cells #[.func (.func 154) #[] #[.pointer (some ⟨ab,0,none⟩),.pointer (some ⟨sb,0,none⟩),.pointer (some ⟨kb,0,none⟩)]] 195 (0,0)):=by rw[k8];exact Zc l8
 have e6:=_root_.Go.Proofs.YtbimkhdiplnbfaaGreat.kb m1 i7.o
 have f5:=g0.o.trans (m1.mono (F:=fun _=>False) (G:=fun k=>k=ab∨k=sb∨k=kb) (fun _ _ e=>e.elim))
 have i8:U0 w w5:=h6.o.step f5 (fun k hk e=>by have:=g6.o;omega)
 have c1:=Zf e6
 have c4:=V r8;have a8:=V e6;have c5:=V f5;have b2:=V i8;have j6:=V (t2.o.kept0 m1)
 have y8:=V (show w.heap.size≤fb by rw[l8];exact Nat.le_trans h6.o.size g0.o.size)
 clear m1 r8 e6 f5 i8 k8 l8 t2 i7 g0
 go_wp2_with (go_at_call 71;fail)
 refine(Zcf w5 (p8.o.kept' b2.o) b3.o (b:=p0) (by rw[g7.o];rfl)).mono ?_
 rintro e w6 ⟨u,rfl,a2,g8⟩
 obtain⟨ua,uc,rfl,_⟩:=a2.bytesAt.1.slice
 have a6:=V a2
 have e0:=V (j6.o.kept0 g8)
 have c4:=V (_root_.Go.Proofs.YtbimkhdiplnbfaaGreat.kb g8 c4.o)
 have a8:=V (_root_.Go.Proofs.YtbimkhdiplnbfaaGreat.kb g8 a8.o)
 have c5:=V (c5.o.trans (g8.mono (F:=fun _=>False) (G:=fun k=>k=ab∨k=sb∨k=kb) (fun _ _ e=>e.elim)))
 have o9:=V (Nat.le_trans b2.o.size g8.size)
 have y4:=V (show w.heap.size≤w5.heap.size from b2.o.size)
 have k0:=V (show ab<w5.heap.size∧sb<w5.heap.size∧kb<w5.heap.size from⟨Za j6.o.a,Za j6.o.s,Za j6.o.k⟩)
 clear a2 g8 j6 c1 b2
 simp only[]
 go_upto_if 20 with fail
 obtain⟨a1,m2⟩: ∃a1,a1=X.h.area - X.used+secsI p0.length:=⟨_,rfl⟩
 have m4:=V m2
 have v5:0≤secsI p0.length∧secsI p0.length≤1000:=by unfold secsI;split<;> omega
 have v0:=V (show -1000000000≤X.h.area - X.used∧X.h.area - X.used≤1000000 by have:=b3.o.area;have:=b3.o.used;omega)
 have j9:=V (show -1000000≤a1∧a1≤1000000 by rw[m2];have:=b3.o.area;have:=b3.o.used;omega)
 clear m2 v5
 go_cut [20] from 21 to 34 (fun v wx=> ∃b n C,PlayAt wx ab sb kb a1 (Yb p0).1.1 b n C (Yb p0).1.2 (Yb p0).2∧n≤48∧w.heap.size≤b∧(∀k,C k→w.heap.size≤k)∧Upd (fun k=>k=ab∨k=sb∨k=kb) w6 wx)
 case first=>
  by_cases c6:p0=[]
  ·have k5:=V c6
   have t5: ¬0<p0.length:=by rw[c6];simp
   clear c6
   go_upto_region 8 with fail
   clear t5
   have hA:w6.drew.cell? ⟨ab,0,none⟩=some (.int .i64 (X.h.area - X.used)):=Zf e0.o.a
   have y5:IntKind.i64.wrap (X.h.area - X.used+secsI 0)=a1:=by
    have h1:=m4.o
    rw[k5.o] at h1
    have h2:=j9.o
    rw[IntKind.wrap_i64]
    simp only[List.length_nil,Int.ofNat_zero,Int.cast_ofNat_Int] at h1
    omega
   have a0:=V (e0.o.kept0 ((Upd.refl (fun _=>False) w6).drew))
   have s8:=V ((Upd.refl (fun _=>False) w6).drew)
   refine Zj 3 (fun W=>W.cell? ⟨ab,0,none⟩=some (.int .i64 (X.h.area - X.used))) [false,false,false,false] rfl (by kernel_rfl) ?_
   generalize w6.drew=wd at hA a0 s8 ⊢
   refine tqY 0 (.int .i64 (X.h.area - X.used)) [] hA ?_
   simp only[zz]
   refine doZ 1 (fun K l3=>?_)
   go_step
   refine(Yf 0 wd).mono ?_
   rintro e y6 ⟨rfl,rfl⟩
   refine l3.o _ _ hA ?_
   clear l3
   simp only[zz]
   refine tpZ 2 (.int .i64 a1) hA ?_
   simp only[zz]
   refine tlZ 3 ?_
   simp only[List.drop]
   have f0:wd.frozen? ⟨ab,0,none⟩=false:=Zb a0.o.a
   have c0:=Zf a0.o.a
   go_wp2
   go_meet
   case rel=>
    refine⟨w1.heap.size,0,fun _=>False,?_,by omega,p9.o,fun k hk=>hk.elim,(s8.o.mono (F:=fun _=>False) (fun _ _ e=>e.elim)).trans ((Zd wd ab 0 _).mono (F:=fun k=>k=ab) (fun _ _ e=>.inl e))⟩
    rw[show Yb p0=((0,[]),true) by unfold Yb;rw[if_pos k5.o]]
    exact a0.o.setA _
  ·have k5:=V c6
   have t5:0<p0.length:=List.length_pos_iff.2 c6
   have cf:=Zf c4.o
   clear c6
   go_wp2_with (go_at_call 154;fail)
   refine(Zk2 w6 e0.o a6.o.bytesAt.1.bytesIn o6.o.1 (by have:=o6.o.2;omega) (fun a e _=>by have h1:=a6.o.lt a.block (by rw[e];rfl);have:=k0.o;omega) (by have:=v0.o;omega) (by omega)).mono ?_
   rintro e w7 ⟨⟨v7,rfl⟩,b7,n7,C7,e5,t9,u0,r0,m7⟩
   rw[Bool.true_and] at e5
   obtain⟨s7,n3⟩: ∃s,s=playS (0,[]) p0:=⟨_,rfl⟩
   obtain⟨k7,o1⟩: ∃k,k=playK (0,[]) p0:=⟨_,rfl⟩
   rw[←n3,←o1,←m4.o] at e5
   have l5:=V (show Yb p0=(s7,k7 && (Zz s7.1 s7.2 == p0)) by unfold Yb;rw[if_neg k5.o,n3,o1])
   have g5:=V e5;have s0:=V (show w.heap.size≤b7 by
    have h1:=p9.o
    have h2:=o9.o
    rcases u0 with e | e
    ·omega
    ·omega)
   have q5:=V r0;have q7:=V m7;have r6:=V t9
   have j1:=V (OwnB.keptF a6.o m7 (fun k hk e=>by have h1:=a6.o.lt k hk;have h2:=k0.o;omega))
   obtain⟨t8,l7⟩:=s7
   have c7:=Zf e5.k
   have f7:w7.frozen? ⟨kb,0,none⟩=false:=Zb e5.k
   obtain⟨x0,x1⟩:=Zg e5.s
   clear e5 m7 u0 r0 t9 n3 o1 cf
   simp only[] at x0 x1
   simp only[]
   cases k7 with
   |false=>
    go_wp2
    go_meet
    case rel=>
     refine⟨b7,n7,C7,?_,by have:=r6.o;omega,s0.o,fun k hk=>(q5.o k hk).elim (fun e=>e.elim) (fun e=>Nat.le_trans o9.o e),q7.o.trans ((Zd w7 kb 0 _).mono (F:=fun k=>k=kb) (fun _ _ e=>.inr (.inr e)))⟩
     rw[l5.o,Bool.false_and]
     exact g5.o.setK _
   |true=>
    go_wp2_with (go_at_call 98;fail)
    refine(Zdw w7 g5.o.m g5.o.fine g5.o.ev.1 g5.o.ev.2).mono ?_
    rintro e w8 ⟨y7,x9,rfl,c8,c3⟩
    have u6:=V c8
    have b5:=V (g5.o.kept0 c3)
    have u2:=V (OwnB.keptF j1.o c3 n3Z)
    have v4:=V (q7.o.trans (c3.mono (F:=fun _=>False) (G:=fun k=>k=ab∨k=sb∨k=kb) (fun _ _ e=>e.elim)))
    have c7:=Zf b5.o.k
    have f7:w8.frozen? ⟨kb,0,none⟩=false:=Zb b5.o.k
    clear c8 c3 x0 x1
    simp only[]
    go_wp2_with (go_at_call 24;fail)
    refine(Zds w8 u6.o.bytesAt.1.bytesIn u2.o.bytesAt.1.bytesIn (Zae (Za8 b5.o.fine b5.o.ev.1 b5.o.ev.2)) o6.o.1).mono ?_
    rintro e w9 ⟨rfl,rfl⟩
    obtain⟨eq,m9⟩: ∃x,x=(Zz t8 l7 == p0):=⟨_,rfl⟩
    rw[←m9]
    have p6:=V (show Yb p0=((t8,l7),eq) by rw[l5.o,m9];rfl)
    clear m9
    simp only[]
    go_wp2
    go_meet
    case rel=>
     refine⟨b7,n7,C7,?_,by have:=r6.o;omega,s0.o,fun k hk=>(q5.o k hk).elim (fun e=>e.elim) (fun e=>Nat.le_trans o9.o e),v4.o.trans ((Zd w8 kb 0 _).mono (F:=fun k=>k=kb) (fun _ _ e=>.inr (.inr e)))⟩
     rw[p6.o]
     exact b5.o.setK _
 case rest=>
  obtain⟨b8,n8,C8,t6,r9,s9,t4,c3⟩:=hcut
  have i6:=(c3.block _ (Za a8.o) (fun e=>by omega)).trans a8.o
  have h5:fb≠ab∧fb≠sb∧fb≠kb:=⟨Zs c4.o e0.o.a (by decide),Zs c4.o e0.o.s (by decide),Zs c4.o e0.o.k (by decide)⟩
  have j0:=(c3.block _ (Za c4.o) (fun e=>by omega)).trans c4.o
  have h4:=c5.o.trans c3
  have h7:U0 w wc:=h6.o.step h4 (fun k hk e=>by have:=g6.o;omega)
  have c1:=Zf i6
  have b5:=V t6;have u8:=V r9;have v1:=V s9;have v3:=V t4;have k1:=V j0;have i3:=V h7
  clear t6 r9 s9 t4 c3 i6 h5 j0 h4 h7 e0 c4 a8 c5 a6 e9
  go_wp2_with (go_at_call 120;fail)
  refine(Zhg q wc).mono ?_
  rintro e w9 ⟨rfl,m3⟩
  have l2:U0 wc w9:=by rw[m3];exact(Upd.refl _ wc).alloc _
  have r5:w9.heap[wc.heap.size]?=some (.cells #[.pointer (some ⟨q,0,none⟩)] 38 (0,0)):=by rw[m3];exact Zc rfl
  have a9:=V (b5.o.kept0 l2);have b6:=V (_root_.Go.Proofs.YtbimkhdiplnbfaaGreat.kb l2 k1.o);have a5:=V (i3.o.trans l2);have g9:=V r5
  obtain⟨bp,n2⟩: ∃bp,bp=wc.heap.size:=⟨_,rfl⟩
  rw[←n2] at g9 ⊢
  have p3:=V (show bp<w9.heap.size∧w.heap.size≤bp from⟨Za g9.o,by rw[n2];exact i3.o.size⟩)
  clear l2 r5 m3 c1 n2 b5 k1
  simp only[]
  go_wp2
  have m0:FnAt w w9 ab sb kb fb X (Yb p0) a1 [] w9:=⟨⟨b8,n8,C8,a9.o,by have:=u8.o;simp;omega,v1.o,v3.o⟩,b6.o,Upd.refl _ _,by rw[g7.o];simp⟩
  have u3:=V m0
  clear m0
  have m8:=V (show bp≠ab∧bp≠sb∧bp≠kb from⟨Zs g9.o a9.o.a (by decide),Zs g9.o a9.o.s (by decide),Zs g9.o a9.o.k (by decide)⟩)
  have p4:=V (show fb≠ab∧fb≠sb∧fb≠kb from⟨Zs b6.o a9.o.a (by decide),Zs b6.o a9.o.s (by decide),Zs b6.o a9.o.k (by decide)⟩)
  have t3:=V (show X.parts.length≤1000 from b3.o.len)
  refine(wpIn_wide (n:=5)).1 ?_
  refine Zbw (α:=Nat×Value) (encs:=fun x=>#[.int .i64 x.1,x.2]) rfl (by omega) (gf:=165) (lb:=#[.pointer (some ⟨bp,0,none⟩)]) rfl trivial (enters_of Tryz.func165 (by kernel_rfl) rfl) (fun _=>rfl)
   (fun a3 x W0 W1=>x.1=a3.length∧ ∃b,X.parts[a3.length+1]?=some b∧OwnB W1 W0.heap.size x.2 b) (fun xs=>xs.length+1=X.parts.length) (FnAt w w9 ab sb kb fb X (Yb p0) a1) (fun k=>G k∨k=bp) ?hKp (fun _ _ _ h hu=>h.upd0 hu) (fun a3 W l o o' h hl ho=>h.put o' hl ho) u3.o ?hseq
   (fun x=>{tmps:=#[.agg #[.pointer (some ⟨q,0,none⟩)],.pointer (some ⟨lb,0,none⟩),.pointer (some ⟨sb,0,none⟩),.pointer (some ⟨ab,0,none⟩),.pointer (some ⟨kb,0,none⟩),.pointer (some ⟨fb,0,none⟩),.slice ua p0.length uc,undef,x.2,.map (some w1.heap.size),.pointer (some ⟨sb,1,none⟩),.pointer (some ⟨lb,0,none⟩),.pointer (some ⟨q,0,none⟩),.int .i64 (X.h.area - X.used),.func (.func 154) #[] #[.pointer (some ⟨ab,0,none⟩),.pointer (some ⟨sb,0,none⟩),.pointer (some ⟨kb,0,none⟩)],.pointer (some ⟨lb,0,none⟩),.pointer (some ⟨q,0,none⟩),.slice ua p0.length uc,.slice ua p0.length uc,.int .i64 p0.length,u20,u21,u22,u23,u24,u25,u26,u27,u28,u29,u30,u31,u32,u33,.pointer (some ⟨lb,0,none⟩),.pointer (some ⟨q,0,none⟩),.func (.func 165) #[] #[.pointer (some ⟨bp,0,none⟩)],.int .i64 x.1,x.2,undef,undef,undef,undef,undef,undef],defers:=[]}) ?hassign ?hbody ?hdone
  case hKp=>
   rintro k (hk | hk)
   ·have:=l4.o k hk;have:=a5.o.size;omega
   ·have:=p3.o;omega
  case hseq=>
   intro l J W h0 hW x6 hY
   refine Zkh 4 (by omega) l b3.o (by rw[g7.o];simp) J W ((p8.o.kept' a5.o).keep (fun k hk=>hW k (by have:=l4.o k hk;have:=a5.o.size;omega))) ((hW _ p3.o.1).trans g9.o) (fun a3 x W0 W1 b hj hu hx hb ho=>hY a3 x W0 W1 hj hu ⟨hx,b,hb,ho⟩) h0 x6
  case hassign=>
   intro l x W K hK
   have l3:=V hK
   clear hK
   gi_wp2
   exact l3.o
  case hbody=>
   rintro l a3 x W0 W1 W r r' hl n4 hu ⟨b4,b,hb,a2⟩ m6 rfl
   obtain⟨W,hW⟩: ∃W,W=W1.putObj l (.loop r'):=⟨_,rfl⟩
   rw[←hW]
   have m0:FnAt w w9 ab sb kb fb X (Yb p0) a1 a3 W:=by rw[hW];exact(n4.upd0 hu).put _ hl m6
   have a4:OwnB W W0.heap.size x.2 b:=by
    rw[hW]
    refine Zb6 a2 (fun k hk=>?_)
    refine World.putObj_heap_other (fun e=>?_)
    subst e
    rcases a2.2 with ⟨h,_⟩ | ⟨g,y9,x8,h,_,hg,_⟩
    ·rw[h] at hk;simp[Value.ownBlock] at hk
    ·rw[h] at hk
     simp only[Value.ownBlock,Option.some.injEq] at hk
     subst hk
     rw[m6] at hg
     injection hg with hg
     cases hg
   obtain⟨xk,u⟩:=x
   simp only at b4 a4
   subst b4
   obtain⟨u7,v6,rfl,_⟩:=a4.bytesAt.1.slice
   obtain⟨⟨b9,n9,C9,d8,k2,h8,h9⟩,j4,b1,k4⟩:=m0
   have cf:=Zf j4
   have j2:a3.length+1<X.parts.length:=(List.getElem?_eq_some_iff.1 hb).1
   have s4:=b3.o.bytes b (List.mem_of_getElem? hb)
   have i1:ab<W0.heap.size:=by
    obtain⟨⟨_,_,_,q1,_⟩,_⟩:=n4
    exact Za q1.a
   have q6:=Zd2 (X.parts.tail.take a3.length) a1
   have s5:(X.parts.tail.take a3.length).length≤1000:=by
    have:=t3.o
    simp only[List.length_take,List.length_tail]
    omega
   have d9:X.parts.tail.take (a3.length+1)=X.parts.tail.take a3.length++[b]:=by
    have v8:X.parts.tail[a3.length]?=some b:=by rw[List.getElem?_tail];exact hb
    obtain⟨h1,h2⟩:=List.getElem?_eq_some_iff.1 v8
    rw[List.take_succ_eq_append_getElem h1,h2]
   have l5:=V d9
   have HP:=V d8;have s6:=V j4;have d7:=V b1;have s2:=V a4;have q8:=V s4;have n0:=V i1;have u5:=V q6;have x5:=V s5;have k6:=V k2;have o8:=V h8;have o4:=V h9;have i9:=V j2
   have o3:=V (show w.heap.size≤W.heap.size from Nat.le_trans a5.o.size b1.size)
   clear d8 j4 b1 a2 a4 s4 i1 q6 s5 k2 h8 h9 j2 d9 n4 hu m6 hW hb k4
   gi_wp2_with (refine⟨trivial,?_⟩;gi_at_call 154;fail)
   refine⟨trivial,?_⟩
   refine(CallsIn.inRound l (callsIn_wide.2 (Zk2 W HP.o s2.o.bytesAt.1.bytesIn q8.o.1 (by have:=q8.o.2;omega) (fun a e _=>by have h1:=s2.o.lt a.block (by rw[e];rfl);have:=n0.o;omega) (by have:=u5.o;have:=x5.o;have:=j9.o;omega) (by have:=k6.o;have:=i9.o;have:=t3.o;omega)))).mono ?_
   rintro e W3 ⟨⟨v7,rfl⟩,x2,v9,x3,e7,p1,j5,j3,c2⟩
   have e8:=V c2
   have i2:FnAt w w9 ab sb kb fb X (Yb p0) a1 (a3++[(a3.length,.slice u7 b.length v6)]) W3:=by
    refine⟨⟨x2,v9,x3,?_,?_,?_,fun k hk=>?_⟩,(c2.block _ (Za s6.o) (fun e=>by have:=p4.o;omega)).trans s6.o,d7.o.trans c2,by have:=i9.o;simp;omega⟩
    ·rw[List.length_append,List.length_cons,List.length_nil,Nat.zero_add,l5.o,Zid,List.foldl_append]
     exact e7
    ·have:=k6.o
     simp only[List.length_append,List.length_cons,List.length_nil]
     omega
    ·have:=o8.o
     have:=o3.o
     rcases j5 with e | e<;> omega
    ·have:=o3.o
     rcases j3 k hk with e | e
     ·exact o4.o k e
     ·omega
   have p5:=V i2
   have v2:=V e7
   clear i2 e7 p1 j5 j3 c2
   gi_wp2
   refine⟨p5.o,⟨e8.o.size,fun k o hk ho hc=>?_⟩,fun k hk=>?_⟩
   ·refine(e8.o.block k (Za ho) (fun e=>?_)).trans ho
    rcases e with e | e | e
    ·subst e;have:=HP.o.a;rw[ho] at this;injection this with this;subst this;cases hc
    ·subst e;have:=HP.o.s;rw[ho] at this;injection this with this;subst this;cases hc
    ·subst e;have:=HP.o.k;rw[ho] at this;injection this with this;subst this;cases hc
   ·refine e8.o.block k ?_ (fun e=>?_)
    ·rcases hk with hk | hk
     ·have:=l4.o k hk;have:=o3.o;omega
     ·have:=p3.o.1;have:=d7.o.size;omega
    ·rcases hk with hk | hk
     ·have:=l4.o k hk;have:=g6.o;omega
     ·have:=m8.o;omega
  case hdone=>
   rintro xs W hS hs hK
   have r4:X.parts.tail.take xs.length=txs:=by rw[g7.o,List.tail_cons,List.take_of_length_le (by have:=g7.o;rw[this] at hS;simp at hS;omega)]
   obtain⟨⟨b9,n9,C9,d8,k2,h8,h9⟩,j4,b1,k4⟩:=hs
   rw[r4] at d8
   have t1:txs.foldl playN (Yb p0)=foundN p0 txs:=rfl
   rw[t1] at d8
   have d6:areaN a1 txs=areaN (X.h.area - X.used) X.parts:=by rw[g7.o,m4.o];rfl
   rw[d6] at d8
   have HP:=V d8;have k6:=V k2;have o8:=V h8;have o4:=V h9;have d7:=V b1;have HK:=V hK;have w0:=V k4
   clear r4 j4 k4 t1 d6 k2 h8 h9 b1 hK hS
   go_wp2_with (fail)
   obtain⟨l0,f4⟩: ∃x,x=(foundN p0 txs).1.1:=⟨_,rfl⟩
   obtain⟨l9,n5⟩: ∃x,x=(foundN p0 txs).1.2:=⟨_,rfl⟩
   obtain⟨l6,f9⟩: ∃x,x=(foundN p0 txs).2:=⟨_,rfl⟩
   obtain⟨k9,g4⟩: ∃x,x=areaN (X.h.area - X.used) X.parts:=⟨_,rfl⟩
   have a0:RowKit.Hid (PlayAt W ab sb kb k9 l0 b9 n9 C9 l9 l6):=V (by rw[f4,n5,f9,g4];exact HP.o)
   have u4:=V (show l0=(foundN p0 txs).1.1∧l9=(foundN p0 txs).1.2∧l6=(foundN p0 txs).2∧k9=areaN (X.h.area - X.used) X.parts from⟨f4,n5,f9,g4⟩)
   clear f4 n5 f9 g4 d8 HP
   have e9:sb≠ab:=Zs a0.o.s a0.o.a (by decide)
   have x7:sb≠kb:=Zs a0.o.s a0.o.k (by decide)
   have x4:ab≠kb:=Zs a0.o.a a0.o.k (by decide)
   obtain⟨d0,d1⟩:=Zg a0.o.s
   have d2:=Zf a0.o.a
   have d3:=Zf a0.o.k
   have f0:W.frozen? ⟨sb,0,none⟩=false:=Zb a0.o.s
   have f1:W.frozen? ⟨sb,1,none⟩=false:=Zb a0.o.s
   have f2:W.frozen? ⟨ab,0,none⟩=false:=Zb a0.o.a
   have f3:W.frozen? ⟨kb,0,none⟩=false:=Zb a0.o.k
   go_region
   go_wp2
   obtain⟨q1,q2⟩:=a0.o.setS (ev':=l0) a0.o.m a0.o.fine a0.o.ev
   have q3:=((q1.setA k9).setK l6).kept0 ((Upd.refl (fun _=>False) _).drew)
   obtain⟨W2,r7⟩: ∃W2,W2=((((W.setCell ⟨sb,0,none⟩ (.int .u64 l0)).setCell ⟨sb,1,none⟩ (.map (some b9))).setCell ⟨ab,0,none⟩ (.int .i64 k9)).setCell ⟨kb,0,none⟩ (.bool l6)).drew:=⟨_,rfl⟩
   rw[←r7] at q3 ⊢
   have q0:Upd (fun k=>k=ab∨k=sb∨k=kb) W W2:=by
    rw[r7]
    exact(((q2.mono (F:=fun k=>k=sb) (fun _ _ e=>.inr (.inl e))).trans ((Zd _ ab 0 _).mono (F:=fun k=>k=ab) (fun _ _ e=>.inl e))).trans ((Zd _ kb 0 _).mono (F:=fun k=>k=kb) (fun _ _ e=>.inr (.inr e)))).drew
   have t0:W2.heap[w9.heap.size]?=some (.deferred (some [])):=(q0.block _ (Za HK.o) (fun e=>by have h1:=Za a0.o.a;have:=Za a9.o.a;have:=Za a9.o.s;have:=Za a9.o.k;omega)).trans HK.o
   refine⟨by simp,.inl ⟨_,_,rfl,run_takeDeferred t0,?_⟩⟩
   have hF: ∀k o,W2.heap[k]?=some o→(o.isCells=true∨ ∃es c,o=.map es c)→ ¬k=w9.heap.size:=by
    rintro k o ho hc rfl
    rw[t0] at ho
    injection ho with ho
    subst ho
    rcases hc with hc | ⟨es,c,hc⟩<;> cases hc
   have d5:Upd (fun k=>k=w9.heap.size) W2 (W2.putObj w9.heap.size (.deferred none)):=(Zd5 (.deferred none)).mono (F:=fun k=>k=w9.heap.size) n3Z
   have q4:=q3.keptU d5 hF
   refine⟨_,Zj4 (fn:=Tryz.f100) rfl rfl rfl rfl (Zl9 q4.s) (Zph q4.a) (Zpg q4.k),?_⟩
   obtain⟨e1,e2,e3,e4⟩:=u4.o
   rw[←e1,←e2,←e3,←e4]
   refine⟨b9,n9,C9,rfl,q4.m,q4.fine,q4.ev,by have:=k6.o;have:=w0.o;omega,o8.o,o4.o,?_⟩
   exact((a5.o.step d7.o (fun k hk e=>by have:=g6.o;omega)).step q0 (fun k hk e=>by have:=g6.o;omega)).step d5 (fun k hk e=>by have:=a5.o.size;omega)
end
section
open Go.RowKit Go.Shelf
def OpenedAns (w:World)(p N K:Nat)(X:Lg)(F:Nat→Prop)(p0:List Int)(txs:List (List Int))(e:Ending)(w':World):Prop:=
 ∃r q b n C D' G' F',e=.returned (.tuple #[.pointer (some ⟨r,0,none⟩),.int .i64 0])∧
  RegMem w' r q p (foundN p0 txs).1.1 b n C (foundN p0 txs).1.2 (areaN (X.h.area - X.used) X.parts) X.on D' G' F'∧WalG w' q p X.on D' G' F' N (K+1002000)∧LawD X.on (X.h.turn+1) D'.S∧(foundN p0 txs).1.2.Fine∧
  (0≤(foundN p0 txs).1.1∧(foundN p0 txs).1.1≤4611686018427387904)∧n≤48+48 * X.parts.length∧(∀k,G' k→w.heap.size≤k)∧(∀k,F' k→F k∨w.heap.size≤k)∧w.heap.size≤r∧w.heap.size≤b∧(∀k,C k→w.heap.size≤k)∧Upd F w w'
theorem Znv {N K:Nat}{τ:Int}{p0:List Int}{txs:List (List Int)}(w:World)(hD:Dsk w p D F)(h:LawD X τ D.S)(hg:D.Good N)(hok:D.Ok K)(hK:K≤1000000000)(hN:2+2 * X.h.area≤N)(ht:X.h.turn<1073741824)(hτ:τ≤X.h.turn+1)
  (hX:X.parts=p0 :: txs) (hfo:(foundN p0 txs).2=true):
  Calls Tryz.prog 35 #[.pointer (some ⟨p,0,none⟩)] w (OpenedAns w p N K X F p0 txs):=by
 have HC:=V (Zpp w hD h hg hok hK hN ht hτ)
 have b3:=V hX;have b9:=V hfo
 clear hD h hg hok hK hN ht hτ hX hfo
 go_enter Tryz.func35,Tryz.ntmps35
 go_wp2_with (go_at_call 61;fail)
 refine HC.o.mono ?_
 rintro e w1 ⟨q,D',G',F',rfl,h1,h2,h3,h4,h5⟩
 have H1:=V h1;have H2:=V h2;have H3:=V h3;have H4:=V h4;have H5:=V h5
 clear h1 h2 h3 h4 h5 HC
 simp only[]
 go_wp2_with (go_at_call 100;fail)
 refine(Zhn w1 H1.o.wal.1 H1.o.ok (p0:=p0) (txs:=txs) (by rw[←b3.o];rfl)).mono ?_
 rintro e w2 ⟨b,n,C,rfl,hm,hf,a4,hn,hb,hc,hu⟩
 obtain⟨s9,a2⟩: ∃s,s=foundN p0 txs:=⟨_,rfl⟩
 have b0:s9.2=true:=by rw[a2];exact b9.o
 obtain⟨a8,a1⟩: ∃x,x=areaN (X.on.h.area - X.on.used) X.on.parts:=⟨_,rfl⟩
 rw[←a2] at hm hf a4
 rw[←a2,←a1]
 have b7:=V a2;have b8:=V (show a8=areaN (X.h.area - X.used) X.parts from a1)
 obtain⟨⟨a6,l9⟩,c2⟩:=s9
 simp only at hm hf a4 b0
 subst b0
 have HM:=V hm;have HF:=V hf;have b6:=V a4;have HN:=V hn;have HB:=V hb;have HC:=V hc;have HU:=V hu
 have HD:=V (show Dsk w1 p D' F' from H1.o.wal.2.1)
 clear hm hf a4 hn hb hc hu a2 a1
 simp only[]
 obtain⟨w3,a3⟩: ∃w3,w3=(w2.alloc (.cells #[.int .u64 a6,.map (some b)] 167)).alloc (.cells #[.pointer (some ⟨q,0,none⟩),.int .u64 a6,.map (some b),.int .i64 a8] 172):=⟨_,rfl⟩
 have a9:U0 w2 w3:=by rw[a3];exact((Upd.refl _ w2).alloc _).alloc _
 have b1:RegAt w3 (w2.heap.size+1) (.pointer (some ⟨q,0,none⟩)) a6 (.map (some b)) a8:=by
  unfold RegAt
  rw[a3]
  exact Zc (by simp)
 have b5:=V a3;have b2:=V a9;have b4:=V b1
 clear a3 a9 b1
 go_wp2
 go_returns
 rw[←b5.o]
 unfold OpenedAns
 rw[←b7.o]
 rw[←b8.o]
 have c1:=HU.o.size
 have a0:=HU.o.trans b2.o
 have a5:=H1.o.wal.1.lt
 have a7:=HD.o.lt
 have c0:=H5.o.size
 refine⟨w2.heap.size+1,q,b,n,C,D',G',F',rfl,⟨b4.o,HM.o.kept0 b2.o,⟨H1.o.wal.1.kept' a0,HD.o.kept a0 n3Z,H1.o.wal.2.2⟩,⟨fun e=>by have:=a5 _ e;omega,fun e=>by have:=a7 _ e;omega⟩,⟨fun e=>by have:=a5 _ e;have:=HB.o;omega,fun e=>by have:=a7 _ e;have:=HB.o;omega⟩,fun k hk=>⟨fun e=>by have:=a5 _ e;have:=HC.o k hk;omega,fun e=>by have:=a7 _ e;have:=HC.o k hk;omega⟩⟩,
  H1.o.kept a0 n3Z n3Z,H2.o,HF.o,b6.o,HN.o,H3.o,H4.o,by omega,by have:=HB.o;omega,fun k hk=>by have:=HC.o k hk;omega,H5.o.trans (a0.mono (F:=fun _=>False) (fun _ _ e=>e.elim))⟩
theorem Zq5 {N K:Nat}{b:List Int}(h:WalG w q p X D G F N K)(hp:X.parts.length<1000)(hb:Bytes b)(hl:b.length≤40000)(hr:X.used+secsN b.length≤X.h.area):
  D.laysE (X.apS b hb)=0∧ ∀{w':World} {G' F':Nat→Prop},Wal w' q p (X.add b) (D.lays (X.apS b hb)) G' F'→WalG w' q p (X.add b) (D.lays (X.apS b hb)) G' F' N (K+2000):=by
 have ha:=h.ok.area
 have hN:0<N:=by have:=h.fits;omega
 obtain⟨g1,g2⟩:=h.good.lays (X.apS b hb) hN (Zb5 hb (by omega) h.fits)
 have a1:=Zbh hl
 have a0:=Dk.lays_ok (partSc X.h (X.h.number+X.parts.length) (X.h.place+X.used) false b hb) h.dok
 rw[Yk] at a0
 exact⟨g1,fun h1=>⟨h1,h.ok.add hb hl hr hp,h.unbroken,g2,Dk.Ok.mono a0 (by omega),h.fits⟩⟩
def wqX:SetV:=⟨{data:=#[107]},false,true,[],[7]⟩
def wqB:BatchV:=⟨3,false,[wqX]⟩
def wqL:KV:=[({data:=#[107]},[7])]
theorem Zj9:wqB.right=true:=by decide
theorem Zse:wqB.Ok:=⟨by show(0:Int)≤3∧(3:Int)≤18446744073709551615;omega,fun x hx=>by
 simp only[wqB,List.mem_singleton] at hx
 subst hx
 exact⟨fun y hy=>by simp[wqX] at hy,fun y hy=>by simp[wqX] at hy;omega⟩⟩
theorem Zka:(encF wqB).length=19:=by decide
theorem Zsf:doE 0 [] wqB=0:=by decide
theorem Zq0:KV.withs [] wqB.sets=wqL:=by rfl
theorem Zsm:Z2 0 20 [] ⟨fmtH 20,[[]],1,false⟩ wqB=.app:=by
 unfold Z2
 rw[if_neg (by decide),if_neg (by rw[Zj9];decide),if_neg (by rw[Zsf];decide),if_neg (by decide),if_neg (by decide),if_pos (by rw[Zka];decide)]
theorem Zkc:foundN [] [encF wqB]=((3,wqL),true):=by
 have h1:decF (encF wqB)=(wqB,0):=Zto Zj9 Zse
 have h2:Yb []=((0,[]),true):=by unfold Yb;rw[if_pos rfl]
 show playN (Yb []) (encF wqB)=_
 rw[h2]
 unfold playN playS playK
 rw[h1]
 have hc:((wqB,(0:Int)).2=0∧doE ((((0:Int),([]:KV)),true):(Int×KV)×Bool).1.1 ((((0:Int),([]:KV)),true):(Int×KV)×Bool).1.2 (wqB,(0:Int)).1=0):=⟨rfl,Zsf⟩
 rw[if_pos hc,decide_eq_true hc]
 show((wqB.epoch,KV.withs [] wqB.sets),true && true)=_
 rw[Zq0]
 rfl
theorem Zsn:KV.Fine wqL:=⟨by simp[wqL,KV.Rising],by simp[wqL],fun p hp=>by
 simp only[wqL,List.mem_singleton] at hp
 subst hp
 exact⟨by decide,by decide,by simp,fun y hy=>by simp at hy;omega⟩⟩
theorem Zkb:KV.get wqL {data:=#[107]}=some [7]:=by rfl
def wqB2:BatchV:=⟨2,false,[]⟩
theorem Zq1 (hb:X.broken=false):Z2 3 area wqL X wqB2=.no 300:=by
 unfold Z2
 rw[if_neg (by rw[hb];decide),if_neg (by decide),if_pos (by decide)]
 rfl
theorem Ztw (w:World):Calls Tryz.prog 13 #[.int .i64 42] w fun e w'=> ∃F,e=.returned (.tuple #[.pointer (some ⟨w.heap.size+1,0,none⟩),.int .i64 0])∧Dsk w' (w.heap.size+1) (Dk.new 42) F∧(∀k,F k→w.heap.size≤k)∧U0 w w'∧(Dk.new 42).Good 42∧(Dk.new 42).Ok 0:=Zcv 42 w (by omega)
theorem Zoz (w:World)(hD:Dsk w p D F)(hg:D.Good 42)(hok:D.Ok 0):
  Calls Tryz.prog 47 #[.pointer (some ⟨p,0,none⟩),.int .i64 20] w fun e w'=> ∃r b q G' F',e=.returned (.tuple #[.pointer (some ⟨r,0,none⟩),.int .i64 0])∧RegMem w' r q p 0 b 0 (fun _=>False) [] 20 ⟨fmtH 20,[[]],1,false⟩ (fmtD D 20 3) G' F'∧
   WalG w' q p ⟨fmtH 20,[[]],1,false⟩ (fmtD D 20 3) G' F' 42 20000∧(∀k,G' k→w.heap.size≤k)∧(∀k,F' k→F k∨w.heap.size≤k)∧w.heap.size≤r∧Upd F w w':=by
 refine(Zfd (area:=20) (N:=42) (K:=0) w hD hg hok (by omega) (by omega) (by omega)).mono ?_
 rintro e w' ⟨r,b,q,G',F',rfl,h1,h2,h3,h4,h5,h6,h7,h8,h9,a0⟩
 refine⟨r,b,q,G',F',rfl,⟨h1,⟨h2,List.Pairwise.nil,fun x hx=>by cases hx⟩,h3.wal,⟨fun e=>by have:=h9 _ e;omega,fun e=>by have:=a0 _ e;omega⟩,⟨fun e=>by have:=h9 _ e;omega,fun e=>by have:=a0 _ e;omega⟩,fun k hk=>hk.elim⟩,?_,h4,h5,by omega,h6⟩
 exact h3
def WkAns (w:World)(r q p:Nat)(D:Dk)(G F:Nat→Prop)(e:Ending)(w':World):Prop:=
 e=.returned (.int .i64 0)∧ ∃D' F' X',Dsk w' p D' F'∧D'.Good 42∧D'.Ok 22000∧LawD X' 1 D'.S∧X'=(⟨fmtH 20,[[]],1,false⟩:Lg).add (encF wqB)∧(∀k,F' k→F k∨w.heap.size≤k)∧Upd (fun k=>G k∨F k∨k=r) w w'
theorem Zo0 (w:World)(hm:RegMem w r q p 0 b n C [] 20 ⟨fmtH 20,[[]],1,false⟩ D G F)(hw:WalG w q p ⟨fmtH 20,[[]],1,false⟩ D G F 42 20000)(hl:LawD (fmtX 20) 1 D.S)(hn:n≤1000000)(hs:SetsIn w a wqB.sets)(hal: ∀b o,a=some ⟨b,o,none⟩→b<w.heap.size):
  Calls Tryz.prog 31 #[.pointer (some ⟨r,0,none⟩),.agg #[.int .u64 3,.bool false,.slice a 1 c]] w (WkAns w r q p D G F):=by
 have hc:=Zeu (c:=c) (B:=wqB) w hm hw.ok (by simp) hw.dok (by omega) hn KV.Fine.nil (by omega) (by omega) hs (by simp[wqB]) Zse hal
 refine hc.mono ?_
 intro e w' h
 unfold CommitAns at h
 rw[Zsm] at h
 obtain⟨hb,h⟩:=h
 have a0:=Zka
 have hr:(⟨fmtH 20,[[]],1,false⟩:Lg).refuses (encF wqB).length (⟨fmtH 20,[[]],1,false⟩:Lg).used=0:=by rw[a0];decide
 have a1:(⟨fmtH 20,[[]],1,false⟩:Lg).used+secsN (encF wqB).length≤(⟨fmtH 20,[[]],1,false⟩:Lg).h.area:=by rw[a0];decide
 obtain⟨g1,g2⟩:=Zq5 hw (by simp) hb (by rw[a0];omega) a1
 rcases h with ⟨h,_⟩ | ⟨_,rfl,a3,b',n',C',l',G',F',h1,_,_,_,_,_,_,h8,h9⟩
 ·exact absurd hr h
 ·rw[g1] at h1
  rw[Lg.after,if_pos rfl] at h1
  have a2:=g2 h1.wal
  refine⟨by rw[g1],_,F',_,h1.wal.2.1,a2.good,a2.dok,?_,rfl,h8,h9⟩
  exact Ztd hl hw.good (by show(2:Int)+2 * 20≤(42:Nat);decide) hb (by rw[a0];omega) a1 (by show(1:Int)+(1:Nat)+1≤2000000000;decide)
theorem Zso (w:World)(hD:Dsk w p D F)(hg:D.Good 42)(hok:D.Ok 22000)(hl:LawD ((⟨fmtH 20,[[]],1,false⟩:Lg).add (encF wqB)) 1 D.S):
  Calls Tryz.prog 35 #[.pointer (some ⟨p,0,none⟩)] w fun e w'=> ∃r q b n C X D' G' F',e=.returned (.tuple #[.pointer (some ⟨r,0,none⟩),.int .i64 0])∧RegMem w' r q p 3 b n C wqL 20 X D' G' F'∧WalG w' q p X D' G' F' 42 1024000∧n≤1000∧X.parts.length<1000∧Upd F w w':=by
 have hp:((⟨fmtH 20,[[]],1,false⟩:Lg).add (encF wqB)).parts=[] :: [encF wqB]:=rfl
 refine(Znv (N:=42) w hD hl hg hok (by omega) (by show(2:Int)+2 * 20≤(42:Nat);decide) (by show(1:Int)<1073741824;decide) (by show(1:Int)≤1+1;decide) hp (by rw[Zkc])).mono ?_
 rintro e w' ⟨r,q,b,n,C,D',G',F',rfl,h1,h2,h3,h4,h5,h6,h7,h8,h9,a4,a5,a3⟩
 rw[Zkc] at h1
 have a2:areaN (((⟨fmtH 20,[[]],1,false⟩:Lg).add (encF wqB)).h.area - ((⟨fmtH 20,[[]],1,false⟩:Lg).add (encF wqB)).used) ((⟨fmtH 20,[[]],1,false⟩:Lg).add (encF wqB)).parts=20:=by
  have a0:=Zka
  rw[hp]
  show areaN (20 - (1+(secsN (encF wqB).length:Int))) [[],encF wqB]=20
  simp only[areaN,List.foldl]
  rw[a0]
  decide
 rw[a2] at h1
 have a1:((⟨fmtH 20,[[]],1,false⟩:Lg).add (encF wqB)).parts.length=2:=rfl
 rw[a1] at h6
 exact⟨r,q,b,n,C,_,D',G',F',rfl,h1,h2,by omega,by show(2:Nat)<1000;omega,a3⟩
theorem Zo3 (w:World):Calls Tryz.prog 18 #[] w fun e w'=>e=.returned (.bool true)∧U0 w w':=by
 go_enter Tryz.func18,Tryz.ntmps18
 go_wp2_with (go_at_call 13;fail)
 refine(Ztw w).mono ?_
 rintro e w1 ⟨F,rfl,hD,hF,hu,hg,d0⟩
 have HD:=V hD;have HF:=V hF;have c9:=V hu;have HG:=V hg;have b2:=V d0
 obtain⟨p,hp⟩: ∃p,p=w.heap.size+1:=⟨_,rfl⟩
 have HP:=V hp
 rw[←hp] at HD ⊢
 clear hD hF hu hg d0 hp
 simp only[]
 go_wp2_with (go_at_call 47;fail)
 refine(Zoz w1 HD.o HG.o b2.o).mono ?_
 rintro e w2 ⟨r,b,q,G2,F2,rfl,h1,h2,h3,h4,h5,h6⟩
 have HL:=V (Ztc HG.o (area:=20) (by omega) (by omega))
 have d9:=V h1;have b9:=V h2;have b6:=V h3;have b0:=V h4;have f2:=V h5
 have e4:=V (show U0 w w2 from c9.o.step h6 (fun k hk e=>by have:=HF.o k e;omega))
 have b3:=V (show w.heap.size≤w1.heap.size from c9.o.size)
 clear h1 h2 h3 h4 h5 h6 HD b2
 simp only[]
 go_wp2_with (go_at_call 31;fail)
 obtain⟨w3,a2⟩: ∃w3,w3=(w2.alloc (.cells #[.int .u8 7] 5)).alloc (.cells #[.string {data:=#[107]},.bool false,.bool true,.slice none 0 0,.slice (some ⟨w2.heap.size,0,none⟩) 1 1] 73):=⟨_,rfl⟩
 rw[←a2]
 have a5:U0 w2 w3:=by rw[a2];exact((Upd.refl _ w2).alloc _).alloc _
 have a9:w3.heap[w2.heap.size+1]?=some (.cells #[.string {data:=#[107]},.bool false,.bool true,.slice none 0 0,.slice (some ⟨w2.heap.size,0,none⟩) 1 1] 73 (0,0)):=by rw[a2];exact Zc (by simp)
 have b7:BytesIn w3 (.slice (some ⟨w2.heap.size,0,none⟩) 1 1) [7]:=by rw[a2];exact(Zfo w2 7).kept ((Upd.refl (fun _=>False) _).alloc _)
 have c6:SetsIn w3 (some ⟨w2.heap.size+1,0,none⟩) wqB.sets:=by
  intro i x hx
  have hi:i=0:=by
   have:=(List.getElem?_eq_some_iff.1 hx).1
   simp[wqB] at this
   exact this
  subst hi
  simp[wqB] at hx
  subst hx
  obtain⟨c0,c1,c2,c3,c4⟩:=Zu a9
  refine⟨by decide,by decide,by decide,w2.heap.size+1,0,rfl,none,0,some ⟨w2.heap.size,0,none⟩,1,c0,c1,c2,c3,c4,.inl ⟨rfl,rfl⟩,b7,fun y hy=>by simp[wqX] at hy,fun y hy=>by simp[wqX] at hy;omega⟩
 have d2: ∀b o,(some (⟨w2.heap.size+1,0,none⟩:Addr))=some ⟨b,o,none⟩→b<w3.heap.size:=fun b o e=>by
  injection e with e
  injection e with e
  subst e
  exact Za a9
 have e1:=V (Zo0 (c:=1) w3 (d9.o.kept0 a5) (b9.o.kept a5 n3Z n3Z) HL.o (by omega) c6 d2)
 have e6:=V a5
 clear a2 a5 a9 b7 c6 d2
 refine e1.o.mono ?_
 rintro e w4 ⟨rfl,D4,F4,X4,d1,d6,e2,c5,rfl,c7,b4⟩
 have a3:U0 w w4:=(e4.o.trans e6.o).step b4 (fun k hk e=>by
  have h1:=b3.o
  rcases e with e | e | e
  ·have:=b6.o k e;omega
  ·rcases b0.o k e with e | e
   ·have:=HF.o k e;omega
   ·omega
  ·have:=f2.o;omega)
 have a4: ∀k,F4 k→w.heap.size≤k:=fun k hk=>by
  have h1:=b3.o
  rcases c7 k hk with e | e
  ·rcases b0.o k e with e | e
   ·have:=HF.o k e;omega
   ·omega
  ·have:=(e4.o.trans e6.o).size;omega
 have c8:=V d1;have e5:=V d6;have d8:=V e2;have d3:=V c5;have e9:=V a4;have f3:=V a3
 clear d1 d6 e2 c5 c7 b4 a3 a4 e1 d9 b9 HL b6 b0
 simp only[]
 go_wp2_with (go_at_call 35;fail)
 refine(Zso w4 c8.o e5.o d8.o d3.o).mono ?_
 rintro e w5 ⟨r5,q5,b5,n5,C5,X5,D5,G5,F5,rfl,h1,h2,f4,f1,d7⟩
 have a7:=V h1;have d4:=V h2
 have f0:=V (show U0 w w5 from f3.o.step d7 (fun k hk e=>by have:=e9.o k e;omega))
 clear h1 h2 d7 c8 e5 d8 d3
 simp only[]
 go_wp2_with (go_at_call 34;fail)
 refine(Ze7 (s:={data:=#[107]}) w5 a7.o.reg a7.o.map.1 (by decide) (by rw[Zkb];decide)).mono ?_
 rintro e w6 ⟨u,rfl,a0,a6⟩
 rw[Zkb] at a0
 have a0:OwnB w6 w5.heap.size u [7]:=a0
 have b8:=a7.o.kept0 a6
 obtain⟨g,o,c,rfl,e0⟩: ∃g o c,u=.slice (some ⟨g,o,none⟩) 1 c∧w6.cell? ⟨g,o,none⟩=some (.int .u8 7):=by
  rcases a0.bytesAt.1 with ⟨_,h⟩ | ⟨g,o,c,_,h1,_,_,h4⟩
  ·cases h
  ·exact⟨g,o,c,h1,h4 0 _ rfl⟩
 have a8:=V b8
 have b1:=V (d4.o.kept a6 n3Z n3Z)
 have e7:=V (f0.o.trans a6)
 have a1:(KV.get wqL {data:=#[107]}).isSome=true:=by rw[Zkb];rfl
 rw[a1]
 clear a0 a6 b8 a1 a7 d4
 simp only[]
 go_wp2_with (go_at_call 36;fail)
 refine(Zjn w6 a8.o.reg).mono ?_
 rintro e w7 ⟨rfl,rfl⟩
 simp only[]
 go_wp2_with (go_at_call 46;fail)
 refine(Zlx w6 a8.o.reg).mono ?_
 rintro e w7 ⟨rfl,rfl⟩
 simp only[]
 go_wp2_with (go_at_call 31;fail)
 have e3:Calls Tryz.prog 31 #[.pointer (some ⟨r5,0,none⟩),.agg #[.int .u64 2,.bool false,.slice none 0 0]] w6 _:=Zeu (c:=0) (a:=none) (B:=wqB2) w6 a8.o b1.o.ok f1 b1.o.dok (by omega) (by omega) Zsn (by omega) (by omega) (fun i x hx=>by simp[wqB2] at hx) (by simp[wqB2]) ⟨by show(0:Int)≤2∧(2:Int)≤18446744073709551615;omega,fun x hx=>by simp[wqB2] at hx⟩ (fun b o e=>by cases e)
 refine e3.mono ?_
 intro e w7 h
 unfold CommitAns at h
 rw[Zq1 b1.o.unbroken] at h
 obtain⟨rfl,d5⟩:=h
 have e8:=V (e7.o.trans d5)
 clear d5 e3
 simp only[]
 go_wp2
 go_ret
 exact⟨rfl,e8.o⟩
/-! ### The whole of a state, played, is the state -/
theorem KV.del_none (h: ∀p∈l,p.1≠s):l.del s=l:=by
 unfold KV.del
 rw[List.filter_eq_self]
 intro p hp
 simp[h p hp]
theorem Zsx (h:n≤40000):secsI n=(secsN n:Int):=by
 unfold secsI secsN
 split<;> omega
theorem Zpz {lg:Value}(w:World)(h:RegAt w r lg ev (.map (some b)) area)(hm:MapKV w b n C l)(hl:l.length≤1000):
  Calls Tryz.prog 37 #[.pointer (some ⟨r,0,none⟩)] w fun e w'=> ∃v,e=.returned v∧w'.ownsRow w.heap.size 9 1 v l.length (l.map fun p=>.string p.1)∧U0 w w':=by
 have c2:w.cell? ⟨r,2,none⟩=some (.map (some b)):=by rw[Zr h];rfl
 have HM:=V hm;have HL:=V hl
 clear h hm hl
 go_enter Tryz.func37,Tryz.ntmps37
 go_wp2_with (go_at_call 102;fail)
 refine(Zla (some b) w).mono ?_
 rintro e w2 ⟨rfl,rfl⟩
 simp only[]
 go_wp2_with (go_at_call 101;fail)
 refine(Zhk w HM.o HL.o).mono ?_
 rintro e w3 ⟨v,rfl,a0,a2⟩
 have a1:=V a0;have a3:=V a2
 obtain⟨sa,sc,rfl⟩:=rowV a0
 clear a0 a2
 simp only[]
 go_wp2
 go_ret
 exact⟨_,rfl,a1.o,a3.o⟩
def vC (y:(ByteArray×List Int)×Value):List Value:=[.string y.1.1,y.2]
theorem Zco (y:(ByteArray×List Int)×Value):(vC y).length=2:=rfl
theorem Zki (L:List ((ByteArray×List Int)×Value)):(L.flatMap vC).length=2 * L.length:=by
 induction L with
 |nil=>rfl
 |cons y L ih=>simp[ih,Zco];omega
theorem Zkj: ∀(L:List ((ByteArray×List Int)×Value)) (i j:Nat) (y:(ByteArray×List Int)×Value),L[i]?=some y→j<2→(L.flatMap vC)[i * 2+j]?=(vC y)[j]?
 | [],i,j,y,h,_=>by simp at h
 |z :: L,0,j,y,h,hj=>by
  simp at h
  subst h
  rw[List.flatMap_cons,Nat.zero_mul,Nat.zero_add,List.getElem?_append_left (by rw[Zco];exact hj)]
 |z :: L,i+1,j,y,h,hj=>by
  rw[List.flatMap_cons,List.getElem?_append_right (by rw[Zco];omega),Zco]
  rw[show(i+1) * 2+j - 2=i * 2+j by omega]
  exact Zkj L i j y (by simpa using h) hj
def ValRow (w:World)(B:Nat)(C:Nat→Prop)(sv:Value)(l:KV):Prop:= ∃L:List ((ByteArray×List Int)×Value),L.map (·.1)=l∧w.ownsRow B 164 2 sv l.length (L.flatMap vC)∧ ∀y∈L,BytesAt w C y.2 y.1.2
theorem ValRow.nil (w:World)(B:Nat)(C:Nat→Prop):ValRow w B C (.slice none 0 0) []:=⟨[],rfl,⟨by simp,.inl ⟨rfl,rfl⟩⟩,fun y hy=>by simp at hy⟩
theorem ValRow.kept (h:ValRow w B C sv l)(hu:Upd F w w')(hv: ∀k,sv.ownBlock=some k→ ¬F k)(hc: ∀k,C k→ ¬F k):ValRow w' B C sv l:=by
 obtain⟨L,h0,h1,h2⟩:=h
 exact⟨L,h0,Zy h1 hu hv,fun y hy=>(h2 y hy).kept hu hc⟩
def ValsAt (w:World)(C:Nat→Prop)(a:Option Addr)(l:KV):Prop:= ∀i p,l[i]?=some p→ ∃g v,a=some ⟨g,0,none⟩∧w.cell? ⟨g,i * 2,none⟩=some (.string p.1)∧w.cell? ⟨g,i * 2+1,none⟩=some v∧BytesAt w C v p.2
theorem ValRow.valsAt (h:ValRow w B C (.slice a n c) l):ValsAt w C a l:=fun i x hx=>by
 obtain⟨L,rfl,h1,h2⟩:=h
 simp only[List.getElem?_map,Option.map_eq_some_iff] at hx
 obtain⟨y,hy,rfl⟩:=hx
 have k1:=h2 y (List.mem_of_getElem? hy)
 rcases h1.2 with ⟨_,h4⟩ | ⟨g,cap,cur,e,hb,hg,m1,m2,m3,m4⟩
 ·have:=(List.getElem?_eq_some_iff.1 hy).1
  simp at h4
  subst h4
  simp at this
 ·injection e with e3 e4 e5
  subst e3
  have hc: ∀j,j<2→w.cell? ⟨g,i * 2+j,none⟩=(vC y)[j]?:=fun j hj=>by
   have:=World.ownsRow.cells h1 rfl (i * 2+j) ((vC y)[j]'(by rw[Zco];exact hj)) (by rw[Zkj L i j y hy hj,List.getElem?_eq_getElem])
   rw[Addr.add_mid,Nat.zero_add] at this
   rw[this,List.getElem?_eq_getElem]
  exact⟨g,y.2,rfl,hc 0 (by omega),hc 1 (by omega),k1⟩
theorem ValRow.block164 (h:ValRow w B C sv l)(hk:sv.ownBlock=some k): ∃cs,w.heap[k]?=some (.cells cs 164 (0,0)):=by
 obtain⟨L,_,h1,_⟩:=h
 rcases h1.2 with ⟨e,_⟩ | ⟨g,a1,a0,e,_,hg,_⟩
 ·rw[e] at hk
  simp[Value.ownBlock] at hk
 ·rw[e] at hk
  simp only[Value.ownBlock,Option.some.injEq] at hk
  subst hk
  exact⟨_,hg⟩
theorem Tryz.info164p:(Tryz.prog.info? 164).map (fun i=>(i.zero,i.size,i.bytes))=some (some (.agg #[.string ⟨#[]⟩,.slice none 0 0]),2,40):=by kernel_rfl
theorem ValsAt.kept (h:ValsAt w C a l)(hu:Upd F w w')(ha: ∀g o,a=some ⟨g,o,none⟩→ ¬F g)(hc: ∀k,C k→ ¬F k):ValsAt w' C a l:=fun i p hp=>by
 obtain⟨g,v,e,h1,h2,h3⟩:=h i p hp
 exact⟨g,v,e,Zo hu (ha g 0 e) h1,Zo hu (ha g 0 e) h2,h3.kept hu hc⟩
theorem ValsAt.kept0 (h:ValsAt w C a l)(hu:U0 w w'):ValsAt w' C a l:=h.kept hu (fun _ _ _ e=>e) n3Z
theorem KV.get_first {p:ByteArray×List Int}(hp:l[k]?=some p)(he:p.1=s)(hn: ∀i q,i<k→l[i]?=some q→q.1≠s):l.get s=some p.2:=by
 induction l generalizing k with
 |nil=>simp at hp
 |cons q l ih=>
  unfold KV.get
  cases k with
  |zero=>
   simp at hp
   subst hp
   simp[he]
  |succ k=>
   have h1:=hn 0 q (by omega) rfl
   rw[List.find?_cons_of_neg (by simpa using h1)]
   exact ih (by simpa using hp) (fun i q hi hq=>hn (i+1) q (by omega) (by simpa using hq))
theorem KV.get_no (hn: ∀(i:Nat) (q:ByteArray×List Int),l[i]?=some q→q.1≠s):l.get s=none:=by
 unfold KV.get
 rw[Option.map_eq_none_iff,List.find?_eq_none]
 intro q hq
 obtain⟨i,hi⟩:=List.mem_iff_getElem?.1 hq
 simpa using hn i q hi
theorem Zna (w:World)(h:ValsAt w C a l)(hl:l.length≤1000):
  Calls Tryz.prog 32 #[.slice a l.length c,.string s] w fun e w'=> ∃v,e=.returned (.tuple #[v,.bool (l.get s).isSome])∧BytesAt w' C v ((l.get s).getD [])∧U0 w w':=by
 have HV:=V h
 clear h
 go_enter Tryz.func32,Tryz.ntmps32
 go_upto_block 0 with fail
 go_upto_region 2 with fail
 go_loopg [10] l.length (fun gk i wr=> ∃k:Nat,k≤l.length∧gk=l.length - k∧i=.int .i64 k∧(∀i q,i<k→l[i]?=some q→q.1≠s)∧U0 w wr)
 case atStart=>exact⟨0,Nat.zero_le _,rfl,rfl,fun i q hi=>by omega,Upd.refl _ _⟩
 case round=>
  obtain⟨k,hk,rfl,rfl,hn,hu⟩:=hrel
  have HN:=V hn;have HU:=V hu
  have hv:=HV.o.kept0 hu
  clear hn hu
  by_cases a5:k<l.length
  ·have a8:(k:Int)<l.length:=by omega
   obtain⟨p,hp⟩: ∃p,l[k]?=some p:=⟨_,List.getElem?_eq_getElem a5⟩
   obtain⟨g,v,rfl,y0,y1,hb⟩:=hv k p hp
   obtain⟨va,vc,rfl,_⟩:=hb.slice
   have HB:=V hb;have HP:=V hp
   clear hv hb hp
   go_upto_region 4 with fail
   obtain⟨wa,a2,a1,a4⟩:=nb wr (.cells #[.string p.1,.slice va p.2.length vc] 164)
   rw[←a2]
   obtain⟨z0,z1⟩:=Zg a4
   have a7:=V (HB.o.kept a1 n3Z);have a3:=V (HU.o.trans a1)
   clear a2 a1 a4 y0 y1
   have a6:IntKind.i64.wrap ((k:Int)+1)=(k:Int)+1:=by rw[IntKind.wrap_i64];omega
   by_cases he:p.1=s
   ·have a0:=KV.get_first HP.o he HN.o
    have HG:=V a0
    clear a0
    subst he
    go_wp2
    go_returns
    rw[HG.o]
    exact⟨_,rfl,a7.o,a3.o⟩
   ·have HE:=V he
    have a9:(p.1.toList == s.toList)=false:=by rw[toList_eq];exact decide_eq_false he
    go_wp2
    go_roundg (l.length - (k+1))
    case measure=>omega
    case rel=>exact⟨k+1,by omega,rfl,congrArg _ (by omega),fun i q hi hq=>by
     by_cases e:i=k
     ·subst e
      rw[HP.o] at hq
      injection hq with hq
      subst hq
      exact HE.o
     ·exact HN.o i q (by omega) hq,a3.o⟩
  ·obtain rfl:k=l.length:=by omega
   have a0:l.get s=none:=KV.get_no fun i q hq=>HN.o i q (List.getElem?_eq_some_iff.1 hq).1 hq
   have HG:=V a0
   clear a0
   go_wp2
   go_returns
   rw[HG.o]
   exact⟨_,rfl,.inl ⟨rfl,rfl⟩,HU.o⟩
theorem Zaj:(Tryz.prog.info? 62).map (·.size)=some 2:=by kernel_rfl
theorem ValRow.low {B':Nat}(h:ValRow w B C sv l)(hb:B'≤B):ValRow w B' C sv l:=by
 obtain⟨L,h0,h1,h2⟩:=h
 exact⟨L,h0,ownsRow_base_a h1 hb,h2⟩
theorem ValRow.low_own (h:ValRow w B C sv l)(hk:sv.ownBlock=some k):B≤k:=by
 obtain⟨L,h0,h1,h2⟩:=h
 exact(World.ownsRow.lt h1 k hk).1
def ToldAns (w:World)(ev:Int)(l:KV)(e:Ending)(w':World):Prop:= ∃a c C,e=.returned (.tuple #[.agg #[.int .u64 ev,.slice a l.length c],.bool true])∧ValRow w' w.heap.size C (.slice a l.length c) l∧(∀k,C k→w.heap.size≤k)∧RowC w' C∧U0 w w'
structure TlAt (w3:World) (sb:Nat) (ev:Int) (l:KV) (k:Nat) (W:World):Prop where
 out: ∃(a:Option Addr) (c:Nat) (C:Nat→Prop),W.heap[sb]?=some (.cells #[.int .u64 ev,.slice a k c] 62 (0,0))∧ValRow W w3.heap.size C (.slice a k c) (l.take k)∧(∀j,C j→w3.heap.size≤j)∧RowC W C
 upd:Upd (fun j=>j=sb) w3 W
theorem Zkk {lg:Value}(w:World)(h:RegAt w r lg ev (.map (some b)) area)(hm:MapKV w b n C l)(hl:l.Fine):
  Calls Tryz.prog 30 #[.pointer (some ⟨r,0,none⟩)] w (ToldAns w ev l):=by
 obtain⟨w1,f3,e2,k0⟩:=nb w (.cells #[.int .u64 0,.slice none 0 0] 62)
 have d2:w1.heap.size=w.heap.size+1:=by rw[f3];simp
 have i4:RegAt w1 r lg ev (.map (some b)) area:=_root_.Go.Proofs.YtbimkhdiplnbfaaGreat.kb e2 h
 have j9:=hm.kept0 e2
 have HR:=V i4;have HM:=V j9;have HL:=V hl;have j5:=V f3;have k6:=V e2;have j2:=V k0;have k2:=V d2
 have f7:=V (Za h);have f8:=V hm.lt;have h6:=V hm.1.rowC.lt
 clear h hm hl f3 e2 k0 d2 i4 j9
 go_enter Tryz.func30,Tryz.ntmps30
 go_upto_region 1 with fail
 rw[←j5.o]
 go_wp2_with (go_at_call 36;fail)
 refine(Zjn w1 HR.o).mono ?_
 rintro e w2 ⟨rfl,rfl⟩
 simp only[]
 go_wp2_with (go_at_call 37;fail)
 obtain⟨w2,f0,d5,i2⟩:=nb w1 (.cells #[.int .u64 ev,.slice none 0 0] 62)
 rw[←f0]
 have e0:w2.heap.size=w1.heap.size+1:=by rw[f0];simp
 refine(Zpz w2 (_root_.Go.Proofs.YtbimkhdiplnbfaaGreat.kb d5 HR.o) (HM.o.kept0 d5) (by have:=HL.o.len;omega)).mono ?_
 rintro e w3 ⟨v,rfl,b4,d8⟩
 obtain⟨sa,sc,rfl⟩:=rowV b4
 simp only[]
 have a7:=d5.trans d8
 have f6:=_root_.Go.Proofs.YtbimkhdiplnbfaaGreat.kb d8 i2
 have l3:=V f6
 have g8:=V (_root_.Go.Proofs.YtbimkhdiplnbfaaGreat.kb a7 j2.o)
 have d9:=V (_root_.Go.Proofs.YtbimkhdiplnbfaaGreat.kb a7 HR.o)
 have k1:=V (HM.o.kept0 a7)
 have l2:=V (k6.o.trans a7)
 have c7:=V b4
 have a4:=V (show w.heap.size<w1.heap.size∧w1.heap.size<w2.heap.size∧w2.heap.size≤w3.heap.size by have:=k2.o;have:=d8.size;omega)
 have HD:=V (show TlAt w3 w1.heap.size ev l 0 w3 from⟨⟨none,0,fun _=>False,f6,ValRow.nil _ _ _,fun _ e=>e.elim,fun _ e=>e.elim⟩,Upd.refl _ _⟩)
 obtain⟨sb,g7⟩: ∃sb,sb=w1.heap.size:=⟨_,rfl⟩
 obtain⟨tb,d6⟩: ∃tb,tb=w.heap.size:=⟨_,rfl⟩
 rw[←g7] at l3 a4 HD
 rw[←d6] at g8 a4 f7 f8 h6
 rw[←g7,←d6]
 have d7:=V d6
 clear f0 d5 i2 e0 b4 d8 a7 f6 g7 d6 j5 j2 k2 HR HM
 go_upto_block 0 with fail
 go_upto_region 3 with fail
 go_loopg [17] l.length (fun gk i wr=> ∃k:Nat,k≤l.length∧gk=l.length - k∧i=.int .i64 k∧TlAt w3 sb ev l k wr)
 case atStart=>exact⟨0,Nat.zero_le _,rfl,rfl,HD.o⟩
 case round=>
  obtain⟨k,hk,rfl,rfl,hd⟩:=hrel
  have HD:=V hd
  clear hd
  by_cases k3:k<l.length
  ·have k7:(k:Int)<l.length:=by omega
   obtain⟨p,hp⟩: ∃p,l[k]?=some p:=⟨_,List.getElem?_eq_getElem k3⟩
   have f2:=List.mem_of_getElem? hp
   have HP:=V hp
   have i5:=V (HL.o.each p f2)
   have a2:l.get p.1=some p.2:=(KV.get_some HL.o.rising).2 f2
   have a0:=HD.o.upd
   have b1:=Zy c7.o a0 (fun j hj e=>by have:=(World.ownsRow.lt c7.o j hj).1;have:=a4.o;omega)
   obtain⟨g,rfl,i8⟩:=Zg2 b1 (k:=k) (u:=.string p.1) (by rw[List.getElem?_map,hp];rfl)
   have a8:=k1.o.kept a0 (fun e=>by have:=f8.o;have:=a4.o;omega) (fun j hj e=>by have:=h6.o j hj;have:=a4.o;omega)
   have c1:RegAt wr r lg ev (.map (some b)) area:=(a0.block _ (Za d9.o) (fun e=>by have:=f7.o;have:=a4.o;omega)).trans d9.o
   have HV:=V (Ze7 (s:=p.1) wr c1 a8.1 (by have:=i5.o;unfold maxLen;omega) (by rw[a2];have:=i5.o;simp;omega))
   rw[a2] at HV
   simp only[Option.getD_some,Option.isSome_some] at HV
   clear f2 a2 a0 b1 a8 c1 hp
   go_wp2_with (go_at_call 34;fail)
   refine HV.o.mono ?_
   rintro e w4 ⟨u,rfl,g1,g2⟩
   obtain⟨va,vc,rfl⟩:=g1.slice'
   simp only[]
   obtain⟨la,lc,C0,c8,b9,d1,d3⟩:=HD.o.out
   have b3:=_root_.Go.Proofs.YtbimkhdiplnbfaaGreat.kb g2 c8
   have c4:=b9.kept g2 n3Z n3Z
   obtain⟨y0,y1⟩:=Zg b3
   have j0:=g1.bytesAt
   have j1:=V b3;have i1:=V c4;have k9:=V d1;have i9:=V (d3.kept g2 n3Z);have e6:=V j0;have g5:=V g2
   have e8:=V (show w3.heap.size≤wr.heap.size from HD.o.upd.size)
   clear b3 c4 j0 c8 b9 d1 d3 g1 g2 HV
   go_upto_region 8 with fail
   iterate 19 go_step
   obtain⟨L,i3,e7,j3⟩:=i1.o
   have j7:(l.take k).length=k:=by simp;omega
   rw[j7] at e7
   have e3:=e7.lt
   have m0:sb<w4.heap.size:=Za j1.o
   have g4:vC (p,.slice va p.2.length vc)=[.string p.1,.slice va p.2.length vc]:=rfl
   obtain⟨i0,j6,i7,d2,e0⟩:=info_parts Tryz.info164p
   refine wpList_append_lies _ rfl (.tmp 31) (.tmp 35) 60 rfl w3.heap.size 164 i0 _ 2 40 Tryz.underlying60 j6 i7 d2 e0 rfl (by omega) (.slice la k lc) _ _ rfl (e7.alloc _) ⟨w4.heap.size,0,none⟩ 1 1 (vC (p,.slice va p.2.length vc)) rfl
    rfl (World.news_of_block (cs:=(vC (p,.slice va p.2.length vc)).toArray) (t:=164) (fr:=(0,0)) (by rw[g4];exact heap_alloc_new _ _)) (by rw[g4];simp[Value.oneCell']) (by omega) (by unfold maxLen;have:=HL.o.len;omega) (by have:=HL.o.len;omega) (by have:=g5.o.size;have:=e8.o;simp;omega) (w4.heap.size+1) (by simp) ?_
   intro g' e5 b5 d0 a9 j8 m2
   have a1:Upd (fun k'=>(Value.slice la k lc).ownBlock=some k') w4 b5:=((Upd.refl _ w4).alloc _).trans (Upd.of_grown a9 (fun k hk=>hk))
   have a5:=(a1.block _ m0 (fun e=>by have:=(e3 sb e).1;have:=a4.o;omega)).trans j1.o
   have c2:w3.heap.size≤g':=by
    have:=g5.o.size;have:=e8.o
    rcases j8 with e | e
    ·exact(e3 g' e).1
    ·omega
   obtain⟨y0,y1⟩:=Zg a5
   have g2:b5.frozen? ⟨sb,1,none⟩=false:=Zb a5
   have a3: ∀D:Nat→Prop,RowC w4 D→ ∀j,D j→ ¬(Value.slice la k lc).ownBlock=some j:=fun D hD j hj e=>by
    obtain⟨cs,q⟩:=hD j hj
    have k4:ValRow w4 w3.heap.size C0 (.slice la k lc) (l.take k):=i1.o
    obtain⟨m1,q'⟩:=k4.block164 e
    rw[q] at q'
    injection q' with q'
    injection q' with _ q'
    exact absurd q' (by decide)
   have g3:=a3 _ i9.o
   have h8:=a3 _ e6.o.2.1
   have g9:l.take (k+1)=l.take k++[p]:=by
    obtain⟨h1,h2⟩:=List.getElem?_eq_some_iff.1 HP.o
    rw[List.take_succ_eq_append_getElem h1,h2]
   have a6:ValRow b5 w3.heap.size (fun j=>C0 j∨(Value.slice va p.2.length vc).ownBlock=some j) (.slice (some ⟨g',0,none⟩) (k+1) e5) (l.take (k+1)):=by
    refine⟨L++[(p,.slice va p.2.length vc)],by rw[List.map_append,i3,g9];rfl,?_,fun y hy=>?_⟩
    ·rw[List.flatMap_append,g9,List.length_append,j7]
     simpa using d0
    ·rw[List.mem_append] at hy
     rcases hy with hy | hy
     ·exact((j3 y hy).kept a1 g3).mono (fun _ e=>.inl e)
     ·simp only[List.mem_singleton] at hy
      subst hy
      exact(e6.o.1.kept a1 h8).mono (fun _ e=>.inr e)
   have b0:RowC b5 (fun j=>C0 j∨(Value.slice va p.2.length vc).ownBlock=some j):=fun j hj=>by
    rcases hj with hj | hj
    ·exact i9.o.kept a1 g3 j hj
    ·exact e6.o.2.1.kept a1 h8 j hj
   have g6:=V a6;have c3:=V b0;have c0:=V a5;have f1:=V a1;have f4:=V e3;have h7:=V c2
   clear a6 b0 a5 a1 d0 a9 j8 j6 i7 d2 e0 i3 e7 j3 e3 g4 c2 g3 h8 a3 g9
   have l8:IntKind.i64.wrap ((k:Int)+1)=(k:Int)+1:=by rw[IntKind.wrap_i64];have:=HL.o.len;omega
   go_wp2
   obtain⟨d4,b2⟩: ∃d4,d4=b5.setCell ⟨sb,1,none⟩ (.slice (some ⟨g',0,none⟩) (k+1) e5):=⟨_,rfl⟩
   rw[←b2]
   have b7:Upd (fun k=>k=sb) b5 d4:=by rw[b2];exact Zd b5 sb 1 _
   have c5:d4.heap[sb]?=some (.cells #[.int .u64 ev,.slice (some ⟨g',0,none⟩) (k+1) e5] 62 (0,0)):=by
    rw[b2]
    have:=Ze (i:=1) (v:=.slice (some ⟨g',0,none⟩) (k+1) e5) c0.o
    simpa using this
   have b6: ∀j,(C0 j∨(Value.slice va p.2.length vc).ownBlock=some j)→w3.heap.size≤j:=fun j hj=>by
    rcases hj with hj | hj
    ·exact k9.o j hj
    ·have:=e6.o.2.2 j hj;have:=e8.o;omega
   have k5:TlAt w3 sb ev l (k+1) d4:=by
    refine⟨⟨_,_,_,c5,g6.o.kept b7 (fun j hj e=>by simp[Value.ownBlock] at hj;have:=h7.o;have:=a4.o;omega) (fun j hj e=>by have:=b6 j hj;have:=a4.o;omega),b6,c3.o.kept b7 (fun j hj e=>by have:=b6 j hj;have:=a4.o;omega)⟩,?_⟩
    exact((HD.o.upd.trans (g5.o.mono (F:=fun _=>False) (fun _ _ e=>e.elim))).step f1.o (fun j hj e=>by have:=(f4.o j e).1;omega)).trans b7
   go_roundg (l.length - (k+1))
   case measure=>omega
   case rel=>exact⟨k+1,by omega,rfl,congrArg _ (by omega),k5⟩
  ·obtain rfl:k=l.length:=by omega
   obtain⟨la,lc,C0,c8,b9,d1,d3⟩:=HD.o.out
   rw[List.take_length] at b9
   have l7:=V c8;have j4:=V b9;have e9:=V d1;have l5:=V d3
   have a0:=HD.o.upd
   have c1:RegAt wr r lg ev (.map (some b)) area:=(a0.block _ (Za d9.o) (fun e=>by have:=f7.o;have:=a4.o;omega)).trans d9.o
   have a8:=k1.o.kept a0 (fun e=>by have:=f8.o;have:=a4.o;omega) (fun j hj e=>by have:=h6.o j hj;have:=a4.o;omega)
   have l9:=V c1;have l4:=V a8
   clear c8 b9 d1 d3 a0 c1 a8
   have a8:(Instr.makeSlice 39 (.int .i64 25) (.int .i64 25)).run Tryz.prog wr=.ok (.slice (some ⟨wr.heap.size,0,none⟩) 25 25) (wr.alloc (.cells (madeCells #[.int .u8 0] 25) 5)):=
    run_make_row' (P:=Tryz.prog) 39 5 (.int .u8 0) 1 Tryz.underlying39 Tryz.info5p rfl .i64 .i64 25 (by omega) (by omega) wr
   have f9:=Yw (Zue wr 25 (by omega))
   obtain⟨s9,h0⟩: ∃s,s=strOfNums (zs 25):=⟨_,rfl⟩
   have h5:s9.size=25:=by rw[h0,strOfNums_size];simp[zs]
   rw[←h0] at f9
   clear h0
   have a2:l.get s9=none:=by
    cases e:l.get s9 with
    |none=>rfl
    |some v=>
     have:=(HL.o.each _ ((KV.get_some HL.o.rising).1 e)).2.1
     simp only at this
     omega
   obtain⟨w5,g0⟩: ∃w5,w5=wr.alloc (.cells (madeCells #[.int .u8 0] 25) 5):=⟨_,rfl⟩
   have e4:U0 wr w5:=by rw[g0];exact(Upd.refl _ wr).alloc _
   rw[←g0] at a8 f9
   clear g0
   have HV:=V (Ze7 (s:=s9) w5 (_root_.Go.Proofs.YtbimkhdiplnbfaaGreat.kb e4 l9.o) (l4.o.kept0 e4).1 (by unfold maxLen;omega) (by rw[a2];simp))
   rw[a2] at HV
   simp only[Option.getD_none,Option.isSome_none] at HV
   have k8:=V e4
   clear e4 a2 h5
   go_wp2_with (go_at_call 34;fail)
   clear a8 f9
   refine HV.o.mono ?_
   rintro e w6 ⟨u,rfl,g1,g2⟩
   obtain⟨va,vc,rfl⟩:=g1.slice'
   simp only[List.length_nil]
   have e1:=k8.o.trans g2
   have b8:=_root_.Go.Proofs.YtbimkhdiplnbfaaGreat.kb e1 l7.o
   have c9:=((HD.o.upd.trans (e1.mono (F:=fun _=>False) (fun _ _ e=>e.elim))).block _ (Za g8.o) (fun e=>by have:=a4.o;omega)).trans g8.o
   obtain⟨y0,y1⟩:=Zg b8
   obtain⟨z0,z1⟩:=Zg c9
   have gf:w6.frozen? ⟨tb,0,none⟩=false:=Zb c9
   have m3:w6.frozen? ⟨tb,1,none⟩=false:=Zb c9
   have l0:=V b8;have h3:=V c9;have h9:=V e1
   clear b8 c9 e1 g1 g2 HV
   go_wp2
   obtain⟨w7,h4⟩: ∃w7,w7=(w6.setCell ⟨tb,0,none⟩ (.int .u64 ev)).setCell ⟨tb,1,none⟩ (.slice la l.length lc):=⟨_,rfl⟩
   rw[←h4]
   have l6:w7.heap[tb]?=some (.cells #[.int .u64 ev,.slice la l.length lc] 62 (0,0)):=by
    rw[h4]
    have:=Ze (i:=1) (v:=.slice la l.length lc) (Ze (i:=0) (v:=.int .u64 ev) h3.o)
    simpa using this
   have i6:Upd (fun k=>k=tb) w6 w7:=by rw[h4];exact(Zd w6 tb 0 _).trans (Zd _ tb 1 _)
   have l1:tb<sb∧sb<w2.heap.size∧w2.heap.size≤w3.heap.size:=a4.o
   refine bodyPost_ret (Zl Tryz.results30 rfl (run_loadVar_mid (P:=Tryz.prog) w7 tb 0 62 [_,_] _ (Zh l6) Tryz.underlying62 rfl Zaj)) rfl ?_
   have c6:=(h9.o.mono (F:=fun _=>False) (G:=fun k=>k=tb) (fun _ _ e=>e.elim)).trans i6
   have f5: ∀j,w3.heap.size≤j→ ¬j=tb:=fun j hj e=>by omega
   refine⟨la,lc,C0,rfl,?_,fun j hj=>by have:=e9.o j hj;have:=d7.o;omega,l5.o.kept c6 (fun j hj e=>f5 j (e9.o j hj) e),?_⟩
   ·have h1:=j4.o.kept c6 (fun j hj e=>f5 j (j4.o.low_own hj) e) (fun j hj e=>f5 j (e9.o j hj) e)
    exact h1.low (by have:=d7.o;omega)
   ·exact((l2.o.step HD.o.upd (fun j hj e=>by have:=d7.o;omega)).trans h9.o).step i6 (fun j hj e=>by have:=d7.o;omega)
def withR (s:ByteArray)(v:List Int):Bool→KV→KV
 |dn,[]=>if dn then [] else [(s,v)]
 |dn,p :: r=>if dn=false∧nbB s<nbB p.1 then(s,v) :: (if p.1=s then withR s v true r else p :: withR s v true r) else if p.1=s then withR s v dn r else p :: withR s v dn r
theorem Zec (s:ByteArray)(v:List Int): ∀l:KV,withR s v true l=l.del s
 | []=>rfl
 |p :: r=>by
  have ih:=Zec s v r
  unfold KV.del at ih ⊢
  simp only[withR,List.filter_cons]
  by_cases e:p.1=s
  ·simp[e,ih]
  ·simp[e,ih]
theorem Zi1 (s:ByteArray)(v:List Int): ∀l:KV,withR s v false l=l.put s v
 | []=>rfl
 |p :: r=>by
  have ih:=Zi1 s v r
  unfold KV.put at ih ⊢
  by_cases h:nbB s<nbB p.1
  ·have hne:p.1≠s:=fun e=>by rw[e] at h;exact absurd h (List.lt_irrefl _)
   have hd:KV.del (p :: r) s=p :: KV.del r s:=by simp[KV.del,hne]
   rw[hd]
   simp only[withR,KV.ins,true_and,if_pos h,if_neg hne,Zec]
  ·by_cases e:p.1=s
   ·have hd:KV.del (p :: r) s=KV.del r s:=by simp[KV.del,e]
    rw[hd]
    simp only[withR,true_and,if_neg h,if_pos e,ih]
   ·have hd:KV.del (p :: r) s=p :: KV.del r s:=by simp[KV.del,e]
    rw[hd]
    simp only[withR,KV.ins,true_and,if_neg h,if_neg e,ih]
theorem Zrn {v:ByteArray}(h: ¬nbB s<nbB v)(he:v≠s):nbB v<nbB s:=by
 by_cases q:nbB v<nbB s
 ·exact q
 ·exact absurd (Zpy (List.le_antisymm (List.not_lt.1 h) (List.not_lt.1 q))) he
theorem Zek {a b:ByteArray}:Op.bytesLess a.toList b.toList=decide (nbB a<nbB b):=by
 rw[Go.Proofs.bytesLess_eq,ByteArray.toList_eq,ByteArray.toList_eq]
 rfl
theorem Znm (x:SetV)(l:KV):withR x.name x.new (!x.is) l=l.with x:=by
 unfold KV.with
 cases hx:x.is with
 |true=>simp only[Bool.not_true,if_true];exact Zi1 _ _ l
 |false=>simp only[Bool.not_false,Bool.false_eq_true,if_false];exact Zec _ _ l
theorem Zbg {ops:Array Oper}{rest:List Oper}{o:Oper}{a:Act}{Q:Exit→Act→World→Prop}(hgd:o.guard=none)(s x:Operand)(ho:o.op=.call {callee:=.builtin .append,args:=#[s,x],argTypes:=#[60,60]})
  {g:Nat} {sa:Option Addr} {out:KV} {p:ByteArray×List Int} {u:Value} (hs:a.eval s=.slice sa out.length c) (hx:a.eval x=.slice (some ⟨g,0,none⟩) 1 1) (hrow:ValRow w B C (.slice sa out.length c) out)
  (hg:w.heap[g]?=some (.cells #[.string p.1,u] 164 (0,0))) (hu:BytesAt w C u p.2) (hC:RowC w C) (hl:out.length≤2000) (hB:B≤w.heap.size)
  (h: ∀a' c' w',ValRow w' B C (.slice a' (out.length+1) c') (out++[p])→Upd (fun k=>(Value.slice sa out.length c).ownBlock=some k) w w'→RowC w' C→wpList Tryz.prog ops Q rest (a.put o.dst (.slice a' (out.length+1) c')) w'):wpList Tryz.prog ops Q (o :: rest) a w:=by
 obtain⟨L,a8,a7,a5⟩:=hrow
 obtain⟨va,vc,rfl,_⟩:=hu.slice
 obtain⟨i0,b4,b1,b3,a9⟩:=info_parts Tryz.info164p
 have a6:vC (p,.slice va p.2.length vc)=[.string p.1,.slice va p.2.length vc]:=rfl
 have a0: ∀j,C j→ ¬(Value.slice sa out.length c).ownBlock=some j:=fun j hj e=>by
  obtain⟨cs,q⟩:=hC j hj
  have b0:ValRow w B C (.slice sa out.length c) out:=⟨L,a8,a7,a5⟩
  obtain⟨b6,q'⟩:=b0.block164 e
  rw[q] at q'
  injection q' with q'
  injection q' with _ q'
  exact absurd q' (by decide)
 refine wpList_append_lies _ hgd s x 60 ho B 164 i0 _ 2 40 Tryz.underlying60 b4 b1 b3 a9 rfl (by omega) (.slice sa out.length c) _ _ hs a7 ⟨g,0,none⟩ 1 1 (vC (p,.slice va p.2.length vc)) hx
  rfl (World.news_of_block (cs:=(vC (p,.slice va p.2.length vc)).toArray) (t:=164) (fr:=(0,0)) (by rw[a6];exact hg)) (by rw[a6];simp[Value.oneCell']) (by omega) (by unfold maxLen;omega) (by omega) hB w.heap.size rfl ?_
 intro g' b2 a4 a3 a2 b7 b5
 have a1:Upd (fun k'=>(Value.slice sa out.length c).ownBlock=some k') w a4:=Upd.of_grown a2 (fun k hk=>hk)
 refine h _ b2 a4 ⟨L++[(p,.slice va p.2.length vc)],by rw[List.map_append,a8];rfl,?_,fun y hy=>?_⟩ a1 (hC.kept a1 a0)
 ·rw[List.flatMap_append,List.length_append]
  simpa using a3
 ·rw[List.mem_append] at hy
  rcases hy with hy | hy
  ·exact(a5 y hy).kept a1 a0
  ·simp only[List.mem_singleton] at hy
   subst hy
   exact hu.kept a1 a0
structure WtAt (w:World) (C:Nat→Prop) (s:ByteArray) (v:List Int) (l R:KV) (k:Nat) (v5 v6:Value) (W:World):Prop where
 out: ∃sa c out dn,v5=.slice sa out.length c∧v6=.bool dn∧ValRow W w.heap.size C (.slice sa out.length c) out∧out++withR s v dn (l.drop k)=R∧out.length≤2 * k
 row:RowC W C
 upd:U0 w W
theorem Zq4 {x:SetV}{oa na:Option Addr}{oc nc:Nat}(w0:World)(hV:ValsAt w0 C a l)(hl:l.length≤1000)(hn:BytesAt w0 C (.slice na x.new.length nc) x.new)(hC:RowC w0 C):
  Calls Tryz.prog 192 #[.slice a l.length c,.agg #[.string x.name,.bool x.was,.bool x.is,.slice oa x.old.length oc,.slice na x.new.length nc]] w0 fun e w'=> ∃a' c',e=.returned (.slice a' (l.with x).length c')∧ValRow w' w0.heap.size C (.slice a' (l.with x).length c') (l.with x)∧U0 w0 w':=by
 obtain⟨w,hw,hu,hx⟩:=nb w0 (.cells #[.string x.name,.bool x.was,.bool x.is,.slice oa x.old.length oc,.slice na x.new.length nc] 73)
 obtain⟨xb,d4⟩: ∃xb,xb=w0.heap.size:=⟨_,rfl⟩
 have HV:=V (hV.kept0 hu);have HL:=V hl;have HN:=V (hn.kept hu n3Z);have HC:=V (hC.kept hu n3Z);have HU:=V hu
 have g4:=V d4
 rw[←d4] at hx
 have HX:=V hx
 have d8:=Znm x l
 obtain⟨R,hR⟩: ∃R,R=l.with x:=⟨_,rfl⟩
 rw[←hR] at d8 ⊢
 have HR:=V d8
 clear hV hl hn hC hu d8 hR
 go_enter Tryz.func192,Tryz.ntmps192
 go_upto_region 1 with fail
 rw[←hw,←d4]
 obtain⟨x0,x1,x2,x3,x4⟩:=Zu hx
 have e8:WtAt w C x.name x.new l R 0 (.slice none 0 0) (.bool (!x.is)) w:=⟨⟨none,0,[],!x.is,rfl,rfl,ValRow.nil _ _ _,by simpa using HR.o,by simp⟩,HC.o,Upd.refl _ _⟩
 have g2:=V e8
 clear e8 hw d4 hx
 go_upto_block 0 with fail
 go_upto_region 4 with fail
 go_loopg [5,6,14] l.length (fun gk v5 v6 i wr=> ∃k:Nat,k≤l.length∧gk=l.length - k∧i=.int .i64 k∧WtAt w C x.name x.new l R k v5 v6 wr)
 case atStart=>exact⟨0,Nat.zero_le _,rfl,rfl,g2.o⟩
 case round=>
  obtain⟨k,hk,rfl,rfl,g1⟩:=hrel
  obtain⟨⟨sa,sc,out,dn,rfl,rfl,c3,e4,c1⟩,e3,e5⟩:=g1
  have a3:=V c3;have b5:=V e4;have a1:=V c1;have e1:=V e3;have b0:=V e5
  clear c3 e4 c1 e3 e5
  obtain⟨wo,rfl⟩: ∃wo:World,wo=wr:=⟨_,rfl⟩
  have c6:=_root_.Go.Proofs.YtbimkhdiplnbfaaGreat.kb b0.o HX.o
  by_cases f2:k<l.length
  ·have f7:(k:Int)<l.length:=by omega
   obtain⟨p,hp⟩: ∃p,l[k]?=some p:=⟨_,List.getElem?_eq_getElem f2⟩
   obtain⟨g,v,rfl,y0,y1,hb⟩:=(HV.o.kept0 b0.o) k p hp
   obtain⟨va,vc,rfl,_⟩:=hb.slice
   have f1:l.drop k=p :: l.drop (k+1):=by
    obtain⟨h1,h2⟩:=List.getElem?_eq_some_iff.1 hp
    rw[List.drop_eq_getElem_cons h1,h2]
   have HB:=V hb;have HP:=V hp;have c4:=V f1;have f6:=V c6
   clear hb hp f1
   go_upto_region 6 with fail
   obtain⟨wa,f0,b1,d5⟩:=nb wo (.cells #[.string p.1,.slice va p.2.length vc] 164)
   rw[←f0]
   obtain⟨vb,e7⟩: ∃vb,vb=wo.heap.size:=⟨_,rfl⟩
   rw[←e7] at d5 ⊢
   obtain⟨z0,z1⟩:=Zg d5
   have b3:=_root_.Go.Proofs.YtbimkhdiplnbfaaGreat.kb b1 f6.o
   obtain⟨x0,x1,x2,x3,x4⟩:=Zu b3
   have a0:=V (a3.o.kept b1 n3Z n3Z);have a6:=V (e1.o.kept b1 n3Z);have b6:=V (HB.o.kept b1 n3Z);have a4:=V (b0.o.trans b1);have d9:=V d5;have b7:=V b3
   have e9:=V (HN.o.kept (b0.o.trans b1) n3Z)
   have d7:=V (show∀j,(Value.slice sa out.length sc).ownBlock=some j→j<vb from fun j e=>by obtain⟨L,_,h4,_⟩:=a3.o;have:=(World.ownsRow.lt h4 j e).2;omega)
   clear f0 b1 d5 e7 b3 c6 y0 y1 a3 e1 HB
   have f9:IntKind.i64.wrap ((k:Int)+1)=(k:Int)+1:=by rw[IntKind.wrap_i64];have:=HL.o;omega
   cases dn with
   |true=>
    by_cases he:p.1=x.name
    ·have d6:(p.1.toList == x.name.toList)=true:=by rw[he];simp
     have HE:=V he
     clear he
     go_wp2
     go_roundg (l.length - (k+1))
     case measure=>omega
     case rel=>exact⟨k+1,by omega,rfl,congrArg _ (by omega),⟨⟨sa,sc,out,true,rfl,rfl,a0.o,by rw[←b5.o,c4.o];simp[withR,HE.o],by have:=a1.o;omega⟩,a6.o,a4.o⟩⟩
    ·have d6:(p.1.toList == x.name.toList)=false:=by rw[toList_eq];exact decide_eq_false he
     have HE:=V he
     clear he
     go_upto_region 9 with fail
     iterate 10 go_step
     refine(?_:wpList _ _ _ _ _ (wa.alloc (.cells #[.string p.1,.slice va p.2.length vc] 164)))
     refine Zbg (B:=w.heap.size) (out:=out) (p:=p) rfl (.tmp 40) (.tmp 42) rfl rfl rfl (a0.o.kept ((Upd.refl (fun _=>False) wa).alloc _) n3Z n3Z) (Zc rfl) (b6.o.kept ((Upd.refl (fun _=>False) wa).alloc _) n3Z) (a6.o.kept ((Upd.refl (fun _=>False) wa).alloc _) n3Z) (by have:=a1.o;have:=HL.o;omega) (by have:=a4.o.size;simp;omega) (fun a9 c9 w9 hr9 hu9 hc9=>?_)
     have c0:=V hr9;have c7:=V hc9
     have b8:=V (show U0 w w9 from(a4.o.trans ((Upd.refl (fun _=>False) wa).alloc _)).step hu9 (fun j hj e=>by obtain⟨L,_,h4,_⟩:=a0.o;have:=(World.ownsRow.lt h4 j e).1;omega))
     clear hr9 hu9 hc9
     go_wp2
     go_roundg (l.length - (k+1))
     case measure=>omega
     case rel=>exact⟨k+1,by omega,rfl,congrArg _ (by omega),⟨⟨a9,c9,out++[p],true,by simp,rfl,by simpa using c0.o,by rw[←b5.o,c4.o];simp[withR,HE.o],by have:=a1.o;simp;omega⟩,c7.o,b8.o⟩⟩
   |false=>
    by_cases a5:nbB x.name<nbB p.1
    ·have he:p.1≠x.name:=fun e=>by rw[e] at a5;exact absurd a5 (List.lt_irrefl _)
     have d6:(p.1.toList == x.name.toList)=false:=by rw[toList_eq];exact decide_eq_false he
     have e2:Op.bytesLess p.1.toList x.name.toList=false:=by rw[Zek];exact decide_eq_false (fun h=>absurd (List.lt_trans a5 h) (List.lt_irrefl _))
     have HE:=V he;have c5:=V a5
     clear he a5
     go_upto_region 7 with fail
     iterate 22 go_step
     refine(?_:wpList _ _ _ _ _ (wa.alloc (.cells #[.string x.name,.slice na x.new.length nc] 164)))
     refine Zbg (B:=w.heap.size) (out:=out) (p:=(x.name,x.new)) rfl (.tmp 27) (.tmp 33) rfl rfl rfl (a0.o.kept ((Upd.refl (fun _=>False) wa).alloc _) n3Z n3Z) (Zc rfl) (e9.o.kept ((Upd.refl (fun _=>False) wa).alloc _) n3Z) (a6.o.kept ((Upd.refl (fun _=>False) wa).alloc _) n3Z) (by have:=a1.o;have:=HL.o;omega) (by have:=a4.o.size;simp;omega) (fun a8 c8 w8 hr8 hu8 hc8=>?_)
     have b4:Upd (fun j=>w.heap.size≤j) wa w8:=(((Upd.refl (fun _=>False) wa).alloc _).mono (F:=fun _=>False) (fun _ _ e=>e.elim)).trans (hu8.mono (fun j hj e=>by obtain⟨L,_,h4,_⟩:=a0.o;exact(World.ownsRow.lt h4 j e).1))
     have e0:=V hr8;have f8:=V hc8;have g0:=V (a4.o.step b4 (fun j hj e=>by omega))
     have f4:=V ((b6.o.kept ((Upd.refl (fun _=>False) wa).alloc (.cells #[.string x.name,.slice na x.new.length nc] 164)) n3Z).kept hu8 (fun j hj e=>by
      obtain⟨L,h3,h4,h5⟩:=a0.o
      have f3:ValRow wa w.heap.size C (.slice sa out.length sc) out:=⟨L,h3,h4,h5⟩
      obtain⟨cs,q⟩:=a6.o j hj
      obtain⟨g3,q'⟩:=f3.block164 e
      rw[q] at q'
      injection q' with q'
      injection q' with _ q'
      exact absurd q' (by decide)))
     have d2:=(hu8.block _ (Za (((Upd.refl (fun _=>False) wa).alloc (.cells #[.string x.name,.slice na x.new.length nc] 164)).block _ (Za d9.o) id |>.trans d9.o)) (fun e=>absurd (d7.o vb e) (Nat.lt_irrefl _))).trans (_root_.Go.Proofs.YtbimkhdiplnbfaaGreat.kb ((Upd.refl (fun _=>False) wa).alloc (.cells #[.string x.name,.slice na x.new.length nc] 164)) d9.o)
     have d0:=(b4.block _ (Za b7.o) (fun e=>by have:=Za HX.o;omega)).trans b7.o
     obtain⟨b2,d3⟩: ∃o,o=out++[(x.name,x.new)]:=⟨_,rfl⟩
     have a7:out.length+1=b2.length:=by rw[d3];simp
     rw[a7,←d3] at hr8
     rw[a7]
     have b9:=V hr8;have d1:=V d3;have e6:=V a7
     obtain⟨z0,z1⟩:=Zg d2
     obtain⟨x0,x1,x2,x3,x4⟩:=Zu d0
     clear hr8 hu8 hc8 b4 d2 d0 d3 a7 e0 a0 a6 b6 a4 e9
     have a0:=b9;have a6:=f8;have b6:=f4;have a4:=g0
     go_upto_region 9 with fail
     iterate 10 go_step
     refine(?_:wpList _ _ _ _ _ (w8.alloc (.cells #[.string p.1,.slice va p.2.length vc] 164)))
     refine Zbg (B:=w.heap.size) (out:=b2) (p:=p) rfl (.tmp 40) (.tmp 42) rfl rfl rfl (a0.o.kept ((Upd.refl (fun _=>False) w8).alloc _) n3Z n3Z) (Zc rfl) (b6.o.kept ((Upd.refl (fun _=>False) w8).alloc _) n3Z) (a6.o.kept ((Upd.refl (fun _=>False) w8).alloc _) n3Z) (by have:=a1.o;have:=HL.o;have:=e6.o;omega) (by have:=a4.o.size;simp;omega) (fun a9 c9 w9 hr9 hu9 hc9=>?_)
     have c0:=V hr9;have c7:=V hc9
     have b8:=V (show U0 w w9 from(a4.o.trans ((Upd.refl (fun _=>False) w8).alloc _)).step hu9 (fun j hj e=>by obtain⟨L,_,h4,_⟩:=a0.o;have:=(World.ownsRow.lt h4 j e).1;omega))
     clear hr9 hu9 hc9
     go_wp2
     go_roundg (l.length - (k+1))
     case measure=>omega
     case rel=>exact⟨k+1,by omega,rfl,congrArg _ (by omega),⟨⟨a9,c9,b2++[p],true,by simp,rfl,by simpa using c0.o,by rw[d1.o,←b5.o,c4.o];simp[withR,c5.o,HE.o],by have:=a1.o;have:=e6.o;simp;omega⟩,c7.o,b8.o⟩⟩
    ·by_cases he:p.1=x.name
     ·have d6:(p.1.toList == x.name.toList)=true:=by rw[he];simp
      have e2:Op.bytesLess p.1.toList x.name.toList=false:=by rw[he,Zek];exact decide_eq_false (List.lt_irrefl _)
      have HE:=V he;have c5:=V a5
      clear he a5
      go_wp2
      go_roundg (l.length - (k+1))
      case measure=>omega
      case rel=>exact⟨k+1,by omega,rfl,congrArg _ (by omega),⟨⟨sa,sc,out,false,rfl,rfl,a0.o,by rw[←b5.o,c4.o];simp only[withR,true_and,if_neg c5.o,if_pos HE.o],by have:=a1.o;omega⟩,a6.o,a4.o⟩⟩
     ·have d6:(p.1.toList == x.name.toList)=false:=by rw[toList_eq];exact decide_eq_false he
      have e2:Op.bytesLess p.1.toList x.name.toList=true:=by rw[Zek];exact decide_eq_true (Zrn a5 he)
      have HE:=V he;have c5:=V a5
      clear he a5
      go_upto_region 9 with fail
      iterate 10 go_step
      refine(?_:wpList _ _ _ _ _ (wa.alloc (.cells #[.string p.1,.slice va p.2.length vc] 164)))
      refine Zbg (B:=w.heap.size) (out:=out) (p:=p) rfl (.tmp 40) (.tmp 42) rfl rfl rfl (a0.o.kept ((Upd.refl (fun _=>False) wa).alloc _) n3Z n3Z) (Zc rfl) (b6.o.kept ((Upd.refl (fun _=>False) wa).alloc _) n3Z) (a6.o.kept ((Upd.refl (fun _=>False) wa).alloc _) n3Z) (by have:=a1.o;have:=HL.o;omega) (by have:=a4.o.size;simp;omega) (fun a9 c9 w9 hr9 hu9 hc9=>?_)
      have c0:=V hr9;have c7:=V hc9
      have b8:=V (show U0 w w9 from(a4.o.trans ((Upd.refl (fun _=>False) wa).alloc _)).step hu9 (fun j hj e=>by obtain⟨L,_,h4,_⟩:=a0.o;have:=(World.ownsRow.lt h4 j e).1;omega))
      clear hr9 hu9 hc9
      go_wp2
      go_roundg (l.length - (k+1))
      case measure=>omega
      case rel=>exact⟨k+1,by omega,rfl,congrArg _ (by omega),⟨⟨a9,c9,out++[p],false,by simp,rfl,by simpa using c0.o,by rw[←b5.o,c4.o];simp[withR,c5.o,HE.o],by have:=a1.o;simp;omega⟩,c7.o,b8.o⟩⟩
  ·obtain rfl:k=l.length:=by omega
   have a2:=b5.o
   rw[List.drop_length] at a2
   obtain⟨x0,x1,x2,x3,x4⟩:=Zu c6
   cases dn with
   |true=>
    have a2:out=R:=by simpa [withR] using a2
    subst a2
    have HF:=V (a3.o.low (B':=w0.heap.size) HU.o.size)
    clear c6
    go_wp2
    go_ret
    exact⟨sa,sc,rfl,HF.o,HU.o.trans b0.o⟩
   |false=>
    have a2:out++[(x.name,x.new)]=R:=by simpa [withR] using a2
    have c2:=V a2
    clear a2 c6
    go_upto_region 12 with fail
    iterate 22 go_step
    refine(?_:wpList _ _ _ _ _ (wo.alloc (.cells #[.string x.name,.slice na x.new.length nc] 164)))
    refine Zbg (B:=w.heap.size) (out:=out) (p:=(x.name,x.new)) rfl (.tmp 47) (.tmp 53) rfl rfl rfl (a3.o.kept ((Upd.refl (fun _=>False) wo).alloc _) n3Z n3Z) (Zc rfl) ((HN.o.kept b0.o n3Z).kept ((Upd.refl (fun _=>False) wo).alloc _) n3Z) (e1.o.kept ((Upd.refl (fun _=>False) wo).alloc _) n3Z) (by have:=a1.o;have:=HL.o;omega) (by have:=b0.o.size;simp;omega) (fun a8 c8 w8 hr8 hu8 hc8=>?_)
    have b4:=(b0.o.trans ((Upd.refl (fun _=>False) wo).alloc (.cells #[.string x.name,.slice na x.new.length nc] 164))).step hu8 (fun j hj e=>by obtain⟨L,_,h4,_⟩:=a3.o;have:=(World.ownsRow.lt h4 j e).1;omega)
    have a7:out.length+1=R.length:=by rw[←c2.o];simp
    rw[a7,c2.o] at hr8
    rw[a7]
    have HF:=V (hr8.low (B':=w0.heap.size) HU.o.size);have f5:=V b4
    clear hr8 hu8 hc8 b4 a7
    go_wp2
    go_ret
    exact⟨a8,c8,rfl,HF.o,HU.o.trans f5.o⟩
theorem Zi3{w:World}{C:Nat→Prop}{a:Option Addr}: ∀(l:KV) (i0:Nat),(∀i p,l[i]?=some p→ ∃g v,a=some ⟨g,0,none⟩∧w.cell? ⟨g,(i0+i) * 2,none⟩=some (.string p.1)∧w.cell? ⟨g,(i0+i) * 2+1,none⟩=some v∧BytesAt w C v p.2)→
  ∃L:List ((ByteArray×List Int)×Value),L.map (·.1)=l∧(∀y∈L,BytesAt w C y.2 y.1.2)∧ ∀g,a=some ⟨g,0,none⟩→ ∀j u,(L.flatMap vC)[j]?=some u→w.cell? ⟨g,i0 * 2+j,none⟩=some u
 | [],i0,_=>⟨[],rfl,fun y hy=>by simp at hy,fun g _ j u h=>by simp at h⟩
 |p :: l,i0,h=>by
  obtain⟨g,v,rfl,c1,c2,hb⟩:=h 0 p rfl
  obtain⟨L,h1,h2,h3⟩:=Zi3 l (i0+1) (fun i q hq=>by
   have:=h (i+1) q (by simpa using hq)
   rwa [show i0+(i+1)=i0+1+i by omega] at this)
  refine⟨(p,v) :: L,by simp[h1],fun y hy=>?_,fun g' e j u hj=>?_⟩
  ·rcases List.mem_cons.1 hy with rfl | hy
   ·exact hb
   ·exact h2 y hy
  ·injection e with e
   injection e with e
   subst e
   rw[List.flatMap_cons] at hj
   match j,hj with
   | 0,hj=>
    simp[vC] at hj
    subst hj
    rw[Nat.add_zero] at c1
    exact c1
   | 1,hj=>
    simp[vC] at hj
    subst hj
    rw[Nat.add_zero] at c2
    exact c2
   |j+2,hj=>
    rw[List.getElem?_append_right (by simp[vC])] at hj
    have h4:(L.flatMap vC)[j]?=some u:=by simpa [vC] using hj
    have:=h3 g rfl j u h4
    rwa [show(i0+1) * 2+j=i0 * 2+(j+2) by omega] at this
theorem Zfb {ty:TypeId}{g kc:Nat}{ka:Option Addr}(hg:w.heap[g]?=some (.cells #[] 164 (0,0)))(hV:ValsAt w C ka l)(hC:RowC w C)(hl:l.length≤2000)(hB:B≤g):
  ∃a' c' w',(Builtin.append_ #[60,60] ty #[.slice (some ⟨g,0,none⟩) 0 0,.slice ka l.length kc]).run Tryz.prog w=.ok (.slice a' l.length c') w'∧ValRow w' B C (.slice a' l.length c') l∧Upd (fun k=>k=g) w w'∧RowC w' C:=by
 obtain⟨i,hi,hz,a1,hb⟩:=info_parts Tryz.info164p
 have a6:=Za hg
 have a3: ∀j,C j→ ¬j=g:=fun j hj e=>by
  obtain⟨cs,q⟩:=hC j hj
  rw[e,hg] at q
  injection q with q
  injection q with _ q
  exact absurd q (by decide)
 cases l with
 |nil=>
  refine⟨some ⟨g,0,none⟩,0,w,?_,⟨[],rfl,⟨rfl,.inr ⟨g,0,_,rfl,hB,hg,Nat.le_refl _,by unfold maxLen;omega,rfl,rfl⟩⟩,fun y hy=>by simp at hy⟩,Upd.refl _ _,hC⟩
  cases ka with
  |none=>simp[Builtin.append_,run_underlying Tryz.underlying60,hi,typeInfo,sizeOf,Builtin.lenOf,Builtin.firstCells,a1,loadCells,loadCellsFrom,storeCells,Result.andThen]
  |some ad=>simp[Builtin.append_,run_underlying Tryz.underlying60,hi,typeInfo,sizeOf,Builtin.lenOf,Builtin.firstCells,a1,loadCells,loadCellsFrom,storeCells,Result.andThen]
 |cons p l=>
  obtain⟨ga,v,rfl,_⟩:=hV 0 p rfl
  obtain⟨L,h1,h2,h3⟩:=Zi3 (w:=w) (C:=C) (a:=some ⟨ga,0,none⟩) (p :: l) 0 (fun i q hq=>by rw[Nat.zero_add];exact hV i q hq)
  have a0:w.ownsRow B 164 2 (.slice (some ⟨g,0,none⟩) 0 0) 0 []:=⟨rfl,.inr ⟨g,0,_,rfl,hB,hg,Nat.le_refl _,by unfold maxLen;omega,rfl,rfl⟩⟩
  have a4:L.length=(p :: l).length:=by rw[←h1];simp
  have hc: ∀(j:Nat) (u:Value),(L.flatMap vC)[j]?=some u→w.cell? ((⟨ga,0,none⟩:Addr).add j)=some u:=fun j u hu=>by
   rw[Addr.add_mid,Nat.zero_add]
   have:=h3 ga rfl j u hu
   rwa [Nat.zero_mul,Nat.zero_add] at this
  have a2: ∀u∈L.flatMap vC,u.oneCell'=true:=fun u hu=>by
   rw[List.mem_flatMap] at hu
   obtain⟨y,hy,hu⟩:=hu
   have a5:=h2 y hy
   obtain⟨va,vc,e,_⟩:=a5.slice
   simp only[vC,List.mem_cons,List.mem_singleton,List.not_mem_nil,or_false] at hu
   rcases hu with rfl | rfl
   ·rfl
   ·rw[e];rfl
  obtain⟨v',w',hr,g1,g2,_,g3⟩:=run_append_own_at (P:=Tryz.prog) w B 60 ty 164 i _ 2 40 Tryz.underlying60 hi hz a1 hb rfl (by omega) (.slice (some ⟨g,0,none⟩) 0 0) 0 [] a0 ⟨ga,0,none⟩ (p :: l).length kc (L.flatMap vC) (by rw[Zki,a4];omega) hc a2 (by unfold maxLen;omega) (by omega) (by omega)
  rw[Nat.zero_add,List.nil_append] at g1
  obtain⟨a',c',rfl⟩: ∃a' c',v'=.slice a' (p :: l).length c':=by
   rcases g1.2 with ⟨h,h0⟩ | ⟨g',a7,a8,h,_⟩
   ·simp at h0
   ·exact⟨_,_,h⟩
  have hu:=Upd.of_grown (F:=fun k=>k=g) g2 (fun k hk=>by simpa [Value.ownBlock] using hk.symm)
  exact⟨a',c',w',hr,⟨L,h1,g1,fun y hy=>(h2 y hy).kept hu a3⟩,hu,hC.kept hu a3⟩
theorem Zkn {x y:List Int}(hx:Bytes x)(hy:Bytes y):((strOfNums x).toList == (strOfNums y).toList)=decide (x=y):=by
 rw[toList_eq]
 by_cases e:x=y
 ·rw[e];simp
 ·rw[decide_eq_false e,decide_eq_false]
  intro h
  exact e (by rw[←Zdb hx,h,Zdb hy])
theorem Zks {D:Nat→Prop}{b:Option Addr}{d:Nat}{e1 e2:Int}{m:KV}(w:World)(h1:ValsAt w C a l)(h2:ValsAt w D b m)(hl:l.length≤1000)(hb1: ∀p∈l,Bytes p.2)(hb2: ∀p∈m,Bytes p.2):
  Calls Tryz.prog 33 #[.agg #[.int .u64 e1,.slice a l.length c],.agg #[.int .u64 e2,.slice b m.length d]] w fun e w'=>e=.returned (.bool (decide (e1=e2∧l=m)))∧U0 w w':=by
 obtain⟨w1,a3⟩: ∃w1,w1=(w.alloc (.cells #[.int .u64 e1,.slice a l.length c] 62)).alloc (.cells #[.int .u64 e2,.slice b m.length d] 62):=⟨_,rfl⟩
 have b1:U0 w w1:=by rw[a3];exact((Upd.refl _ w).alloc _).alloc _
 have b5:w1.heap[w.heap.size]?=some (.cells #[.int .u64 e1,.slice a l.length c] 62 (0,0)):=by rw[a3,Zm (by simp)];exact Zc rfl
 have b3:w1.heap[w.heap.size+1]?=some (.cells #[.int .u64 e2,.slice b m.length d] 62 (0,0)):=by rw[a3];exact Zc (by simp)
 have d1:=V (h1.kept0 b1);have c7:=V (h2.kept0 b1);have c8:=V hb1;have d5:=V hb2;have c9:=V a3;have a5:=V b1
 obtain⟨x0,x1⟩:=Zg b5
 obtain⟨y0,y1⟩:=Zg b3
 clear h1 h2 hb1 hb2 a3 b1
 obtain⟨c4,a1⟩: ∃r,r=decide (e1=e2∧l=m):=⟨_,rfl⟩
 rw[←a1]
 have c0: ¬(e1=e2∧l=m)→c4=false:=fun h=>by rw[a1];exact decide_eq_false h
 have a4:(e1=e2∧l=m)→c4=true:=fun h=>by rw[a1];exact decide_eq_true h
 have b2:=V c0;have b4:=V a4
 clear a1 c0 a4
 go_enter Tryz.func33,Tryz.ntmps33
 go_upto_region 1 with fail
 rw[←c9.o]
 obtain⟨tb,b0⟩: ∃tb,tb=w.heap.size+1:=⟨_,rfl⟩
 obtain⟨sb,a9⟩: ∃sb,sb=w.heap.size:=⟨_,rfl⟩
 have b7:=V b5;have c5:=V (show w1.heap[tb]?=some (.cells #[.int .u64 e2,.slice b m.length d] 62 (0,0)) by rw[b0];exact b3)
 rw[←a9] at b7
 clear b5 b3
 rw[←b0] at y0 y1
 rw[←a9] at x0 x1
 rw[←b0,←a9]
 clear a9 b0
 by_cases he:e1=e2
 ·subst he
  by_cases a0:l.length=m.length
  ·have b6:(l.length:Int)=m.length:=by rw[a0]
   have a2:=V a0
   rw[←a0] at y1 b6
   obtain⟨nl,a7⟩: ∃nl,nl=l.length:=⟨_,rfl⟩
   have a8:=V a7
   rw[←a0]
   rw[←a7] at x1 y1 hl ⊢
   rw[←a7] at b7
   rw[←a0,←a7] at c5
   clear b6 a0 a7
   go_upto_block 0 with fail
   go_upto_region 4 with fail
   clear x0 x1 y0 y1
   go_loopg [23] nl (fun gk i wr=> ∃k:Nat,k≤nl∧gk=nl - k∧i=.int .i64 k∧(∀i,i<k→l[i]?=m[i]?)∧U0 w1 wr)
   case atStart=>exact⟨0,Nat.zero_le _,rfl,rfl,fun i hi=>by omega,Upd.refl _ _⟩
   case round=>
    obtain⟨k,hk,rfl,rfl,hn,hu⟩:=hrel
    have HN:=V hn;have HU:=V hu
    obtain⟨x0,x1⟩:=Zg (_root_.Go.Proofs.YtbimkhdiplnbfaaGreat.kb hu b7.o)
    obtain⟨y0,y1⟩:=Zg (_root_.Go.Proofs.YtbimkhdiplnbfaaGreat.kb hu c5.o)
    have c3:=d1.o.kept0 hu;have b9:=c7.o.kept0 hu
    clear hn hu
    by_cases d6:k<nl
    ·have d0:(k:Int)<nl:=by omega
     have c2:k<l.length:=by have:=a8.o;omega
     have c1:k<m.length:=by have:=a8.o;have:=a2.o;omega
     obtain⟨p,hp⟩: ∃p,l[k]?=some p:=⟨_,List.getElem?_eq_getElem c2⟩
     obtain⟨q,hq⟩: ∃q,m[k]?=some q:=⟨_,List.getElem?_eq_getElem c1⟩
     obtain⟨g,v,rfl,u0,u1,hb⟩:=c3 k p hp
     obtain⟨f,u,rfl,z0,z1,hc⟩:=b9 k q hq
     have d9:=fun n:Nat=>Yw (hb.kept ((Upd.refl (fun _=>False) wr).drewN n) n3Z).bytesIn
     have d7:=fun n:Nat=>Yw (hc.kept ((Upd.refl (fun _=>False) wr).drewN n) n3Z).bytesIn
     have a6:=Zkn (c8.o p (List.mem_of_getElem? hp)) (d5.o q (List.mem_of_getElem? hq))
     obtain⟨va,vc,rfl,_⟩:=hb.slice
     obtain⟨ua,uc,rfl,_⟩:=hc.slice
     have HP:=V hp;have HQ:=V hq
     clear hb hc hp hq c2 c1 c3 b9
     have d2:IntKind.i64.wrap ((k:Int)+1)=(k:Int)+1:=by rw[IntKind.wrap_i64];omega
     go_upto_region 6 with fail
     by_cases n1:p.1=q.1
     ·have e1:(p.1.toList == q.1.toList)=true:=by rw[toList_eq];exact decide_eq_true n1
      by_cases n2:p.2=q.2
      ·have e2:((strOfNums p.2).toList == (strOfNums q.2).toList)=true:=by rw[a6];exact decide_eq_true n2
       have HE:=V (show p=q from Prod.ext n1 n2)
       clear n1 n2 a6
       go_quiet (fail)
       go_wp2
       go_roundg (nl - (k+1))
       case measure=>omega
       case rel=>exact⟨k+1,by omega,rfl,congrArg _ (by omega),fun i hi=>by
        by_cases e:i=k
        ·subst e
         rw[HP.o,HQ.o,HE.o]
        ·exact HN.o i (by omega),HU.o.drewN _⟩
      ·have e2:((strOfNums p.2).toList == (strOfNums q.2).toList)=false:=by rw[a6];exact decide_eq_false n2
       have HE:=V (show p≠q from fun e=>n2 (by rw[e]))
       clear n1 n2 a6
       go_quiet (fail)
       go_wp2
       go_ret
       exact⟨by rw[b2.o fun e=>HE.o (by
        have h1:=HP.o
        rw[e.2,HQ.o] at h1
        injection h1 with h1
        exact h1.symm)];rfl,a5.o.trans (HU.o.drewN _)⟩
     ·have e1:(p.1.toList == q.1.toList)=false:=by rw[toList_eq];exact decide_eq_false n1
      have HE:=V (show p≠q from fun e=>n1 (by rw[e]))
      clear n1 a6
      go_quiet (fail)
      go_wp2
      go_ret
      exact⟨by rw[b2.o fun e=>HE.o (by
       have h1:=HP.o
       rw[e.2,HQ.o] at h1
       injection h1 with h1
       exact h1.symm)];rfl,a5.o.trans (HU.o.drewN _)⟩
    ·obtain rfl:k=nl:=by omega
     have b8:l=m:=List.ext_getElem? fun i=>by
      by_cases hi:i<k
      ·exact HN.o i hi
      ·rw[List.getElem?_eq_none (by have:=a8.o;omega),List.getElem?_eq_none (by have:=a8.o;have:=a2.o;omega)]
     have d3:=V b8
     clear b8
     go_wp2
     go_ret
     exact⟨by rw[b4.o ⟨by trivial,d3.o⟩];rfl,a5.o.trans HU.o⟩
  ·have d8:((l.length:Int) == (m.length:Int))=false:=by
    rw[beq_eq_false_iff_ne]
    omega
   have b6: ¬(l.length:Int)=m.length:=by omega
   have c6:=V a0
   clear a0
   go_wp2
   go_ret
   exact⟨by rw[b2.o fun e=>c6.o (by rw[e.2])];rfl,a5.o⟩
 ·have d4:=V he
  have e0:(e1 == e2)=false:=by simpa using he
  go_wp2
  go_ret
  exact⟨by rw[b2.o fun e=>d4.o e.1];rfl,a5.o⟩
end
end Go.Proofs.YtbimkhdiplnbfaaGreat
