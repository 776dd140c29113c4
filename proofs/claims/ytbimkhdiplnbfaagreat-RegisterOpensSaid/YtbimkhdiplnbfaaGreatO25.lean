/- Walks: what is played to a register that is opened (found's closure). -/
import Derived.Test.YtbimkhdiplnbfaaGreatO19
import Derived.Test.YtbimkhdiplnbfaaGreatO20
import Derived.Test.YtbimkhdiplnbfaaGreatO22
import Derived.Test.YtbimkhdiplnbfaaGreatO24
import Derived.Test.YtbimkhdiplnbfaaGreatO27
import Derived.Maps.AppendAt
open Go.Lib (hid)
set_option linter.unusedVariables false
set_option linter.unusedSimpArgs false
namespace Go.Proofs.YtbimkhdiplnbfaaGreat
set_option maxRecDepth 1000000
set_option maxHeartbeats 16000000
section
open Go.RowKit Go.Shelf
def playS (s:Int×KV)(x:List Int):Int×KV:=if(decF x).2=0∧doE s.1 s.2 (decF x).1=0 then((decF x).1.epoch,s.2.withs (decF x).1.sets) else s
def playK (s:Int×KV)(x:List Int):Bool:=decide ((decF x).2=0∧doE s.1 s.2 (decF x).1=0)
structure PlayAt (w:World) (ab sb kb:Nat) (area ev:Int) (b n:Nat) (C:Nat→Prop) (l:KV) (ok:Bool):Prop where
 a:w.heap[ab]?=some (.cells #[.int .i64 area] 3 (0,0))
 s:w.heap[sb]?=some (.cells #[.int .u64 ev,.map (some b)] 167 (0,0))
 k:w.heap[kb]?=some (.cells #[.bool ok] 4 (0,0))
 m:MapKV w b n C l
 fine:l.Fine
 ev:0≤ev∧ev≤4611686018427387904
theorem PlayAt.kept0 {w w':World}{ab sb kb:Nat}{area ev:Int}{b n:Nat}{C:Nat→Prop}{l:KV}{ok:Bool}(h:PlayAt w ab sb kb area ev b n C l ok)(hu:Upd (fun _=>False) w w'):PlayAt w' ab sb kb area ev b n C l ok:=
 ⟨(hu.block _ (lt_of_heap h.a) (fun e=>e)).trans h.a,(hu.block _ (lt_of_heap h.s) (fun e=>e)).trans h.s,(hu.block _ (lt_of_heap h.k) (fun e=>e)).trans h.k,h.m.kept0 hu,h.fine,h.ev⟩
theorem cells_ne {w:World}{i j:Nat}{cs ds:Array Value}{t u:TypeId}(h1:w.heap[i]?=some (.cells cs t (0,0)))(h2:w.heap[j]?=some (.cells ds u (0,0)))(h:t≠u):i≠j:=by
 rintro rfl
 rw[h1] at h2
 injection h2 with h2
 injection h2 with _ h2
 exact h h2
theorem map_ne {w:World}{b n i:Nat}{C:Nat→Prop}{l:KV}{cs:Array Value}{t:TypeId}(hm:MapKV w b n C l)(h:w.heap[i]?=some (.cells cs t (0,0))):b≠i:=by
 rintro rfl
 obtain⟨es,c,q⟩:=hm.1.isMapBlock
 rw[h] at q
 cases q
theorem C_ne {w:World}{b n i:Nat}{C:Nat→Prop}{l:KV}{cs:Array Value}{t:TypeId}(hm:MapKV w b n C l)(h:w.heap[i]?=some (.cells cs t (0,0)))(ht:t≠5): ∀k,C k→k≠i:=by
 rintro k hk rfl
 obtain⟨ds,q⟩:=hm.1.rowC k hk
 rw[h] at q
 injection q with q
 injection q with _ q
 exact ht q
theorem PlayAt.setA {w:World}{ab sb kb:Nat}{area ev:Int}{b n:Nat}{C:Nat→Prop}{l:KV}{ok:Bool}(h:PlayAt w ab sb kb area ev b n C l ok)(x:Int):PlayAt (w.setCell ⟨ab,0,none⟩ (.int .i64 x)) ab sb kb x ev b n C l ok:=by
 have hu:=upd_own w ab 0 (.int .i64 x)
 refine⟨?_,(hu.block _ (lt_of_heap h.s) (cells_ne h.s h.a (by decide))).trans h.s,(hu.block _ (lt_of_heap h.k) (cells_ne h.k h.a (by decide))).trans h.k,h.m.kept hu (map_ne h.m h.a) (C_ne h.m h.a (by decide)),h.fine,h.ev⟩
 have:=blk_set (i:=0) (v:=.int .i64 x) h.a
 simpa using this
theorem PlayAt.setK {w:World}{ab sb kb:Nat}{area ev:Int}{b n:Nat}{C:Nat→Prop}{l:KV}{ok:Bool}(h:PlayAt w ab sb kb area ev b n C l ok)(x:Bool):PlayAt (w.setCell ⟨kb,0,none⟩ (.bool x)) ab sb kb area ev b n C l x:=by
 have hu:=upd_own w kb 0 (.bool x)
 refine⟨(hu.block _ (lt_of_heap h.a) (cells_ne h.a h.k (by decide))).trans h.a,(hu.block _ (lt_of_heap h.s) (cells_ne h.s h.k (by decide))).trans h.s,?_,h.m.kept hu (map_ne h.m h.k) (C_ne h.m h.k (by decide)),h.fine,h.ev⟩
 have:=blk_set (i:=0) (v:=.bool x) h.k
 simpa using this
theorem PlayAt.setS {w:World}{ab sb kb:Nat}{area ev ev':Int}{b n b' n':Nat}{C C':Nat→Prop}{l l':KV}{ok:Bool}(h:PlayAt w ab sb kb area ev b n C l ok)(hm:MapKV w b' n' C' l')(hf:l'.Fine)(he:0≤ev'∧ev'≤4611686018427387904):
  PlayAt ((w.setCell ⟨sb,0,none⟩ (.int .u64 ev')).setCell ⟨sb,1,none⟩ (.map (some b'))) ab sb kb area ev' b' n' C' l' ok∧Upd (fun k=>k=sb) w ((w.setCell ⟨sb,0,none⟩ (.int .u64 ev')).setCell ⟨sb,1,none⟩ (.map (some b'))):=by
 obtain⟨p1,p2⟩:=put2 (u:=.int .u64 ev') (v:=.map (some b')) h.s
 exact⟨⟨(p2.block _ (lt_of_heap h.a) (cells_ne h.a h.s (by decide))).trans h.a,p1,(p2.block _ (lt_of_heap h.k) (cells_ne h.k h.s (by decide))).trans h.k,hm.kept p2 (map_ne hm h.s) (C_ne hm h.s (by decide)),hf,he⟩,p2⟩
theorem do_any3 {b n c:Nat}{C:Nat→Prop}{ev:Int}{a:Option Addr}{l:KV}{B:BatchV}(w0 w:World)(h0:w0.heap.size≤w.heap.size)(hm:MapKV w b n C l)(hn:n≤1000000)(hl:l.Fine)(hs:SetsIn w a B.sets)(hr:B.right=true):
  Calls Tryz.prog 96 #[.agg #[.int .u64 ev,.map (some b)],.agg #[.int .u64 B.epoch,.bool B.large,.slice a B.sets.length c]] w fun e w'=> ∃ev' b',e=.returned (.tuple #[.agg #[.int .u64 ev',.map (some b')],.int .i64 (doE ev l B)])∧DidIn w0 n C ev l B ev' b' w'∧(doE ev l B≠0→ev'=ev∧b'=b)∧Upd (fun _=>False) w w':=by
 refine(do_any (c:=c) w hm hn hl hs hr).mono ?_
 rintro e w' ⟨hu,⟨hE,rfl⟩ | ⟨hE,b',n',C',rfl,h1,h2,h3,h4⟩⟩
 ·exact⟨ev,b,rfl,fun e=>absurd e hE,fun _=>⟨rfl,rfl⟩,hu⟩
 ·refine⟨B.epoch,b',by rw[hE];rfl,fun _=>⟨rfl,by omega,n',C',h1,?_,fun k hk=>(h4 k hk).imp_right (by omega)⟩,fun e=>absurd hE e,hu⟩
  have:=(BatchV.right_sets hr).2.1
  omega
def PlayAns (w:World)(ab sb kb:Nat)(area ev:Int)(b n:Nat)(C:Nat→Prop)(l:KV)(ok:Bool)(xs:List Int)(w':World):Prop:=
 ∃b' n' C',PlayAt w' ab sb kb (area+secsI xs.length) (playS (ev,l) xs).1 b' n' C' (playS (ev,l) xs).2 (ok && playK (ev,l) xs)∧n'≤n+48∧(b'=b∨w.heap.size≤b')∧(∀k,C' k→C k∨w.heap.size≤k)∧Upd (fun k=>k=ab∨k=sb∨k=kb) w w'
theorem play_any {ab sb kb:Nat}{area ev:Int}{b n xc:Nat}{C:Nat→Prop}{l:KV}{ok:Bool}{xa:Option Addr}{xs:List Int}(w:World)(h:PlayAt w ab sb kb area ev b n C l ok)(hx:BytesIn w (.slice xa xs.length xc) xs)(hB:Bytes xs)(hl:xs.length≤1099511627776)(hab: ∀a,xa=some a→xs≠[]→a.block≠ab)(har: -1000000000≤area∧area≤1000000000)(hn:n≤900000):
  Calls Tryz.prog 154 #[.slice xa xs.length xc,.pointer (some ⟨ab,0,none⟩),.pointer (some ⟨sb,0,none⟩),.pointer (some ⟨kb,0,none⟩)] w fun e w'=>(∃v,e=.returned v)∧PlayAns w ab sb kb area ev b n C l ok xs w':=by
 have hs0:0≤secsI xs.length∧secsI xs.length≤1000:=by unfold secsI;split<;> omega
 have hws:IntKind.i64.wrap (area+secsI xs.length)=area+secsI xs.length:=by rw[IntKind.wrap_i64];omega
 have HPA:=hid h;have HX:=hid hx;have HB:=hid hB;have HAB:=hid hab
 clear h hx hB hab
 go_enter Tryz.func154,Tryz.ntmps154
 go_upto_region 0 with fail
 have hA:w.drew.cell? ⟨ab,0,none⟩=some (.int .i64 area):=cells1_of HPA.out.a
 have HPA2:=hid (HPA.out.kept0 ((Upd.refl (fun _=>False) w).drew))
 have HX2:=hid (HX.out.kept ((Upd.refl (fun _=>False) w).drew))
 have HU0:=hid ((Upd.refl (fun _=>False) w).drew)
 refine wp_region_G 5 (fun W=>W.cell? ⟨ab,0,none⟩=some (.int .i64 area)) [false,false,false,false,false,false] rfl (by kernel_rfl) ?_
 generalize w.drew=wd at hA HPA2 HX2 HU0 ⊢
 refine tqZ 0 (.int .i64 area) [] hA (fun w5 q1=>?_) ?_
 ·go_simp
 simp only[pZ,nZ,bZ,List.set]
 refine tqZ 1 (.slice xa xs.length xc) [] hA (fun w5 q1=>?_) ?_
 ·go_simp
 simp only[pZ,nZ,bZ,List.set]
 refine tqZ 2 (.int .i64 xs.length) [] hA (fun w5 q1=>?_) ?_
 ·go_simp
 simp only[pZ,nZ,bZ,List.set]
 refine wpG_do (i:=3) rfl (by kernel_rfl) rfl (fun K hK=>?_)
 have HKK:=hid hK
 clear hK
 go_step
 refine(sectors_any xs.length wd).mono ?_
 rintro e wd2 ⟨rfl,rfl⟩
 refine HKK.out _ _ hA ?_
 clear HKK
 simp only[pZ,nZ,bZ,List.set]
 refine tqZ 4 (.int .i64 (area+secsI xs.length)) [] hA (fun w5 q1=>?_) ?_
 ·go_simp
 simp only[pZ,nZ,bZ,List.set]
 refine wpG_tail_lit (k:=5) rfl rfl (by kernel_rfl) ?_
 simp only[List.drop]
 have f0:wd.frozen? ⟨ab,0,none⟩=false:=frozen_of_heap HPA2.out.a
 have c0:=cells1_of HPA2.out.a
 clear hA
 go_upto_region 1 with fail
 obtain⟨w2,hw2⟩: ∃w2,w2=wd.setCell ⟨ab,0,none⟩ (.int .i64 (area+secsI xs.length)):=⟨_,rfl⟩
 rw[←hw2]
 have hu2:Upd (fun k=>k=ab) wd w2:=by rw[hw2];exact upd_own wd ab 0 _
 have HP2:=hid (show PlayAt w2 ab sb kb (area+secsI xs.length) ev b n C l ok by rw[hw2];exact HPA2.out.setA _)
 have HXX:=hid (show BytesIn w2 (.slice xa xs.length xc) xs from HX2.out.keptF hu2 (fun hne a' n' c' e=>by injection e with e;exact HAB.out a' e hne))
 have HU2:=hid (show Upd (fun k=>k=ab∨k=sb∨k=kb) w w2 from(HU0.out.mono (F:=fun _=>False) (fun _ _ e=>e.elim)).trans (hu2.mono (F:=fun k=>k=ab) (fun _ _ e=>.inl e)))
 clear hw2 hu2 f0 c0 hws
 go_wp2_with (go_at_call 27;fail)
 refine(decode_any w2 HXX.out HB.out hl).mono ?_
 rintro e w3 ⟨ba,bc,rfl,⟨CB,hsa,hrc,hlb⟩,hfin,_,hu3⟩
 obtain⟨B,hBB⟩: ∃B,B=(decF xs).1:=⟨_,rfl⟩
 obtain⟨E,hE⟩: ∃E,E=(decF xs).2:=⟨_,rfl⟩
 rw[←hBB] at hsa hfin
 rw[←hBB,←hE]
 have HBE:=hid hBB;have HEE:=hid hE;have HSA:=hid hsa.setsIn;have HFI:=hid hfin
 have HP3:=hid (HP2.out.kept0 hu3)
 have HU3:=hid (show Upd (fun k=>k=ab∨k=sb∨k=kb) w w3 from HU2.out.trans (hu3.mono (F:=fun _=>False) (fun _ _ e=>e.elim)))
 clear hBB hE hsa hrc hlb hfin hu3 HP2 HPA2 HX2 HXX HU0
 unfold batchV
 simp only[]
 go_upto_region 2 with fail
 obtain⟨w4,hw4⟩: ∃w4,w4=w3.alloc (.cells #[.int .u64 B.epoch,.bool B.large,.slice ba B.sets.length bc] 56):=⟨_,rfl⟩
 rw[←hw4]
 have hu4:Upd (fun _=>False) w3 w4:=by rw[hw4];exact(Upd.refl _ w3).alloc _
 have hx4:w4.heap[w3.heap.size]?=some (.cells #[.int .u64 B.epoch,.bool B.large,.slice ba B.sets.length bc] 56 (0,0)):=by rw[hw4];exact alloc_at rfl
 have HP4:=hid (HP3.out.kept0 hu4)
 have HSA:=hid (HSA.out.kept hu4)
 have HU4:=hid (show Upd (fun k=>k=ab∨k=sb∨k=kb) w w4 from HU3.out.trans (hu4.mono (F:=fun _=>False) (fun _ _ e=>e.elim)))
 have HX4:=hid hx4
 generalize w3.heap.size=t5 at hx4 HX4 ⊢
 clear hw4 hu4 hx4 HP3 HU3
 have c3:=cells1_of HP4.out.k
 have f3:w4.frozen? ⟨kb,0,none⟩=false:=frozen_of_heap HP4.out.k
 by_cases hE0:E=0
 rotate_left
 ·have hE1:(E == 0)=false:=by simpa using hE0
  have HK0:=hid (show playK (ev,l) xs=false by unfold playK;rw[decide_eq_false (fun e=>hE0 (HEE.out.trans e.1))])
  have HS0:=hid (show playS (ev,l) xs=(ev,l) by unfold playS;rw[if_neg (fun e=>hE0 (HEE.out.trans e.1))])
  clear hE0
  cases ok
  all_goals
   go_wp2
   go_end0
   refine⟨⟨_,rfl⟩,b,n,C,?_,by omega,.inl rfl,fun k hk=>.inl hk,HU4.out.trans ((upd_own w4 kb 0 _).mono (F:=fun k=>k=kb) (fun _ _ e=>.inr (.inr e)))⟩
   rw[HS0.out,HK0.out,Bool.and_false]
   exact HP4.out.setK _
 ·subst hE0
  have hed:=enc_dec HB.out HEE.out.symm
  rw[←HBE.out] at hed
  have HR:=hid hed.2
  have HN:=hid hn
  obtain⟨x0,x1⟩:=cells2_of HP4.out.s
  obtain⟨y0,y1,y2⟩:=cells3_of HX4.out
  clear hed
  go_wp2_with (go_at_call 96;fail)
  refine(do_any3 (c:=bc) w w4 HU4.out.size HP4.out.m (by omega) HP4.out.fine HSA.out HR.out).mono ?_
  rintro e w5 ⟨ev1,b1,rfl,hdi,hdn,hu5⟩
  obtain⟨E,hE⟩: ∃E,E=doE ev l B:=⟨_,rfl⟩
  rw[←hE]
  have HE:=hid hE;have HDI:=hid hdi;have HDN:=hid hdn
  have HP5:=hid (HP4.out.kept0 hu5)
  have HU5:=hid (show Upd (fun k=>k=ab∨k=sb∨k=kb) w w5 from HU4.out.trans (hu5.mono (F:=fun _=>False) (fun _ _ e=>e.elim)))
  have HPK:=hid (show playK (ev,l) xs=decide (E=0) by
   unfold playK
   rw[←HEE.out,←HBE.out,←HE.out]
   simp)
  have HPS:=hid (show playS (ev,l) xs=if E=0 then(B.epoch,l.withs B.sets) else(ev,l) by
   unfold playS
   rw[←HEE.out,←HBE.out,←HE.out]
   simp)
  have c3:=cells1_of HP5.out.k
  have f3:w5.frozen? ⟨kb,0,none⟩=false:=frozen_of_heap HP5.out.k
  obtain⟨x0,x1⟩:=cells2_of HP5.out.s
  have f0:w5.frozen? ⟨sb,0,none⟩=false:=frozen_of_heap HP5.out.s
  have f1:w5.frozen? ⟨sb,1,none⟩=false:=frozen_of_heap HP5.out.s
  clear hE hdi hdn hu5 y0 y1 y2
  simp only[]
  by_cases hE0:E=0
  rotate_left
  ·obtain⟨h1,h2⟩:=HDN.out (by rw[←HE.out];exact hE0)
   subst h1
   subst h2
   have hE1:(E == 0)=false:=by simpa using hE0
   have HK0:=hid (show playK (ev1,l) xs=false by rw[HPK.out,decide_eq_false hE0])
   have HS0:=hid (show playS (ev1,l) xs=(ev1,l) by rw[HPS.out,if_neg hE0])
   clear hE0
   go_upto_region 4 with fail
   obtain⟨p1,p2⟩:=HP5.out.setS (ev':=ev1) HP5.out.m HP5.out.fine HP5.out.ev
   obtain⟨w6,hw6⟩: ∃w6,w6=(w5.setCell ⟨sb,0,none⟩ (.int .u64 ev1)).setCell ⟨sb,1,none⟩ (.map (some b1)):=⟨_,rfl⟩
   rw[←hw6] at p1 p2 ⊢
   have P1:=hid p1;have P2:=hid p2
   have c3:=cells1_of p1.k
   have f3:w6.frozen? ⟨kb,0,none⟩=false:=frozen_of_heap p1.k
   clear p1 p2 hw6 x0 x1 f0 f1
   cases ok
   all_goals
    go_wp2
    go_end0
    refine⟨⟨_,rfl⟩,b1,n,C,?_,by omega,.inl rfl,fun k hk=>.inl hk,(HU5.out.trans (P2.out.mono (F:=fun k=>k=sb) (fun _ _ e=>.inr (.inl e)))).trans ((upd_own _ kb 0 _).mono (F:=fun k=>k=kb) (fun _ _ e=>.inr (.inr e)))⟩
    rw[HS0.out,HK0.out,Bool.and_false]
    exact P1.out.setK _
  ·have hE1:(E == 0)=true:=by simpa using hE0
   obtain⟨h1,h2,n1,C1,h3,h4,h5⟩:=HDI.out (by rw[←HE.out];exact hE0)
   subst h1
   have hok:B.Ok:=⟨⟨by
    have: ¬B.epoch<ev:=fun hlt=>by
     have:=HE.out
     unfold doE at this
     rw[if_pos hlt,hE0] at this
     omega
    have:=HP5.out.ev
    omega,by have:=(BatchV.right_sets HR.out).1;omega⟩,fun x hx=>⟨(HFI.out x hx).2.2.2.1,(HFI.out x hx).2.2.2.2⟩⟩
   have hfn:=doE_fine HP5.out.fine HR.out hok (by rw[←HE.out];exact hE0)
   have HFN:=hid hfn.1;have HM1:=hid h3;have HN1:=hid h4;have HC1:=hid h5;have HB1:=hid h2
   have HEV:=hid (show 0≤B.epoch∧B.epoch≤4611686018427387904 from⟨hok.epoch.1,(BatchV.right_sets HR.out).1⟩)
   have HK0:=hid (show playK (ev,l) xs=true by rw[HPK.out,decide_eq_true hE0])
   have HS0:=hid (show playS (ev,l) xs=(B.epoch,l.withs B.sets) by rw[HPS.out,if_pos hE0])
   clear hE0 hok hfn h2 h3 h4 h5
   go_upto_region 4 with fail
   obtain⟨p1,p2⟩:=HP5.out.setS (ev':=B.epoch) HM1.out HFN.out HEV.out
   obtain⟨w6,hw6⟩: ∃w6,w6=(w5.setCell ⟨sb,0,none⟩ (.int .u64 B.epoch)).setCell ⟨sb,1,none⟩ (.map (some b1)):=⟨_,rfl⟩
   rw[←hw6] at p1 p2 ⊢
   have P1:=hid p1;have P2:=hid p2
   have c3:=cells1_of p1.k
   have f3:w6.frozen? ⟨kb,0,none⟩=false:=frozen_of_heap p1.k
   clear p1 p2 hw6 x0 x1 f0 f1
   cases ok
   all_goals
    go_wp2
    go_end0
    refine⟨⟨_,rfl⟩,b1,n1,C1,?_,HN1.out,.inr HB1.out,HC1.out,(HU5.out.trans (P2.out.mono (F:=fun k=>k=sb) (fun _ _ e=>.inr (.inl e)))).trans ((upd_own _ kb 0 _).mono (F:=fun k=>k=kb) (fun _ _ e=>.inr (.inr e)))⟩
    rw[HS0.out,HK0.out,Bool.and_true]
    exact P1.out.setK _
theorem run_store_func {P:Program}{w:World}{a:Addr}{fn:Fn}{f c:Array Value}:(store a (.func fn f c)).run P w=stored P w a (.func fn f c) .plain:=run_store P w a _ _ rfl
attribute [local go_sem] Oper.semAt_some run_store_func
def snapS (p0:List Int):(Int×KV)×Bool:=if p0=[] then((0,[]),true) else(playS (0,[]) p0,playK (0,[]) p0 && (wholeF (playS (0,[]) p0).1 (playS (0,[]) p0).2 == p0))
def playN (s:(Int×KV)×Bool)(x:List Int):(Int×KV)×Bool:=(playS s.1 x,s.2 && playK s.1 x)
def areaN (a:Int)(l:List (List Int)):Int:=l.foldl (fun a x=>a+secsI x.length) a
def foundN (p0:List Int)(l:List (List Int)):(Int×KV)×Bool:=l.foldl playN (snapS p0)
theorem PlayAt.keptU {F:Nat→Prop}{w w':World}{ab sb kb:Nat}{area ev:Int}{b n:Nat}{C:Nat→Prop}{l:KV}{ok:Bool}(h:PlayAt w ab sb kb area ev b n C l ok)(hu:Upd F w w')(hF: ∀k o,w.heap[k]?=some o→(o.isCells=true∨ ∃es c,o=.map es c)→ ¬F k):PlayAt w' ab sb kb area ev b n C l ok:=by
 have hb: ¬F b:=by
  obtain⟨es,c,q⟩:=h.m.1.isMapBlock
  exact hF _ _ q (.inr ⟨_,_,rfl⟩)
 refine⟨(hu.block _ (lt_of_heap h.a) (hF _ _ h.a (.inl rfl))).trans h.a,(hu.block _ (lt_of_heap h.s) (hF _ _ h.s (.inl rfl))).trans h.s,(hu.block _ (lt_of_heap h.k) (hF _ _ h.k (.inl rfl))).trans h.k,h.m.kept hu hb (fun k hk=>?_),h.fine,h.ev⟩
 obtain⟨cs,q⟩:=h.m.1.rowC k hk
 exact hF _ _ q (.inl rfl)
structure FnAt (w w1:World) (ab sb kb fb:Nat) (X:Lg) (s0:(Int×KV)×Bool) (a0:Int) (pre:List (Nat×Value)) (W:World):Prop where
 play: ∃b n C,PlayAt W ab sb kb (areaN a0 (X.parts.tail.take pre.length)) ((X.parts.tail.take pre.length).foldl playN s0).1.1 b n C ((X.parts.tail.take pre.length).foldl playN s0).1.2 ((X.parts.tail.take pre.length).foldl playN s0).2∧n≤48+48 * pre.length∧w.heap.size≤b∧ ∀k,C k→w.heap.size≤k
 fn:W.heap[fb]?=some (.cells #[.func (.func 154) #[] #[.pointer (some ⟨ab,0,none⟩),.pointer (some ⟨sb,0,none⟩),.pointer (some ⟨kb,0,none⟩)]] 195 (0,0))
 upd:Upd (fun k=>k=ab∨k=sb∨k=kb) w1 W
 len:pre.length+1≤X.parts.length
theorem FnAt.upd0 {w w1 W W':World}{ab sb kb fb:Nat}{X:Lg}{s0:(Int×KV)×Bool}{a0:Int}{pre:List (Nat×Value)}(h:FnAt w w1 ab sb kb fb X s0 a0 pre W)(hu:Upd (fun _=>False) W W'):FnAt w w1 ab sb kb fb X s0 a0 pre W':=by
 obtain⟨⟨b,n,C,h1,h2⟩,h3,h4,h5⟩:=h
 exact⟨⟨b,n,C,h1.kept0 hu,h2⟩,(hu.block _ (lt_of_heap h3) (fun e=>e)).trans h3,h4.trans (hu.mono (F:=fun _=>False) (fun _ _ e=>e.elim)),h5⟩
theorem FnAt.put {w w1 W:World}{ab sb kb fb lr:Nat}{X:Lg}{s0:(Int×KV)×Bool}{a0:Int}{pre:List (Nat×Value)}{o:Loop}(o':Obj)(h:FnAt w w1 ab sb kb fb X s0 a0 pre W)(hl:w1.heap.size≤lr)(ho:W.heap[lr]?=some (.loop o)):FnAt w w1 ab sb kb fb X s0 a0 pre (W.putObj lr o'):=by
 obtain⟨⟨b,n,C,h1,h2⟩,h3,h4,h5⟩:=h
 have hF: ∀k p,W.heap[k]?=some p→(p.isCells=true∨ ∃es c,p=.map es c)→ ¬k=lr:=by
  rintro k p hp hc rfl
  rw[ho] at hp
  injection hp with hp
  subst hp
  rcases hc with hc | ⟨es,c,hc⟩
  ·cases hc
  ·cases hc
 have hu:=upd_put (W:=W) (l:=lr) o'
 exact⟨⟨b,n,C,h1.keptU hu hF,h2⟩,(hu.block _ (lt_of_heap h3) (hF _ _ h3 (.inl rfl))).trans h3,h4.step (hu.mono (F:=fun k=>k=lr) (G:=fun k=>k=lr) (fun _ _ e=>e)) (fun k hk e=>by omega),h5⟩
theorem Log.kept' {w w':World}{q p:Nat}{X:Lg}{G:Nat→Prop}(h:Log w q p X G)(hu:Upd (fun _=>False) w w'):Log w' q p X G:=h.kept hu (fun _ _ e=>e)
theorem areaN_snoc (a:Int)(l:List (List Int))(x:List Int):areaN a (l++[x])=areaN a l+secsI x.length:=by simp[areaN]
theorem secsI_bound (n:Nat):0≤secsI n∧secsI n≤1000:=by unfold secsI;split<;> omega
theorem areaN_bound: ∀(l:List (List Int)) (a:Int),a≤areaN a l∧areaN a l≤a+1000 * l.length
 | [],a=>by simp[areaN]
 |x :: l,a=>by
  have h1:=secsI_bound x.length
  have h2:=areaN_bound l (a+secsI x.length)
  have e:areaN a (x :: l)=areaN (a+secsI x.length) l:=rfl
  rw[e,List.length_cons]
  omega
theorem run_load167 {w:World}{b:Nat}{u v:Value}(h:w.heap[b]?=some (.cells #[u,v] 167 (0,0))):(loadVar 167 ⟨b,0,none⟩).run Tryz.prog w=.ok (.agg #[u,v]) w:=res_at h
theorem run_load3 {w:World}{b:Nat}{v:Int}(h:w.heap[b]?=some (.cells #[.int .i64 v] 3 (0,0))):(loadVar 3 ⟨b,0,none⟩).run Tryz.prog w=.ok (.int .i64 v) w:=by
 have c:=cells1_of h
 simp[loadVar,isAgg,run_underlying Tryz.underlying3,Sem.run_bind,c]
theorem results_cell3 {P:Program}{fn:Func}{ts:Array Value}{w:World}{a b c:Nat}{t s r:TypeId}{p q o:Addr}{v x y:Value}(hr:fn.results=#[.cell a t,.cell b s,.cell c r])(ha:ts.getD a undef=.pointer (some p))(hb:ts.getD b undef=.pointer (some q))(hc:ts.getD c undef=.pointer (some o))(hl:(loadVar t p).run P w=.ok v w)(hm:(loadVar s q).run P w=.ok x w)(hn:(loadVar r o).run P w=.ok y w):
  (Go.results fn ts).run P w=.ok (.tuple #[v,x,y]) w:=by
 unfold Go.results
 rw[hr]
 have ha':ts[a]?.getD undef=.pointer (some p):=by simpa using ha
 have hb':ts[b]?.getD undef=.pointer (some q):=by simpa using hb
 have hc':ts[c]?.getD undef=.pointer (some o):=by simpa using hc
 simp[asAddr,ha',hb',hc',hl,hm,hn]
def noPanic (Q:Exit→Act→World→Prop):Exit→Act→World→Prop
 |.panic _,_,_=>False
 |e,a,w=>Q e a w
theorem noPanic_of {Q:Exit→Act→World→Prop}: ∀(e:Exit) (a:Act) (w:World),noPanic Q e a w→Q e a w:=fun e a w h=>by
 cases e<;> first | exact h | exact h.elim
theorem rfound_any {q p:Nat}{X:Lg}{G:Nat→Prop}{p0:List Int}{txs:List (List Int)}(w:World)(hlog:Log w q p X G)(hok:X.Ok)(hX:X.parts=p0 :: txs):
  Calls Tryz.prog 100 #[.agg #[.pointer (some ⟨q,0,none⟩)]] w fun e w'=> ∃b n C,e=.returned (.tuple #[.agg #[.int .u64 (foundN p0 txs).1.1,.map (some b)],.int .i64 (areaN (X.h.area - X.used) X.parts),.bool (foundN p0 txs).2])∧MapKV w' b n C (foundN p0 txs).1.2∧(foundN p0 txs).1.2.Fine∧(0≤(foundN p0 txs).1.1∧(foundN p0 txs).1.1≤4611686018427387904)∧n≤48+48 * X.parts.length∧w.heap.size≤b∧(∀k,C k→w.heap.size≤k)∧Upd (fun _=>False) w w':=by
 have HLG:=hid hlog;have HOK:=hid hok;have HXP:=hid hX
 have HGL:=hid hlog.lt
 have hp0:=hok.bytes p0 (by rw[hX];simp)
 have HP0:=hid hp0
 obtain⟨w1,hw1⟩: ∃w1,w1=(((w.alloc (.cells #[.pointer (some ⟨q,0,none⟩)] 170)).alloc (.cells #[.int .u64 0,.map none] 167)).alloc (.cells #[.int .i64 0] 3)).alloc (.cells #[.bool false] 4):=⟨_,rfl⟩
 have hx1:w1.heap[w.heap.size]?=some (.cells #[.pointer (some ⟨q,0,none⟩)] 170 (0,0)):=by rw[hw1];exact(alloc_lt (by simp<;> omega)).trans ((alloc_lt (by simp<;> omega)).trans ((alloc_lt (by simp)).trans (alloc_at rfl)))
 have hx2:w1.heap[w.heap.size+1]?=some (.cells #[.int .u64 0,.map none] 167 (0,0)):=by rw[hw1];exact(alloc_lt (by simp<;> omega)).trans ((alloc_lt (by simp<;> omega)).trans (alloc_at (by simp<;> omega)))
 have hx3:w1.heap[w.heap.size+2]?=some (.cells #[.int .i64 0] 3 (0,0)):=by rw[hw1];exact(alloc_lt (by simp<;> omega)).trans (alloc_at (by simp<;> omega))
 have hx4:w1.heap[w.heap.size+3]?=some (.cells #[.bool false] 4 (0,0)):=by rw[hw1];exact alloc_at (by simp)
 have hz1:w1.heap.size=w.heap.size+4:=by rw[hw1];simp
 have hu1:Upd (fun _=>False) w w1:=by rw[hw1];exact((((Upd.refl _ w).alloc _).alloc _).alloc _).alloc _
 have HW1:=hid hw1;have HX1:=hid hx1;have HX2:=hid hx2;have HX3:=hid hx3;have HX4:=hid hx4;have HZ1:=hid hz1;have HU1:=hid hu1
 obtain⟨lb,hlb⟩: ∃lb,lb=w.heap.size:=⟨_,rfl⟩
 clear hlog hok hX hp0 hw1 hx1 hx2 hx3 hx4 hz1 hu1
 refine(callsIn_wide (n:=5)).1 ?_
 refine callsIn_of_wp_marks Tryz.func100 rfl trivial ?_ rfl
 simp only[Tryz.ntmps100,List.size_toArray,List.length_cons,List.length_nil,Nat.reduceAdd,Nat.reduceSub,Array.replicate_succ,Array.replicate_zero,List.push_toArray,List.append_toArray,List.nil_append,List.cons_append]
 refine wpIn_mono ?_ noPanic_of
 refine wpIn_wide.2 ?_
 go_upto_region 1 with fail
 rw[←HW1.out]
 obtain⟨kb,hkb⟩: ∃kb,kb=w.heap.size+1+1+1:=⟨_,rfl⟩
 obtain⟨ab,hab⟩: ∃ab,ab=w.heap.size+1+1:=⟨_,rfl⟩
 obtain⟨sb,hsb⟩: ∃sb,sb=w.heap.size+1:=⟨_,rfl⟩
 rw[←hkb,←hab,←hsb,←hlb]
 have HX1:RowKit.Hid (w1.heap[lb]?=some (.cells #[.pointer (some ⟨q,0,none⟩)] 170 (0,0))):=hid (by rw[hlb];exact HX1.out)
 have HX2:RowKit.Hid (w1.heap[sb]?=some (.cells #[.int .u64 0,.map none] 167 (0,0))):=hid (by rw[hsb];exact HX2.out)
 have HX3:RowKit.Hid (w1.heap[ab]?=some (.cells #[.int .i64 0] 3 (0,0))):=hid (by rw[hab];exact HX3.out)
 have HX4:RowKit.Hid (w1.heap[kb]?=some (.cells #[.bool false] 4 (0,0))):=hid (by rw[hkb];exact HX4.out)
 have HLO:=hid (show w.heap.size≤lb∧w.heap.size≤sb∧w.heap.size≤ab∧w.heap.size≤kb by omega)
 clear hkb hab hsb hlb HW1
 have hmk: ∀W:World,(Instr.makeMap 165 none).run Tryz.prog W=.ok (.map (some W.heap.size)) (W.alloc (.map #[] 0)):=fun W=>run_makeMap 165 W
 have hum:Upd (fun _=>False) w1 (w1.alloc (.map #[] 0)):=(Upd.refl _ w1).alloc _
 have hx2:=(hum.block _ (lt_of_heap HX2.out) (fun e=>e)).trans HX2.out
 have hx4:=(hum.block _ (lt_of_heap HX4.out) (fun e=>e)).trans HX4.out
 have hp2:PlayAt ((((w1.alloc (.map #[] 0)).setCell ⟨sb,1,none⟩ (.map (some w1.heap.size)))).setCell ⟨kb,0,none⟩ (.bool true)) ab sb kb 0 0 w1.heap.size 0 (fun _=>False) [] true:=by
  have h1:((w1.alloc (.map #[] 0)).setCell ⟨sb,1,none⟩ (.map (some w1.heap.size))).heap[sb]?=some (.cells #[.int .u64 0,.map (some w1.heap.size)] 167 (0,0)):=by
   have:=blk_set (i:=1) (v:=.map (some w1.heap.size)) hx2
   simpa using this
  have hu:=upd_own (w1.alloc (.map #[] 0)) sb 1 (.map (some w1.heap.size))
  have h3:=(hum.block _ (lt_of_heap HX3.out) (fun e=>e)).trans HX3.out
  have h0:PlayAt ((w1.alloc (.map #[] 0)).setCell ⟨sb,1,none⟩ (.map (some w1.heap.size))) ab sb kb 0 0 w1.heap.size 0 (fun _=>False) [] false:=
   ⟨(hu.block _ (lt_of_heap h3) (cells_ne h3 hx2 (by decide))).trans h3,h1,(hu.block _ (lt_of_heap hx4) (cells_ne hx4 hx2 (by decide))).trans hx4,(MapKV.made w1).kept hu (map_ne (MapKV.made w1) hx2) (fun _ e=>e.elim),KV.Fine.nil,by omega⟩
  exact h0.setK true
 have hup:Upd (fun k=>k=ab∨k=sb∨k=kb) w1 ((((w1.alloc (.map #[] 0)).setCell ⟨sb,1,none⟩ (.map (some w1.heap.size)))).setCell ⟨kb,0,none⟩ (.bool true)):=
  ((hum.mono (F:=fun _=>False) (fun _ _ e=>e.elim)).trans ((upd_own _ sb 1 _).mono (F:=fun k=>k=sb) (fun _ _ e=>.inr (.inl e)))).trans ((upd_own _ kb 0 _).mono (F:=fun k=>k=kb) (fun _ _ e=>.inr (.inr e)))
 have hne:sb≠kb:=cells_ne hx2 hx4 (by decide)
 obtain⟨y0,y1⟩:=cells2_of hx2
 have y2:=cells1_of hx4
 have g1:(w1.alloc (.map #[] 0)).frozen? ⟨sb,1,none⟩=false:=frozen_of_heap hx2
 have g2:(w1.alloc (.map #[] 0)).frozen? ⟨kb,0,none⟩=false:=frozen_of_heap hx4
 obtain⟨w2,hw2⟩: ∃w2,w2=(((w1.alloc (.map #[] 0)).setCell ⟨sb,1,none⟩ (.map (some w1.heap.size)))).setCell ⟨kb,0,none⟩ (.bool true):=⟨_,rfl⟩
 rw[←hw2] at hp2 hup
 have HP2:=hid hp2;have HUP:=hid hup;have HW2:=hid hw2;have HMB:=hid (show w.heap.size≤w1.heap.size from HU1.out.size)
 clear hum hx2 hx4 hp2 hup hw2
 go_upto_region 2 with fail
 rw[←HW2.out]
 have hne1:lb≠ab∧lb≠sb∧lb≠kb:=⟨cells_ne HX1.out HX3.out (by decide),cells_ne HX1.out HX2.out (by decide),cells_ne HX1.out HX4.out (by decide)⟩
 have hw02:Upd (fun _=>False) w w2:=HU1.out.step HUP.out (fun k hk e=>by have:=HLO.out;omega)
 have hx1:=(HUP.out.block _ (lt_of_heap HX1.out) (fun e=>by omega)).trans HX1.out
 have c1:=cells1_of hx1
 have HX12:=hid hx1
 have HW02:=hid hw02
 clear y0 y1 y2 g1 g2 hne hmk hx1 hw02 HW2 HX1 HX2 HX3 HX4
 go_wp2_with (go_at_call 54;fail)
 refine(left_any w2 (HLG.out.kept' HW02.out) HOK.out).mono ?_
 rintro e w3 ⟨rfl,hu3⟩
 have hp3:=HP2.out.kept0 hu3
 have y3:=cells1_of hp3.a
 have g3:w3.frozen? ⟨ab,0,none⟩=false:=frozen_of_heap hp3.a
 have hp4:=hp3.setA (X.h.area - X.used)
 have hu4:=upd_own w3 ab 0 (.int .i64 (X.h.area - X.used))
 have hx14:=(hu4.block _ (Nat.lt_of_lt_of_le (lt_of_heap HX12.out) hu3.size) hne1.1).trans ((hu3.block _ (lt_of_heap HX12.out) (fun e=>e)).trans HX12.out)
 obtain⟨w4,hw4⟩: ∃w4,w4=w3.setCell ⟨ab,0,none⟩ (.int .i64 (X.h.area - X.used)):=⟨_,rfl⟩
 rw[←hw4] at hp4 hu4 hx14
 have HW4:=hid hw4;have HP4:=hid hp4;have HX14:=hid hx14
 have HU24:=hid (show Upd (fun k=>k=ab∨k=sb∨k=kb) w1 w4 from HUP.out.trans ((hu3.mono (F:=fun _=>False) (fun _ _ e=>e.elim)).trans (hu4.mono (F:=fun k=>k=ab) (fun _ _ e=>.inl e))))
 clear hw4 hp4 hu3 hp3 hu4 hx14 c1 HP2 HX12
 simp only[]
 go_upto_region 3 with fail
 rw[←HW4.out]
 clear y3 g3 HW4
 go_upto_region 4 with fail
 obtain⟨fb,hfb⟩: ∃fb,fb=w4.heap.size:=⟨_,rfl⟩
 obtain⟨w5,hw5⟩: ∃w5,w5=w4.alloc (.cells #[.func (.func 154) #[] #[.pointer (some ⟨ab,0,none⟩),.pointer (some ⟨sb,0,none⟩),.pointer (some ⟨kb,0,none⟩)]] 195):=⟨_,rfl⟩
 rw[←hw5,←hfb]
 have hu5:Upd (fun _=>False) w4 w5:=by rw[hw5];exact(Upd.refl _ w4).alloc _
 have hxf:w5.heap[fb]?=some (.cells #[.func (.func 154) #[] #[.pointer (some ⟨ab,0,none⟩),.pointer (some ⟨sb,0,none⟩),.pointer (some ⟨kb,0,none⟩)]] 195 (0,0)):=by rw[hw5];exact alloc_at hfb
 have hx15:=(hu5.block _ (lt_of_heap HX14.out) (fun e=>e)).trans HX14.out
 have hu15:=HU24.out.trans (hu5.mono (F:=fun _=>False) (G:=fun k=>k=ab∨k=sb∨k=kb) (fun _ _ e=>e.elim))
 have hw05:Upd (fun _=>False) w w5:=HU1.out.step hu15 (fun k hk e=>by have:=HLO.out;omega)
 have c1:=cells1_of hx15
 have HXF:=hid hxf;have HX15:=hid hx15;have HU15:=hid hu15;have HW05:=hid hw05;have HP5:=hid (HP4.out.kept0 hu5)
 have HFB:=hid (show w.heap.size≤fb by rw[hfb];exact Nat.le_trans HU1.out.size HU24.out.size)
 clear hu5 hxf hx15 hu15 hw05 hw5 hfb HP4 HX14 HU24
 go_wp2_with (go_at_call 71;fail)
 refine(snap_any w5 (HLG.out.kept' HW05.out) HOK.out (b:=p0) (by rw[HXP.out];rfl)).mono ?_
 rintro e w6 ⟨u,rfl,hown,hu6⟩
 obtain⟨ua,uc,rfl,_⟩:=hown.bytesAt.1.slice
 have HOWN:=hid hown
 have HP6:=hid (HP5.out.kept0 hu6)
 have HXF:=hid ((hu6.block _ (lt_of_heap HXF.out) (fun e=>e)).trans HXF.out)
 have HX15:=hid ((hu6.block _ (lt_of_heap HX15.out) (fun e=>e)).trans HX15.out)
 have HU15:=hid (HU15.out.trans (hu6.mono (F:=fun _=>False) (G:=fun k=>k=ab∨k=sb∨k=kb) (fun _ _ e=>e.elim)))
 have HS6:=hid (Nat.le_trans HW05.out.size hu6.size)
 have HS5:=hid (show w.heap.size≤w5.heap.size from HW05.out.size)
 have HAB5:=hid (show ab<w5.heap.size∧sb<w5.heap.size∧kb<w5.heap.size from⟨lt_of_heap HP5.out.a,lt_of_heap HP5.out.s,lt_of_heap HP5.out.k⟩)
 clear hown hu6 HP5 c1 HW05
 simp only[]
 go_upto_if 20 with fail
 obtain⟨a1,ha1⟩: ∃a1,a1=X.h.area - X.used+secsI p0.length:=⟨_,rfl⟩
 have HA1:=hid ha1
 have hs0:0≤secsI p0.length∧secsI p0.length≤1000:=by unfold secsI;split<;> omega
 have HAR:=hid (show -1000000000≤X.h.area - X.used∧X.h.area - X.used≤1000000 by have:=HOK.out.area;have:=HOK.out.used;omega)
 have HAR1:=hid (show -1000000≤a1∧a1≤1000000 by rw[ha1];have:=HOK.out.area;have:=HOK.out.used;omega)
 clear ha1 hs0
 go_cut [20] from 21 to 34 (fun v wx=> ∃b n C,PlayAt wx ab sb kb a1 (snapS p0).1.1 b n C (snapS p0).1.2 (snapS p0).2∧n≤48∧w.heap.size≤b∧(∀k,C k→w.heap.size≤k)∧Upd (fun k=>k=ab∨k=sb∨k=kb) w6 wx)
 case first=>
  by_cases hp0:p0=[]
  ·have HE0:=hid hp0
   have hnp: ¬0<p0.length:=by rw[hp0];simp
   clear hp0
   go_upto_region 8 with fail
   clear hnp
   have hA:w6.drew.cell? ⟨ab,0,none⟩=some (.int .i64 (X.h.area - X.used)):=cells1_of HP6.out.a
   have hws:IntKind.i64.wrap (X.h.area - X.used+secsI 0)=a1:=by
    have h1:=HA1.out
    rw[HE0.out] at h1
    have h2:=HAR1.out
    rw[IntKind.wrap_i64]
    simp only[List.length_nil,Int.ofNat_zero,Int.cast_ofNat_Int] at h1
    omega
   have HPD:=hid (HP6.out.kept0 ((Upd.refl (fun _=>False) w6).drew))
   have HUD:=hid ((Upd.refl (fun _=>False) w6).drew)
   refine wp_region_G 3 (fun W=>W.cell? ⟨ab,0,none⟩=some (.int .i64 (X.h.area - X.used))) [false,false,false,false] rfl (by kernel_rfl) ?_
   generalize w6.drew=wd at hA HPD HUD ⊢
   refine tqZ 0 (.int .i64 (X.h.area - X.used)) [] hA (fun w5 q1=>?_) ?_
   ·go_simp
   simp only[pZ,nZ,bZ,List.set]
   refine wpG_do (i:=1) rfl (by kernel_rfl) rfl (fun K hK=>?_)
   have HKK:=hid hK
   clear hK
   go_step
   refine(sectors_any 0 wd).mono ?_
   rintro e wd2 ⟨rfl,rfl⟩
   refine HKK.out _ _ hA ?_
   clear HKK
   simp only[pZ,nZ,bZ,List.set]
   refine tqZ 2 (.int .i64 a1) [] hA (fun w5 q1=>?_) ?_
   ·go_simp
   simp only[pZ,nZ,bZ,List.set]
   refine wpG_tail_lit (k:=3) rfl rfl (by kernel_rfl) ?_
   simp only[List.drop]
   have f0:wd.frozen? ⟨ab,0,none⟩=false:=frozen_of_heap HPD.out.a
   have c0:=cells1_of HPD.out.a
   go_wp2
   go_meet
   case rel=>
    refine⟨w1.heap.size,0,fun _=>False,?_,by omega,HMB.out,fun k hk=>hk.elim,(HUD.out.mono (F:=fun _=>False) (fun _ _ e=>e.elim)).trans ((upd_own wd ab 0 _).mono (F:=fun k=>k=ab) (fun _ _ e=>.inl e))⟩
    rw[show snapS p0=((0,[]),true) by unfold snapS;rw[if_pos HE0.out]]
    exact HPD.out.setA _
  ·have HE0:=hid hp0
   have hnp:0<p0.length:=List.length_pos_iff.2 hp0
   have cf:=cells1_of HXF.out
   clear hp0
   go_wp2_with (go_at_call 154;fail)
   refine(play_any w6 HP6.out HOWN.out.bytesAt.1.bytesIn HP0.out.1 (by have:=HP0.out.2;omega) (fun a e _=>by have h1:=HOWN.out.lt a.block (by rw[e];rfl);have:=HAB5.out;omega) (by have:=HAR.out;omega) (by omega)).mono ?_
   rintro e w7 ⟨⟨v7,rfl⟩,b7,n7,C7,hp7,hn7,hb7,hc7,hu7⟩
   rw[Bool.true_and] at hp7
   obtain⟨s7,hs7⟩: ∃s,s=playS (0,[]) p0:=⟨_,rfl⟩
   obtain⟨k7,hk7⟩: ∃k,k=playK (0,[]) p0:=⟨_,rfl⟩
   rw[←hs7,←hk7,←HA1.out] at hp7
   have HSN:=hid (show snapS p0=(s7,k7 && (wholeF s7.1 s7.2 == p0)) by unfold snapS;rw[if_neg HE0.out,hs7,hk7])
   have HP7:=hid hp7;have HB7:=hid (show w.heap.size≤b7 by
    have h1:=HMB.out
    have h2:=HS6.out
    rcases hb7 with e | e
    ·omega
    ·omega)
   have HC7:=hid hc7;have HU7:=hid hu7;have HN7:=hid hn7
   have HOWN7:=hid (OwnB.keptF HOWN.out hu7 (fun k hk e=>by have h1:=HOWN.out.lt k hk;have h2:=HAB5.out;omega))
   obtain⟨ev7,l7⟩:=s7
   have c7:=cells1_of hp7.k
   have f7:w7.frozen? ⟨kb,0,none⟩=false:=frozen_of_heap hp7.k
   obtain⟨x0,x1⟩:=cells2_of hp7.s
   clear hp7 hu7 hb7 hc7 hn7 hs7 hk7 cf
   simp only[] at x0 x1
   simp only[]
   cases k7 with
   |false=>
    go_wp2
    go_meet
    case rel=>
     refine⟨b7,n7,C7,?_,by have:=HN7.out;omega,HB7.out,fun k hk=>(HC7.out k hk).elim (fun e=>e.elim) (fun e=>Nat.le_trans HS6.out e),HU7.out.trans ((upd_own w7 kb 0 _).mono (F:=fun k=>k=kb) (fun _ _ e=>.inr (.inr e)))⟩
     rw[HSN.out,Bool.false_and]
     exact HP7.out.setK _
   |true=>
    go_wp2_with (go_at_call 98;fail)
    refine(rwhole_any2 w7 HP7.out.m HP7.out.fine HP7.out.ev.1 HP7.out.ev.2).mono ?_
    rintro e w8 ⟨ua2,uc2,rfl,hown2,hu8⟩
    have HO2:=hid hown2
    have HP8:=hid (HP7.out.kept0 hu8)
    have HO8:=hid (OwnB.keptF HOWN7.out hu8 (fun _ _ e=>e))
    have HU8:=hid (HU7.out.trans (hu8.mono (F:=fun _=>False) (G:=fun k=>k=ab∨k=sb∨k=kb) (fun _ _ e=>e.elim)))
    have c7:=cells1_of HP8.out.k
    have f7:w8.frozen? ⟨kb,0,none⟩=false:=frozen_of_heap HP8.out.k
    clear hown2 hu8 x0 x1
    simp only[]
    go_wp2_with (go_at_call 24;fail)
    refine(equal_any w8 HO2.out.bytesAt.1.bytesIn HO8.out.bytesAt.1.bytesIn (encF_by (whole_ok HP8.out.fine HP8.out.ev.1 HP8.out.ev.2)) HP0.out.1).mono ?_
    rintro e w9 ⟨rfl,rfl⟩
    obtain⟨eq,heq⟩: ∃x,x=(wholeF ev7 l7 == p0):=⟨_,rfl⟩
    rw[←heq]
    have HSN2:=hid (show snapS p0=((ev7,l7),eq) by rw[HSN.out,heq];rfl)
    clear heq
    simp only[]
    go_wp2
    go_meet
    case rel=>
     refine⟨b7,n7,C7,?_,by have:=HN7.out;omega,HB7.out,fun k hk=>(HC7.out k hk).elim (fun e=>e.elim) (fun e=>Nat.le_trans HS6.out e),HU8.out.trans ((upd_own w8 kb 0 _).mono (F:=fun k=>k=kb) (fun _ _ e=>.inr (.inr e)))⟩
     rw[HSN2.out]
     exact HP8.out.setK _
 case rest=>
  obtain⟨b8,n8,C8,hp8,hn8,hb8,hc8,hu8⟩:=hcut
  have hx18:=(hu8.block _ (lt_of_heap HX15.out) (fun e=>by omega)).trans HX15.out
  have hfbne:fb≠ab∧fb≠sb∧fb≠kb:=⟨cells_ne HXF.out HP6.out.a (by decide),cells_ne HXF.out HP6.out.s (by decide),cells_ne HXF.out HP6.out.k (by decide)⟩
  have hxf8:=(hu8.block _ (lt_of_heap HXF.out) (fun e=>by omega)).trans HXF.out
  have hu18:=HU15.out.trans hu8
  have hw08:Upd (fun _=>False) w wc:=HU1.out.step hu18 (fun k hk e=>by have:=HLO.out;omega)
  have c1:=cells1_of hx18
  have HP8:=hid hp8;have HN8:=hid hn8;have HB8:=hid hb8;have HC8:=hid hc8;have HXF8:=hid hxf8;have HW08:=hid hw08
  clear hp8 hn8 hb8 hc8 hu8 hx18 hfbne hxf8 hu18 hw08 HP6 HXF HX15 HU15 HOWN hne1
  go_wp2_with (go_at_call 120;fail)
  refine(walAll_any q wc).mono ?_
  rintro e w9 ⟨rfl,hw9⟩
  have hu9:Upd (fun _=>False) wc w9:=by rw[hw9];exact(Upd.refl _ wc).alloc _
  have hbx:w9.heap[wc.heap.size]?=some (.cells #[.pointer (some ⟨q,0,none⟩)] 38 (0,0)):=by rw[hw9];exact alloc_at rfl
  have HP9:=hid (HP8.out.kept0 hu9);have HXF9:=hid ((hu9.block _ (lt_of_heap HXF8.out) (fun e=>e)).trans HXF8.out);have HW09:=hid (HW08.out.trans hu9);have HBX:=hid hbx
  obtain⟨bp,hbp⟩: ∃bp,bp=wc.heap.size:=⟨_,rfl⟩
  rw[←hbp] at HBX ⊢
  have HBP:=hid (show bp<w9.heap.size∧w.heap.size≤bp from⟨lt_of_heap HBX.out,by rw[hbp];exact HW08.out.size⟩)
  clear hu9 hbx hw9 c1 hbp HP8 HXF8
  simp only[]
  go_wp2
  have hat:FnAt w w9 ab sb kb fb X (snapS p0) a1 [] w9:=⟨⟨b8,n8,C8,HP9.out,by have:=HN8.out;simp;omega,HB8.out,HC8.out⟩,HXF9.out,Upd.refl _ _,by rw[HXP.out];simp⟩
  have HAT:=hid hat
  clear hat
  have HNE9:=hid (show bp≠ab∧bp≠sb∧bp≠kb from⟨cells_ne HBX.out HP9.out.a (by decide),cells_ne HBX.out HP9.out.s (by decide),cells_ne HBX.out HP9.out.k (by decide)⟩)
  have HFN9:=hid (show fb≠ab∧fb≠sb∧fb≠kb from⟨cells_ne HXF9.out HP9.out.a (by decide),cells_ne HXF9.out HP9.out.s (by decide),cells_ne HXF9.out HP9.out.k (by decide)⟩)
  have HPL:=hid (show X.parts.length≤1000 from HOK.out.len)
  refine(wpIn_wide (n:=5)).1 ?_
  refine wpIn_rangeFunc_toldL (α:=Nat×Value) (encs:=fun x=>#[.int .i64 x.1,x.2]) rfl (by omega) (gf:=165) (lb:=#[.pointer (some ⟨bp,0,none⟩)]) rfl trivial (enters_of Tryz.func165 (by kernel_rfl) rfl) (fun _=>rfl)
   (fun pre x W0 W1=>x.1=pre.length∧ ∃b,X.parts[pre.length+1]?=some b∧OwnB W1 W0.heap.size x.2 b) (fun xs=>xs.length+1=X.parts.length) (FnAt w w9 ab sb kb fb X (snapS p0) a1) (fun k=>G k∨k=bp) ?hKp (fun _ _ _ h hu=>h.upd0 hu) (fun pre W l o o' h hl ho=>h.put o' hl ho) HAT.out ?hseq
   (fun x=>{tmps:=#[.agg #[.pointer (some ⟨q,0,none⟩)],.pointer (some ⟨lb,0,none⟩),.pointer (some ⟨sb,0,none⟩),.pointer (some ⟨ab,0,none⟩),.pointer (some ⟨kb,0,none⟩),.pointer (some ⟨fb,0,none⟩),.slice ua p0.length uc,undef,x.2,.map (some w1.heap.size),.pointer (some ⟨sb,1,none⟩),.pointer (some ⟨lb,0,none⟩),.pointer (some ⟨q,0,none⟩),.int .i64 (X.h.area - X.used),.func (.func 154) #[] #[.pointer (some ⟨ab,0,none⟩),.pointer (some ⟨sb,0,none⟩),.pointer (some ⟨kb,0,none⟩)],.pointer (some ⟨lb,0,none⟩),.pointer (some ⟨q,0,none⟩),.slice ua p0.length uc,.slice ua p0.length uc,.int .i64 p0.length,u20,u21,u22,u23,u24,u25,u26,u27,u28,u29,u30,u31,u32,u33,.pointer (some ⟨lb,0,none⟩),.pointer (some ⟨q,0,none⟩),.func (.func 165) #[] #[.pointer (some ⟨bp,0,none⟩)],.int .i64 x.1,x.2,undef,undef,undef,undef,undef,undef],defers:=[]}) ?hassign ?hbody ?hdone
  case hKp=>
   rintro k (hk | hk)
   ·have:=HGL.out k hk;have:=HW09.out.size;omega
   ·have:=HBP.out;omega
  case hseq=>
   intro l J W h0 hW hJA hY
   refine walk_any 4 (by omega) l HOK.out (by rw[HXP.out];simp) J W ((HLG.out.kept' HW09.out).keep (fun k hk=>hW k (by have:=HGL.out k hk;have:=HW09.out.size;omega))) ((hW _ HBP.out.1).trans HBX.out) (fun pre x W0 W1 b hj hu hx hb ho=>hY pre x W0 W1 hj hu ⟨hx,b,hb,ho⟩) h0 hJA
  case hassign=>
   intro l x W K hK
   have HKK:=hid hK
   clear hK
   gi_wp2
   exact HKK.out
  case hbody=>
   rintro l pre x W0 W1 W r r' hl hi0 hu ⟨hx1,b,hb,hown⟩ hl1 rfl
   obtain⟨W,hW⟩: ∃W,W=W1.putObj l (.loop r'):=⟨_,rfl⟩
   rw[←hW]
   have hat:FnAt w w9 ab sb kb fb X (snapS p0) a1 pre W:=by rw[hW];exact(hi0.upd0 hu).put _ hl hl1
   have hownW:OwnB W W0.heap.size x.2 b:=by
    rw[hW]
    refine ownsRow_heap hown (fun k hk=>?_)
    refine World.putObj_heap_other (fun e=>?_)
    subst e
    rcases hown.2 with ⟨h,_⟩ | ⟨g,cap,cur,h,_,hg,_⟩
    ·rw[h] at hk;simp[Value.ownBlock] at hk
    ·rw[h] at hk
     simp only[Value.ownBlock,Option.some.injEq] at hk
     subst hk
     rw[hl1] at hg
     injection hg with hg
     cases hg
   obtain⟨xk,u⟩:=x
   simp only at hx1 hownW
   subst hx1
   obtain⟨ua3,uc3,rfl,_⟩:=hownW.bytesAt.1.slice
   obtain⟨⟨b9,n9,C9,hp9,hn9,hb9,hc9⟩,hfn,hup,hln⟩:=hat
   have cf:=cells1_of hfn
   have hplb:pre.length+1<X.parts.length:=(List.getElem?_eq_some_iff.1 hb).1
   have hbm:=HOK.out.bytes b (List.mem_of_getElem? hb)
   have habW:ab<W0.heap.size:=by
    obtain⟨⟨_,_,_,q1,_⟩,_⟩:=hi0
    exact lt_of_heap q1.a
   have har:=areaN_bound (X.parts.tail.take pre.length) a1
   have htl:(X.parts.tail.take pre.length).length≤1000:=by
    have:=HPL.out
    simp only[List.length_take,List.length_tail]
    omega
   have hsnoc:X.parts.tail.take (pre.length+1)=X.parts.tail.take pre.length++[b]:=by
    have hb':X.parts.tail[pre.length]?=some b:=by rw[List.getElem?_tail];exact hb
    obtain⟨h1,h2⟩:=List.getElem?_eq_some_iff.1 hb'
    rw[List.take_succ_eq_append_getElem h1,h2]
   have HSN:=hid hsnoc
   have HP:=hid hp9;have HFN:=hid hfn;have HUP:=hid hup;have HOW:=hid hownW;have HBM:=hid hbm;have HABW:=hid habW;have HAN:=hid har;have HTL:=hid htl;have HN9:=hid hn9;have HB9:=hid hb9;have HC9:=hid hc9;have HPLB:=hid hplb
   have HWS:=hid (show w.heap.size≤W.heap.size from Nat.le_trans HW09.out.size hup.size)
   clear hp9 hfn hup hown hownW hbm habW har htl hn9 hb9 hc9 hplb hsnoc hi0 hu hl1 hW hb hln
   gi_wp2_with (refine⟨trivial,?_⟩;gi_at_call 154;fail)
   refine⟨trivial,?_⟩
   refine(CallsIn.inRound l (callsIn_wide.2 (play_any W HP.out HOW.out.bytesAt.1.bytesIn HBM.out.1 (by have:=HBM.out.2;omega) (fun a e _=>by have h1:=HOW.out.lt a.block (by rw[e];rfl);have:=HABW.out;omega) (by have:=HAN.out;have:=HTL.out;have:=HAR1.out;omega) (by have:=HN9.out;have:=HPLB.out;have:=HPL.out;omega)))).mono ?_
   rintro e W3 ⟨⟨v7,rfl⟩,b10,n10,C10,hp10,hn10,hb10,hc10,hu10⟩
   have HU10:=hid hu10
   have hfin:FnAt w w9 ab sb kb fb X (snapS p0) a1 (pre++[(pre.length,.slice ua3 b.length uc3)]) W3:=by
    refine⟨⟨b10,n10,C10,?_,?_,?_,fun k hk=>?_⟩,(hu10.block _ (lt_of_heap HFN.out) (fun e=>by have:=HFN9.out;omega)).trans HFN.out,HUP.out.trans hu10,by have:=HPLB.out;simp;omega⟩
    ·rw[List.length_append,List.length_cons,List.length_nil,Nat.zero_add,HSN.out,areaN_snoc,List.foldl_append]
     exact hp10
    ·have:=HN9.out
     simp only[List.length_append,List.length_cons,List.length_nil]
     omega
    ·have:=HB9.out
     have:=HWS.out
     rcases hb10 with e | e<;> omega
    ·have:=HWS.out
     rcases hc10 k hk with e | e
     ·exact HC9.out k e
     ·omega
   have HFIN:=hid hfin
   have HP10:=hid hp10
   clear hfin hp10 hn10 hb10 hc10 hu10
   gi_wp2
   refine⟨HFIN.out,⟨HU10.out.size,fun k o hk ho hc=>?_⟩,fun k hk=>?_⟩
   ·refine(HU10.out.block k (lt_of_heap ho) (fun e=>?_)).trans ho
    rcases e with e | e | e
    ·subst e;have:=HP.out.a;rw[ho] at this;injection this with this;subst this;cases hc
    ·subst e;have:=HP.out.s;rw[ho] at this;injection this with this;subst this;cases hc
    ·subst e;have:=HP.out.k;rw[ho] at this;injection this with this;subst this;cases hc
   ·refine HU10.out.block k ?_ (fun e=>?_)
    ·rcases hk with hk | hk
     ·have:=HGL.out k hk;have:=HWS.out;omega
     ·have:=HBP.out.1;have:=HUP.out.size;omega
    ·rcases hk with hk | hk
     ·have:=HGL.out k hk;have:=HLO.out;omega
     ·have:=HNE9.out;omega
  case hdone=>
   rintro xs W hS hs hK
   have hxl:X.parts.tail.take xs.length=txs:=by rw[HXP.out,List.tail_cons,List.take_of_length_le (by have:=HXP.out;rw[this] at hS;simp at hS;omega)]
   obtain⟨⟨b9,n9,C9,hp9,hn9,hb9,hc9⟩,hfn,hup,hln⟩:=hs
   rw[hxl] at hp9
   have hfo:txs.foldl playN (snapS p0)=foundN p0 txs:=rfl
   rw[hfo] at hp9
   have hareq:areaN a1 txs=areaN (X.h.area - X.used) X.parts:=by rw[HXP.out,HA1.out];rfl
   rw[hareq] at hp9
   have HP:=hid hp9;have HN9:=hid hn9;have HB9:=hid hb9;have HC9:=hid hc9;have HUP:=hid hup;have HK:=hid hK;have HLN:=hid hln
   clear hxl hfn hln hfo hareq hn9 hb9 hc9 hup hK hS
   go_wp2_with (fail)
   obtain⟨ev9,hev9⟩: ∃x,x=(foundN p0 txs).1.1:=⟨_,rfl⟩
   obtain⟨l9,hl9⟩: ∃x,x=(foundN p0 txs).1.2:=⟨_,rfl⟩
   obtain⟨ok9,hok9⟩: ∃x,x=(foundN p0 txs).2:=⟨_,rfl⟩
   obtain⟨ar9,har9⟩: ∃x,x=areaN (X.h.area - X.used) X.parts:=⟨_,rfl⟩
   have HPD:RowKit.Hid (PlayAt W ab sb kb ar9 ev9 b9 n9 C9 l9 ok9):=hid (by rw[hev9,hl9,hok9,har9];exact HP.out)
   have HEQ:=hid (show ev9=(foundN p0 txs).1.1∧l9=(foundN p0 txs).1.2∧ok9=(foundN p0 txs).2∧ar9=areaN (X.h.area - X.used) X.parts from⟨hev9,hl9,hok9,har9⟩)
   clear hev9 hl9 hok9 har9 hp9 HP
   have hne1:sb≠ab:=cells_ne HPD.out.s HPD.out.a (by decide)
   have hne2:sb≠kb:=cells_ne HPD.out.s HPD.out.k (by decide)
   have hne3:ab≠kb:=cells_ne HPD.out.a HPD.out.k (by decide)
   obtain⟨d0,d1⟩:=cells2_of HPD.out.s
   have d2:=cells1_of HPD.out.a
   have d3:=cells1_of HPD.out.k
   have f0:W.frozen? ⟨sb,0,none⟩=false:=frozen_of_heap HPD.out.s
   have f1:W.frozen? ⟨sb,1,none⟩=false:=frozen_of_heap HPD.out.s
   have f2:W.frozen? ⟨ab,0,none⟩=false:=frozen_of_heap HPD.out.a
   have f3:W.frozen? ⟨kb,0,none⟩=false:=frozen_of_heap HPD.out.k
   go_region
   go_wp2
   obtain⟨q1,q2⟩:=HPD.out.setS (ev':=ev9) HPD.out.m HPD.out.fine HPD.out.ev
   have q3:=((q1.setA ar9).setK ok9).kept0 ((Upd.refl (fun _=>False) _).drew)
   obtain⟨W2,hW2⟩: ∃W2,W2=((((W.setCell ⟨sb,0,none⟩ (.int .u64 ev9)).setCell ⟨sb,1,none⟩ (.map (some b9))).setCell ⟨ab,0,none⟩ (.int .i64 ar9)).setCell ⟨kb,0,none⟩ (.bool ok9)).drew:=⟨_,rfl⟩
   rw[←hW2] at q3 ⊢
   have hu2:Upd (fun k=>k=ab∨k=sb∨k=kb) W W2:=by
    rw[hW2]
    exact(((q2.mono (F:=fun k=>k=sb) (fun _ _ e=>.inr (.inl e))).trans ((upd_own _ ab 0 _).mono (F:=fun k=>k=ab) (fun _ _ e=>.inl e))).trans ((upd_own _ kb 0 _).mono (F:=fun k=>k=kb) (fun _ _ e=>.inr (.inr e)))).drew
   have hk2:W2.heap[w9.heap.size]?=some (.deferred (some [])):=(hu2.block _ (lt_of_heap HK.out) (fun e=>by have h1:=lt_of_heap HPD.out.a;have:=lt_of_heap HP9.out.a;have:=lt_of_heap HP9.out.s;have:=lt_of_heap HP9.out.k;omega)).trans HK.out
   refine⟨by simp,.inl ⟨_,_,rfl,run_takeDeferred hk2,?_⟩⟩
   have hF: ∀k o,W2.heap[k]?=some o→(o.isCells=true∨ ∃es c,o=.map es c)→ ¬k=w9.heap.size:=by
    rintro k o ho hc rfl
    rw[hk2] at ho
    injection ho with ho
    subst ho
    rcases hc with hc | ⟨es,c,hc⟩<;> cases hc
   have hu3:Upd (fun k=>k=w9.heap.size) W2 (W2.putObj w9.heap.size (.deferred none)):=(upd_put (.deferred none)).mono (F:=fun k=>k=w9.heap.size) (fun _ _ e=>e)
   have q4:=q3.keptU hu3 hF
   refine⟨_,results_cell3 (fn:=Tryz.f100) rfl rfl rfl rfl (run_load167 q4.s) (run_load3 q4.a) (run_load4 q4.k),?_⟩
   obtain⟨e1,e2,e3,e4⟩:=HEQ.out
   rw[←e1,←e2,←e3,←e4]
   refine⟨b9,n9,C9,rfl,q4.m,q4.fine,q4.ev,by have:=HN9.out;have:=HLN.out;omega,HB9.out,HC9.out,?_⟩
   exact((HW09.out.step HUP.out (fun k hk e=>by have:=HLO.out;omega)).step hu2 (fun k hk e=>by have:=HLO.out;omega)).step hu3 (fun k hk e=>by have:=HW09.out.size;omega)
end
section
open Go.RowKit Go.Shelf
def OpenedAns (w:World)(p N K:Nat)(X:Lg)(F:Nat→Prop)(p0:List Int)(txs:List (List Int))(e:Ending)(w':World):Prop:=
 ∃r q b n C D' G' F',e=.returned (.tuple #[.pointer (some ⟨r,0,none⟩),.int .i64 0])∧
  RegMem w' r q p (foundN p0 txs).1.1 b n C (foundN p0 txs).1.2 (areaN (X.h.area - X.used) X.parts) X.on D' G' F'∧WalG w' q p X.on D' G' F' N (K+1002000)∧LawD X.on (X.h.turn+1) D'.S∧(foundN p0 txs).1.2.Fine∧
  (0≤(foundN p0 txs).1.1∧(foundN p0 txs).1.1≤4611686018427387904)∧n≤48+48 * X.parts.length∧(∀k,G' k→w.heap.size≤k)∧(∀k,F' k→F k∨w.heap.size≤k)∧w.heap.size≤r∧w.heap.size≤b∧(∀k,C k→w.heap.size≤k)∧Upd F w w'
theorem ropen_good {p N K:Nat}{X:Lg}{τ:Int}{D:Dk}{F:Nat→Prop}{p0:List Int}{txs:List (List Int)}(w:World)(hD:Dsk w p D F)(h:LawD X τ D.S)(hg:D.Good N)(hok:D.Ok K)(hK:K≤1000000000)(hN:2+2 * X.h.area≤N)(ht:X.h.turn<1073741824)(hτ:τ≤X.h.turn+1)
  (hX:X.parts=p0 :: txs) (hfo:(foundN p0 txs).2=true):
  Calls Tryz.prog 35 #[.pointer (some ⟨p,0,none⟩)] w (OpenedAns w p N K X F p0 txs):=by
 have HC:=hid (open_good w hD h hg hok hK hN ht hτ)
 have HXX:=hid hX;have HFO:=hid hfo
 clear hD h hg hok hK hN ht hτ hX hfo
 go_enter Tryz.func35,Tryz.ntmps35
 go_wp2_with (go_at_call 61;fail)
 refine HC.out.mono ?_
 rintro e w1 ⟨q,D',G',F',rfl,h1,h2,h3,h4,h5⟩
 have H1:=hid h1;have H2:=hid h2;have H3:=hid h3;have H4:=hid h4;have H5:=hid h5
 clear h1 h2 h3 h4 h5 HC
 simp only[]
 go_wp2_with (go_at_call 100;fail)
 refine(rfound_any w1 H1.out.wal.1 H1.out.ok (p0:=p0) (txs:=txs) (by rw[←HXX.out];rfl)).mono ?_
 rintro e w2 ⟨b,n,C,rfl,hm,hf,hev,hn,hb,hc,hu⟩
 obtain⟨s9,hs9⟩: ∃s,s=foundN p0 txs:=⟨_,rfl⟩
 have hk9:s9.2=true:=by rw[hs9];exact HFO.out
 obtain⟨ar9,har9⟩: ∃x,x=areaN (X.on.h.area - X.on.used) X.on.parts:=⟨_,rfl⟩
 rw[←hs9] at hm hf hev
 rw[←hs9,←har9]
 have HS9:=hid hs9;have HAR:=hid (show ar9=areaN (X.h.area - X.used) X.parts from har9)
 obtain⟨⟨ev9,l9⟩,ok9⟩:=s9
 simp only at hm hf hev hk9
 subst hk9
 have HM:=hid hm;have HF:=hid hf;have HEV:=hid hev;have HN:=hid hn;have HB:=hid hb;have HC:=hid hc;have HU:=hid hu
 have HD:=hid (show Dsk w1 p D' F' from H1.out.wal.2.1)
 clear hm hf hev hn hb hc hu hs9 har9
 simp only[]
 obtain⟨w3,hw3⟩: ∃w3,w3=(w2.alloc (.cells #[.int .u64 ev9,.map (some b)] 167)).alloc (.cells #[.pointer (some ⟨q,0,none⟩),.int .u64 ev9,.map (some b),.int .i64 ar9] 172):=⟨_,rfl⟩
 have hu3:Upd (fun _=>False) w2 w3:=by rw[hw3];exact((Upd.refl _ w2).alloc _).alloc _
 have hr3:RegAt w3 (w2.heap.size+1) (.pointer (some ⟨q,0,none⟩)) ev9 (.map (some b)) ar9:=by
  unfold RegAt
  rw[hw3]
  exact alloc_at (by simp)
 have HW3:=hid hw3;have HU3:=hid hu3;have HR3:=hid hr3
 clear hw3 hu3 hr3
 go_wp2
 go_returns
 rw[←HW3.out]
 unfold OpenedAns
 rw[←HS9.out]
 rw[←HAR.out]
 have hsz:=HU.out.size
 have hu13:=HU.out.trans HU3.out
 have hGl:=H1.out.wal.1.lt
 have hFl:=HD.out.lt
 have hws:=H5.out.size
 refine⟨w2.heap.size+1,q,b,n,C,D',G',F',rfl,⟨HR3.out,HM.out.kept0 HU3.out,⟨H1.out.wal.1.kept' hu13,HD.out.kept hu13 (fun _ _ e=>e),H1.out.wal.2.2⟩,⟨fun e=>by have:=hGl _ e;omega,fun e=>by have:=hFl _ e;omega⟩,⟨fun e=>by have:=hGl _ e;have:=HB.out;omega,fun e=>by have:=hFl _ e;have:=HB.out;omega⟩,fun k hk=>⟨fun e=>by have:=hGl _ e;have:=HC.out k hk;omega,fun e=>by have:=hFl _ e;have:=HC.out k hk;omega⟩⟩,
  H1.out.kept hu13 (fun _ _ e=>e) (fun _ _ e=>e),H2.out,HF.out,HEV.out,HN.out,H3.out,H4.out,by omega,by have:=HB.out;omega,fun k hk=>by have:=HC.out k hk;omega,H5.out.trans (hu13.mono (F:=fun _=>False) (fun _ _ e=>e.elim))⟩
theorem walG_app {w:World}{q p:Nat}{X:Lg}{D:Dk}{G F:Nat→Prop}{N K:Nat}{b:List Int}(h:WalG w q p X D G F N K)(hp:X.parts.length<1000)(hb:Bytes b)(hl:b.length≤40000)(hr:X.used+secsN b.length≤X.h.area):
  D.laysE (X.apS b hb)=0∧ ∀{w':World} {G' F':Nat→Prop},Wal w' q p (X.add b) (D.lays (X.apS b hb)) G' F'→WalG w' q p (X.add b) (D.lays (X.apS b hb)) G' F' N (K+2000):=by
 have ha:=h.ok.area
 have hN:0<N:=by have:=h.fits;omega
 obtain⟨g1,g2⟩:=h.good.lays (X.apS b hb) hN (partSc_bound hb (by omega) h.fits)
 have hsb:=secsN_bound hl
 have hdk:=Dk.lays_ok (partSc X.h (X.h.number+X.parts.length) (X.h.place+X.used) false b hb) h.dok
 rw[partSc_length] at hdk
 exact⟨g1,fun h1=>⟨h1,h.ok.add hb hl hr hp,h.unbroken,g2,Dk.Ok.mono hdk (by omega),h.fits⟩⟩
def wqX:SetV:=⟨{data:=#[107]},false,true,[],[7]⟩
def wqB:BatchV:=⟨3,false,[wqX]⟩
def wqL:KV:=[({data:=#[107]},[7])]
theorem wq_right:wqB.right=true:=by decide
theorem wq_ok:wqB.Ok:=⟨by show(0:Int)≤3∧(3:Int)≤18446744073709551615;omega,fun x hx=>by
 simp only[wqB,List.mem_singleton] at hx
 subst hx
 exact⟨fun y hy=>by simp[wqX] at hy,fun y hy=>by simp[wqX] at hy;omega⟩⟩
theorem wq_len:(encF wqB).length=19:=by decide
theorem wq_do:doE 0 [] wqB=0:=by decide
theorem wq_withs:KV.withs [] wqB.sets=wqL:=by rfl
theorem wq_plan:planF 0 20 [] ⟨fmtH 20,[[]],1,false⟩ wqB=.app:=by
 unfold planF
 rw[if_neg (by decide),if_neg (by rw[wq_right];decide),if_neg (by rw[wq_do];decide),if_neg (by decide),if_neg (by decide),if_pos (by rw[wq_len];decide)]
theorem wq_found:foundN [] [encF wqB]=((3,wqL),true):=by
 have h1:decF (encF wqB)=(wqB,0):=dec_enc wq_right wq_ok
 have h2:snapS []=((0,[]),true):=by unfold snapS;rw[if_pos rfl]
 show playN (snapS []) (encF wqB)=_
 rw[h2]
 unfold playN playS playK
 rw[h1]
 have hc:((wqB,(0:Int)).2=0∧doE ((((0:Int),([]:KV)),true):(Int×KV)×Bool).1.1 ((((0:Int),([]:KV)),true):(Int×KV)×Bool).1.2 (wqB,(0:Int)).1=0):=⟨rfl,wq_do⟩
 rw[if_pos hc,decide_eq_true hc]
 show((wqB.epoch,KV.withs [] wqB.sets),true && true)=_
 rw[wq_withs]
 rfl
theorem wq_fine:KV.Fine wqL:=⟨by simp[wqL,KV.Rising],by simp[wqL],fun p hp=>by
 simp only[wqL,List.mem_singleton] at hp
 subst hp
 exact⟨by decide,by decide,by simp,fun y hy=>by simp at hy;omega⟩⟩
theorem wq_get:KV.get wqL {data:=#[107]}=some [7]:=by rfl
def wqB2:BatchV:=⟨2,false,[]⟩
theorem wq_plan2 {X:Lg}{area:Int}(hb:X.broken=false):planF 3 area wqL X wqB2=.no 300:=by
 unfold planF
 rw[if_neg (by rw[hb];decide),if_neg (by decide),if_pos (by decide)]
 rfl
theorem wk_new (w:World):Calls Tryz.prog 13 #[.int .i64 42] w fun e w'=> ∃F,e=.returned (.tuple #[.pointer (some ⟨w.heap.size+1,0,none⟩),.int .i64 0])∧Dsk w' (w.heap.size+1) (Dk.new 42) F∧(∀k,F k→w.heap.size≤k)∧Upd (fun _=>False) w w'∧(Dk.new 42).Good 42∧(Dk.new 42).Ok 0:=new_good_disk 42 w (by omega)
theorem wk_format {p:Nat}{D:Dk}{F:Nat→Prop}(w:World)(hD:Dsk w p D F)(hg:D.Good 42)(hok:D.Ok 0):
  Calls Tryz.prog 47 #[.pointer (some ⟨p,0,none⟩),.int .i64 20] w fun e w'=> ∃r b q G' F',e=.returned (.tuple #[.pointer (some ⟨r,0,none⟩),.int .i64 0])∧RegMem w' r q p 0 b 0 (fun _=>False) [] 20 ⟨fmtH 20,[[]],1,false⟩ (fmtD D 20 3) G' F'∧
   WalG w' q p ⟨fmtH 20,[[]],1,false⟩ (fmtD D 20 3) G' F' 42 20000∧(∀k,G' k→w.heap.size≤k)∧(∀k,F' k→F k∨w.heap.size≤k)∧w.heap.size≤r∧Upd F w w':=by
 refine(rformat_good (area:=20) (N:=42) (K:=0) w hD hg hok (by omega) (by omega) (by omega)).mono ?_
 rintro e w' ⟨r,b,q,G',F',rfl,h1,h2,h3,h4,h5,h6,h7,h8,h9,h10⟩
 refine⟨r,b,q,G',F',rfl,⟨h1,⟨h2,List.Pairwise.nil,fun x hx=>by cases hx⟩,h3.wal,⟨fun e=>by have:=h9 _ e;omega,fun e=>by have:=h10 _ e;omega⟩,⟨fun e=>by have:=h9 _ e;omega,fun e=>by have:=h10 _ e;omega⟩,fun k hk=>hk.elim⟩,?_,h4,h5,by omega,h6⟩
 exact h3
def WkAns (w:World)(r q p:Nat)(D:Dk)(G F:Nat→Prop)(e:Ending)(w':World):Prop:=
 e=.returned (.int .i64 0)∧ ∃D' F' X',Dsk w' p D' F'∧D'.Good 42∧D'.Ok 22000∧LawD X' 1 D'.S∧X'=(⟨fmtH 20,[[]],1,false⟩:Lg).add (encF wqB)∧(∀k,F' k→F k∨w.heap.size≤k)∧Upd (fun k=>G k∨F k∨k=r) w w'
theorem wk_commit {r q p b n:Nat}{C G F:Nat→Prop}{D:Dk}{a:Option Addr}{c:Nat}(w:World)(hm:RegMem w r q p 0 b n C [] 20 ⟨fmtH 20,[[]],1,false⟩ D G F)(hw:WalG w q p ⟨fmtH 20,[[]],1,false⟩ D G F 42 20000)(hl:LawD (fmtX 20) 1 D.S)(hn:n≤1000000)(hs:SetsIn w a wqB.sets)(hal: ∀b o,a=some ⟨b,o,none⟩→b<w.heap.size):
  Calls Tryz.prog 31 #[.pointer (some ⟨r,0,none⟩),.agg #[.int .u64 3,.bool false,.slice a 1 c]] w (WkAns w r q p D G F):=by
 have hc:=commit_any (c:=c) (B:=wqB) w hm hw.ok (by simp) hw.dok (by omega) hn KV.Fine.nil (by omega) (by omega) hs (by simp[wqB]) wq_ok hal
 refine hc.mono ?_
 intro e w' h
 unfold CommitAns at h
 rw[wq_plan] at h
 obtain⟨hb,h⟩:=h
 have hlen:=wq_len
 have hr:(⟨fmtH 20,[[]],1,false⟩:Lg).refuses (encF wqB).length (⟨fmtH 20,[[]],1,false⟩:Lg).used=0:=by rw[hlen];decide
 have hfit:(⟨fmtH 20,[[]],1,false⟩:Lg).used+secsN (encF wqB).length≤(⟨fmtH 20,[[]],1,false⟩:Lg).h.area:=by rw[hlen];decide
 obtain⟨g1,g2⟩:=walG_app hw (by simp) hb (by rw[hlen];omega) hfit
 rcases h with ⟨h,_⟩ | ⟨_,rfl,ev',b',n',C',l',G',F',h1,_,_,_,_,_,_,h8,h9⟩
 ·exact absurd hr h
 ·rw[g1] at h1
  rw[Lg.after,if_pos rfl] at h1
  have hw2:=g2 h1.wal
  refine⟨by rw[g1],_,F',_,h1.wal.2.1,hw2.good,hw2.dok,?_,rfl,h8,h9⟩
  exact law_app hl hw.good (by show(2:Int)+2 * 20≤(42:Nat);decide) hb (by rw[hlen];omega) hfit (by show(1:Int)+(1:Nat)+1≤2000000000;decide)
theorem wk_open {p:Nat}{D:Dk}{F:Nat→Prop}(w:World)(hD:Dsk w p D F)(hg:D.Good 42)(hok:D.Ok 22000)(hl:LawD ((⟨fmtH 20,[[]],1,false⟩:Lg).add (encF wqB)) 1 D.S):
  Calls Tryz.prog 35 #[.pointer (some ⟨p,0,none⟩)] w fun e w'=> ∃r q b n C X D' G' F',e=.returned (.tuple #[.pointer (some ⟨r,0,none⟩),.int .i64 0])∧RegMem w' r q p 3 b n C wqL 20 X D' G' F'∧WalG w' q p X D' G' F' 42 1024000∧n≤1000∧X.parts.length<1000∧Upd F w w':=by
 have hp:((⟨fmtH 20,[[]],1,false⟩:Lg).add (encF wqB)).parts=[] :: [encF wqB]:=rfl
 refine(ropen_good (N:=42) w hD hl hg hok (by omega) (by show(2:Int)+2 * 20≤(42:Nat);decide) (by show(1:Int)<1073741824;decide) (by show(1:Int)≤1+1;decide) hp (by rw[wq_found])).mono ?_
 rintro e w' ⟨r,q,b,n,C,D',G',F',rfl,h1,h2,h3,h4,h5,h6,h7,h8,h9,h10,h11,h12⟩
 rw[wq_found] at h1
 have har:areaN (((⟨fmtH 20,[[]],1,false⟩:Lg).add (encF wqB)).h.area - ((⟨fmtH 20,[[]],1,false⟩:Lg).add (encF wqB)).used) ((⟨fmtH 20,[[]],1,false⟩:Lg).add (encF wqB)).parts=20:=by
  have hlen:=wq_len
  rw[hp]
  show areaN (20 - (1+(secsN (encF wqB).length:Int))) [[],encF wqB]=20
  simp only[areaN,List.foldl]
  rw[hlen]
  decide
 rw[har] at h1
 have hpl:((⟨fmtH 20,[[]],1,false⟩:Lg).add (encF wqB)).parts.length=2:=rfl
 rw[hpl] at h6
 exact⟨r,q,b,n,C,_,D',G',F',rfl,h1,h2,by omega,by show(2:Nat)<1000;omega,h12⟩
theorem wakes_any (w:World):Calls Tryz.prog 18 #[] w fun e w'=>e=.returned (.bool true)∧Upd (fun _=>False) w w':=by
 go_enter Tryz.func18,Tryz.ntmps18
 go_wp2_with (go_at_call 13;fail)
 refine(wk_new w).mono ?_
 rintro e w1 ⟨F,rfl,hD,hF,hu,hg,hok⟩
 have HD:=hid hD;have HF:=hid hF;have HU1:=hid hu;have HG:=hid hg;have HOK:=hid hok
 obtain⟨p,hp⟩: ∃p,p=w.heap.size+1:=⟨_,rfl⟩
 have HP:=hid hp
 rw[←hp] at HD ⊢
 clear hD hF hu hg hok hp
 simp only[]
 go_wp2_with (go_at_call 47;fail)
 refine(wk_format w1 HD.out HG.out HOK.out).mono ?_
 rintro e w2 ⟨r,b,q,G2,F2,rfl,h1,h2,h3,h4,h5,h6⟩
 have HL:=hid (law_fmt HG.out (area:=20) (by omega) (by omega))
 have HR2:=hid h1;have HW2:=hid h2;have HG2:=hid h3;have HF2:=hid h4;have HRL:=hid h5
 have HU2:=hid (show Upd (fun _=>False) w w2 from HU1.out.step h6 (fun k hk e=>by have:=HF.out k e;omega))
 have HS1:=hid (show w.heap.size≤w1.heap.size from HU1.out.size)
 clear h1 h2 h3 h4 h5 h6 HD HOK
 simp only[]
 go_wp2_with (go_at_call 31;fail)
 obtain⟨w3,hw3⟩: ∃w3,w3=(w2.alloc (.cells #[.int .u8 7] 5)).alloc (.cells #[.string {data:=#[107]},.bool false,.bool true,.slice none 0 0,.slice (some ⟨w2.heap.size,0,none⟩) 1 1] 73):=⟨_,rfl⟩
 rw[←hw3]
 have hu3:Upd (fun _=>False) w2 w3:=by rw[hw3];exact((Upd.refl _ w2).alloc _).alloc _
 have hx3:w3.heap[w2.heap.size+1]?=some (.cells #[.string {data:=#[107]},.bool false,.bool true,.slice none 0 0,.slice (some ⟨w2.heap.size,0,none⟩) 1 1] 73 (0,0)):=by rw[hw3];exact alloc_at (by simp)
 have hbi:BytesIn w3 (.slice (some ⟨w2.heap.size,0,none⟩) 1 1) [7]:=by rw[hw3];exact(one_in w2 7).kept ((Upd.refl (fun _=>False) _).alloc _)
 have hsi:SetsIn w3 (some ⟨w2.heap.size+1,0,none⟩) wqB.sets:=by
  intro i x hx
  have hi:i=0:=by
   have:=(List.getElem?_eq_some_iff.1 hx).1
   simp[wqB] at this
   exact this
  subst hi
  simp[wqB] at hx
  subst hx
  obtain⟨c0,c1,c2,c3,c4⟩:=cells5_of hx3
  refine⟨by decide,by decide,by decide,w2.heap.size+1,0,rfl,none,0,some ⟨w2.heap.size,0,none⟩,1,c0,c1,c2,c3,c4,.inl ⟨rfl,rfl⟩,hbi,fun y hy=>by simp[wqX] at hy,fun y hy=>by simp[wqX] at hy;omega⟩
 have hal: ∀b o,(some (⟨w2.heap.size+1,0,none⟩:Addr))=some ⟨b,o,none⟩→b<w3.heap.size:=fun b o e=>by
  injection e with e
  injection e with e
  subst e
  exact lt_of_heap hx3
 have HCM:=hid (wk_commit (c:=1) w3 (HR2.out.kept0 hu3) (HW2.out.kept hu3 (fun _ _ e=>e) (fun _ _ e=>e)) HL.out (by omega) hsi hal)
 have HU3:=hid hu3
 clear hw3 hu3 hx3 hbi hsi hal
 refine HCM.out.mono ?_
 rintro e w4 ⟨rfl,D4,F4,X4,hd4,hg4,hk4,hl4,rfl,hF4,hu4⟩
 have hu24:Upd (fun _=>False) w w4:=(HU2.out.trans HU3.out).step hu4 (fun k hk e=>by
  have h1:=HS1.out
  rcases e with e | e | e
  ·have:=HG2.out k e;omega
  ·rcases HF2.out k e with e | e
   ·have:=HF.out k e;omega
   ·omega
  ·have:=HRL.out;omega)
 have hF4': ∀k,F4 k→w.heap.size≤k:=fun k hk=>by
  have h1:=HS1.out
  rcases hF4 k hk with e | e
  ·rcases HF2.out k e with e | e
   ·have:=HF.out k e;omega
   ·omega
  ·have:=(HU2.out.trans HU3.out).size;omega
 have HD4:=hid hd4;have HG4:=hid hg4;have HK4:=hid hk4;have HL4:=hid hl4;have HF4:=hid hF4';have HU4:=hid hu24
 clear hd4 hg4 hk4 hl4 hF4 hu4 hu24 hF4' HCM HR2 HW2 HL HG2 HF2
 simp only[]
 go_wp2_with (go_at_call 35;fail)
 refine(wk_open w4 HD4.out HG4.out HK4.out HL4.out).mono ?_
 rintro e w5 ⟨r5,q5,b5,n5,C5,X5,D5,G5,F5,rfl,h1,h2,hn5,hp5,hu5⟩
 have HR5:=hid h1;have HW5:=hid h2
 have HU5:=hid (show Upd (fun _=>False) w w5 from HU4.out.step hu5 (fun k hk e=>by have:=HF4.out k e;omega))
 clear h1 h2 hu5 HD4 HG4 HK4 HL4
 simp only[]
 go_wp2_with (go_at_call 34;fail)
 refine(value_any (s:={data:=#[107]}) w5 HR5.out.reg HR5.out.map.1 (by decide) (by rw[wq_get];decide)).mono ?_
 rintro e w6 ⟨u,rfl,hown,hu6⟩
 rw[wq_get] at hown
 have hown:OwnB w6 w5.heap.size u [7]:=hown
 have hR6:=HR5.out.kept0 hu6
 obtain⟨g,o,c,rfl,hcell⟩: ∃g o c,u=.slice (some ⟨g,o,none⟩) 1 c∧w6.cell? ⟨g,o,none⟩=some (.int .u8 7):=by
  rcases hown.bytesAt.1 with ⟨_,h⟩ | ⟨g,o,c,_,h1,_,_,h4⟩
  ·cases h
  ·exact⟨g,o,c,h1,h4 0 _ rfl⟩
 have HR6:=hid hR6
 have HW6:=hid (HW5.out.kept hu6 (fun _ _ e=>e) (fun _ _ e=>e))
 have HU6:=hid (HU5.out.trans hu6)
 have hsome:(KV.get wqL {data:=#[107]}).isSome=true:=by rw[wq_get];rfl
 rw[hsome]
 clear hown hu6 hR6 hsome HR5 HW5
 simp only[]
 go_wp2_with (go_at_call 36;fail)
 refine(epoch_any w6 HR6.out.reg).mono ?_
 rintro e w7 ⟨rfl,rfl⟩
 simp only[]
 go_wp2_with (go_at_call 46;fail)
 refine(area_any w6 HR6.out.reg).mono ?_
 rintro e w7 ⟨rfl,rfl⟩
 simp only[]
 go_wp2_with (go_at_call 31;fail)
 have hc2:Calls Tryz.prog 31 #[.pointer (some ⟨r5,0,none⟩),.agg #[.int .u64 2,.bool false,.slice none 0 0]] w6 _:=commit_any (c:=0) (a:=none) (B:=wqB2) w6 HR6.out HW6.out.ok hp5 HW6.out.dok (by omega) (by omega) wq_fine (by omega) (by omega) (fun i x hx=>by simp[wqB2] at hx) (by simp[wqB2]) ⟨by show(0:Int)≤2∧(2:Int)≤18446744073709551615;omega,fun x hx=>by simp[wqB2] at hx⟩ (fun b o e=>by cases e)
 refine hc2.mono ?_
 intro e w7 h
 unfold CommitAns at h
 rw[wq_plan2 HW6.out.unbroken] at h
 obtain⟨rfl,hu7⟩:=h
 have HU7:=hid (HU6.out.trans hu7)
 clear hu7 hc2
 simp only[]
 go_wp2
 go_ret
 exact⟨rfl,HU7.out⟩
/-! ### The whole of a state, played, is the state -/
theorem KV.del_none {l:KV}{s:ByteArray}(h: ∀p∈l,p.1≠s):l.del s=l:=by
 unfold KV.del
 rw[List.filter_eq_self]
 intro p hp
 simp[h p hp]
theorem names_any {r b n:Nat}{C:Nat→Prop}{lg:Value}{ev area:Int}{l:KV}(w:World)(h:RegAt w r lg ev (.map (some b)) area)(hm:MapKV w b n C l)(hl:l.length≤1000):
  Calls Tryz.prog 37 #[.pointer (some ⟨r,0,none⟩)] w fun e w'=> ∃v,e=.returned v∧w'.ownsRow w.heap.size 9 1 v l.length (l.map fun p=>.string p.1)∧Upd (fun _=>False) w w':=by
 have c2:w.cell? ⟨r,2,none⟩=some (.map (some b)):=by rw[cell_of_heap h];rfl
 have HM:=hid hm;have HL:=hid hl
 clear h hm hl
 go_enter Tryz.func37,Tryz.ntmps37
 go_wp2_with (go_at_call 102;fail)
 refine(keys_any (some b) w).mono ?_
 rintro e w2 ⟨rfl,rfl⟩
 simp only[]
 go_wp2_with (go_at_call 101;fail)
 refine(sorted_any w HM.out HL.out).mono ?_
 rintro e w3 ⟨v,rfl,hrow,hu3⟩
 have HROW:=hid hrow;have HU3:=hid hu3
 obtain⟨sa,sc,rfl⟩:=rowV hrow
 clear hrow hu3
 simp only[]
 go_wp2
 go_ret
 exact⟨_,rfl,HROW.out,HU3.out⟩
def vC (y:(ByteArray×List Int)×Value):List Value:=[.string y.1.1,y.2]
theorem vC_length (y:(ByteArray×List Int)×Value):(vC y).length=2:=rfl
theorem vflat_length (L:List ((ByteArray×List Int)×Value)):(L.flatMap vC).length=2 * L.length:=by
 induction L with
 |nil=>rfl
 |cons y L ih=>simp[ih,vC_length];omega
theorem vflat_at: ∀(L:List ((ByteArray×List Int)×Value)) (i j:Nat) (y:(ByteArray×List Int)×Value),L[i]?=some y→j<2→(L.flatMap vC)[i * 2+j]?=(vC y)[j]?
 | [],i,j,y,h,_=>by simp at h
 |z :: L,0,j,y,h,hj=>by
  simp at h
  subst h
  rw[List.flatMap_cons,Nat.zero_mul,Nat.zero_add,List.getElem?_append_left (by rw[vC_length];exact hj)]
 |z :: L,i+1,j,y,h,hj=>by
  rw[List.flatMap_cons,List.getElem?_append_right (by rw[vC_length];omega),vC_length]
  rw[show(i+1) * 2+j - 2=i * 2+j by omega]
  exact vflat_at L i j y (by simpa using h) hj
def ValRow (w:World)(B:Nat)(C:Nat→Prop)(sv:Value)(l:KV):Prop:= ∃L:List ((ByteArray×List Int)×Value),L.map (·.1)=l∧w.ownsRow B 164 2 sv l.length (L.flatMap vC)∧ ∀y∈L,BytesAt w C y.2 y.1.2
theorem ValRow.nil (w:World)(B:Nat)(C:Nat→Prop):ValRow w B C (.slice none 0 0) []:=⟨[],rfl,⟨by simp,.inl ⟨rfl,rfl⟩⟩,fun y hy=>by simp at hy⟩
theorem ValRow.kept {F C:Nat→Prop}{w w':World}{B:Nat}{sv:Value}{l:KV}(h:ValRow w B C sv l)(hu:Upd F w w')(hv: ∀k,sv.ownBlock=some k→ ¬F k)(hc: ∀k,C k→ ¬F k):ValRow w' B C sv l:=by
 obtain⟨L,h0,h1,h2⟩:=h
 exact⟨L,h0,ownsRow_any h1 hu hv,fun y hy=>(h2 y hy).kept hu hc⟩
def ValsAt (w:World)(C:Nat→Prop)(a:Option Addr)(l:KV):Prop:= ∀i p,l[i]?=some p→ ∃g v,a=some ⟨g,0,none⟩∧w.cell? ⟨g,i * 2,none⟩=some (.string p.1)∧w.cell? ⟨g,i * 2+1,none⟩=some v∧BytesAt w C v p.2
theorem ValRow.valsAt {w:World}{B:Nat}{C:Nat→Prop}{a:Option Addr}{n c:Nat}{l:KV}(h:ValRow w B C (.slice a n c) l):ValsAt w C a l:=fun i x hx=>by
 obtain⟨L,rfl,h1,h2⟩:=h
 simp only[List.getElem?_map,Option.map_eq_some_iff] at hx
 obtain⟨y,hy,rfl⟩:=hx
 have k1:=h2 y (List.mem_of_getElem? hy)
 rcases h1.2 with ⟨_,h4⟩ | ⟨g,cap,cur,e,hb,hg,m1,m2,m3,m4⟩
 ·have:=(List.getElem?_eq_some_iff.1 hy).1
  simp at h4
  subst h4
  simp at this
 ·injection e with e3 e4 e5
  subst e3
  have hc: ∀j,j<2→w.cell? ⟨g,i * 2+j,none⟩=(vC y)[j]?:=fun j hj=>by
   have:=World.ownsRow.cells h1 rfl (i * 2+j) ((vC y)[j]'(by rw[vC_length];exact hj)) (by rw[vflat_at L i j y hy hj,List.getElem?_eq_getElem])
   rw[Addr.add_mid,Nat.zero_add] at this
   rw[this,List.getElem?_eq_getElem]
  exact⟨g,y.2,rfl,hc 0 (by omega),hc 1 (by omega),k1⟩
theorem ValRow.block164 {w:World}{B:Nat}{C:Nat→Prop}{sv:Value}{l:KV}(h:ValRow w B C sv l){k:Nat}(hk:sv.ownBlock=some k): ∃cs,w.heap[k]?=some (.cells cs 164 (0,0)):=by
 obtain⟨L,_,h1,_⟩:=h
 rcases h1.2 with ⟨e,_⟩ | ⟨g,cap,cur,e,_,hg,_⟩
 ·rw[e] at hk
  simp[Value.ownBlock] at hk
 ·rw[e] at hk
  simp only[Value.ownBlock,Option.some.injEq] at hk
  subst hk
  exact⟨_,hg⟩
theorem Tryz.info164p:(Tryz.prog.info? 164).map (fun i=>(i.zero,i.size,i.bytes))=some (some (.agg #[.string ⟨#[]⟩,.slice none 0 0]),2,40):=by kernel_rfl
theorem ValsAt.kept {F C:Nat→Prop}{w w':World}{a:Option Addr}{l:KV}(h:ValsAt w C a l)(hu:Upd F w w')(ha: ∀g o,a=some ⟨g,o,none⟩→ ¬F g)(hc: ∀k,C k→ ¬F k):ValsAt w' C a l:=fun i p hp=>by
 obtain⟨g,v,e,h1,h2,h3⟩:=h i p hp
 exact⟨g,v,e,cell_keptF hu (ha g 0 e) h1,cell_keptF hu (ha g 0 e) h2,h3.kept hu hc⟩
theorem ValsAt.kept0 {C:Nat→Prop}{w w':World}{a:Option Addr}{l:KV}(h:ValsAt w C a l)(hu:Upd (fun _=>False) w w'):ValsAt w' C a l:=h.kept hu (fun _ _ _ e=>e) (fun _ _ e=>e)
theorem KV.get_first {l:KV}{s:ByteArray}{k:Nat}{p:ByteArray×List Int}(hp:l[k]?=some p)(he:p.1=s)(hn: ∀i q,i<k→l[i]?=some q→q.1≠s):l.get s=some p.2:=by
 induction l generalizing k with
 |nil=>simp at hp
 |cons q l ih=>
  unfold KV.get
  cases k with
  |zero=>
   simp at hp
   subst hp
   simp[he]
  |succ k=>
   have h1:=hn 0 q (by omega) rfl
   rw[List.find?_cons_of_neg (by simpa using h1)]
   exact ih (by simpa using hp) (fun i q hi hq=>hn (i+1) q (by omega) (by simpa using hq))
theorem KV.get_no {l:KV}{s:ByteArray}(hn: ∀(i:Nat) (q:ByteArray×List Int),l[i]?=some q→q.1≠s):l.get s=none:=by
 unfold KV.get
 rw[Option.map_eq_none_iff,List.find?_eq_none]
 intro q hq
 obtain⟨i,hi⟩:=List.mem_iff_getElem?.1 hq
 simpa using hn i q hi
theorem get_val {C:Nat→Prop}{a:Option Addr}{c:Nat}{l:KV}{s:ByteArray}(w:World)(h:ValsAt w C a l)(hl:l.length≤1000):
  Calls Tryz.prog 32 #[.slice a l.length c,.string s] w fun e w'=> ∃v,e=.returned (.tuple #[v,.bool (l.get s).isSome])∧BytesAt w' C v ((l.get s).getD [])∧Upd (fun _=>False) w w':=by
 have HV:=hid h
 clear h
 go_enter Tryz.func32,Tryz.ntmps32
 go_upto_block 0 with fail
 go_upto_region 2 with fail
 go_loopg [10] l.length (fun gk i wr=> ∃k:Nat,k≤l.length∧gk=l.length - k∧i=.int .i64 k∧(∀i q,i<k→l[i]?=some q→q.1≠s)∧Upd (fun _=>False) w wr)
 case atStart=>exact⟨0,Nat.zero_le _,rfl,rfl,fun i q hi=>by omega,Upd.refl _ _⟩
 case round=>
  obtain⟨k,hk,rfl,rfl,hn,hu⟩:=hrel
  have HN:=hid hn;have HU:=hid hu
  have hv:=HV.out.kept0 hu
  clear hn hu
  by_cases hkn:k<l.length
  ·have hkni:(k:Int)<l.length:=by omega
   obtain⟨p,hp⟩: ∃p,l[k]?=some p:=⟨_,List.getElem?_eq_getElem hkn⟩
   obtain⟨g,v,rfl,y0,y1,hb⟩:=hv k p hp
   obtain⟨va,vc,rfl,_⟩:=hb.slice
   have HB:=hid hb;have HP:=hid hp
   clear hv hb hp
   go_upto_region 4 with fail
   obtain⟨wa,hwa⟩: ∃wa,wa=wr.alloc (.cells #[.string p.1,.slice va p.2.length vc] 164):=⟨_,rfl⟩
   rw[←hwa]
   have hua:Upd (fun _=>False) wr wa:=by rw[hwa];exact(Upd.refl _ wr).alloc _
   have hxa:wa.heap[wr.heap.size]?=some (.cells #[.string p.1,.slice va p.2.length vc] 164 (0,0)):=by rw[hwa];exact alloc_at rfl
   obtain⟨z0,z1⟩:=cells2_of hxa
   have HBA:=hid (HB.out.kept hua (fun _ _ e=>e));have HUA:=hid (HU.out.trans hua)
   clear hwa hua hxa y0 y1
   have hcv2:IntKind.i64.wrap ((k:Int)+1)=(k:Int)+1:=by rw[IntKind.wrap_i64];omega
   by_cases he:p.1=s
   ·have hget:=KV.get_first HP.out he HN.out
    have HG:=hid hget
    clear hget
    subst he
    go_wp2
    go_returns
    rw[HG.out]
    exact⟨_,rfl,HBA.out,HUA.out⟩
   ·have HE:=hid he
    have heb:(p.1.toList == s.toList)=false:=by rw[toList_eq];exact decide_eq_false he
    go_wp2
    go_roundg (l.length - (k+1))
    case measure=>omega
    case rel=>exact⟨k+1,by omega,rfl,congrArg _ (by omega),fun i q hi hq=>by
     by_cases e:i=k
     ·subst e
      rw[HP.out] at hq
      injection hq with hq
      subst hq
      exact HE.out
     ·exact HN.out i q (by omega) hq,HUA.out⟩
  ·obtain rfl:k=l.length:=by omega
   have hget:l.get s=none:=KV.get_no fun i q hq=>HN.out i q (List.getElem?_eq_some_iff.1 hq).1 hq
   have HG:=hid hget
   clear hget
   go_wp2
   go_returns
   rw[HG.out]
   exact⟨_,rfl,.inl ⟨rfl,rfl⟩,HU.out⟩
theorem size62:(Tryz.prog.info? 62).map (·.size)=some 2:=by kernel_rfl
theorem ValRow.low {w:World}{B B':Nat}{C:Nat→Prop}{sv:Value}{l:KV}(h:ValRow w B C sv l)(hb:B'≤B):ValRow w B' C sv l:=by
 obtain⟨L,h0,h1,h2⟩:=h
 exact⟨L,h0,ownsRow_base_a h1 hb,h2⟩
theorem ValRow.low_own {w:World}{B:Nat}{C:Nat→Prop}{sv:Value}{l:KV}(h:ValRow w B C sv l){k:Nat}(hk:sv.ownBlock=some k):B≤k:=by
 obtain⟨L,h0,h1,h2⟩:=h
 exact(World.ownsRow.lt h1 k hk).1
def ToldAns (w:World)(ev:Int)(l:KV)(e:Ending)(w':World):Prop:= ∃a c C,e=.returned (.tuple #[.agg #[.int .u64 ev,.slice a l.length c],.bool true])∧ValRow w' w.heap.size C (.slice a l.length c) l∧(∀k,C k→w.heap.size≤k)∧RowC w' C∧Upd (fun _=>False) w w'
structure TlAt (w3:World) (sb:Nat) (ev:Int) (l:KV) (k:Nat) (W:World):Prop where
 out: ∃(a:Option Addr) (c:Nat) (C:Nat→Prop),W.heap[sb]?=some (.cells #[.int .u64 ev,.slice a k c] 62 (0,0))∧ValRow W w3.heap.size C (.slice a k c) (l.take k)∧(∀j,C j→w3.heap.size≤j)∧RowC W C
 upd:Upd (fun j=>j=sb) w3 W
theorem told_any {r b n:Nat}{C:Nat→Prop}{lg:Value}{ev area:Int}{l:KV}(w:World)(h:RegAt w r lg ev (.map (some b)) area)(hm:MapKV w b n C l)(hl:l.Fine):
  Calls Tryz.prog 30 #[.pointer (some ⟨r,0,none⟩)] w (ToldAns w ev l):=by
 obtain⟨w1,hw1⟩: ∃w1,w1=w.alloc (.cells #[.int .u64 0,.slice none 0 0] 62):=⟨_,rfl⟩
 have hu1:Upd (fun _=>False) w w1:=by rw[hw1];exact(Upd.refl _ w).alloc _
 have hx1:w1.heap[w.heap.size]?=some (.cells #[.int .u64 0,.slice none 0 0] 62 (0,0)):=by rw[hw1];exact alloc_at rfl
 have hz1:w1.heap.size=w.heap.size+1:=by rw[hw1];simp
 have hr1:RegAt w1 r lg ev (.map (some b)) area:=(hu1.block _ (lt_of_heap h) (fun e=>e)).trans h
 have hm1:=hm.kept0 hu1
 have HR:=hid hr1;have HM:=hid hm1;have HL:=hid hl;have HW1:=hid hw1;have HU1:=hid hu1;have HX1:=hid hx1;have HZ1:=hid hz1
 have HRL:=hid (lt_of_heap h);have HBL:=hid hm.lt;have HCL:=hid hm.1.rowC.lt
 clear h hm hl hw1 hu1 hx1 hz1 hr1 hm1
 go_enter Tryz.func30,Tryz.ntmps30
 go_upto_region 1 with fail
 rw[←HW1.out]
 go_wp2_with (go_at_call 36;fail)
 refine(epoch_any w1 HR.out).mono ?_
 rintro e w2 ⟨rfl,rfl⟩
 simp only[]
 go_wp2_with (go_at_call 37;fail)
 obtain⟨w2,hw2⟩: ∃w2,w2=w1.alloc (.cells #[.int .u64 ev,.slice none 0 0] 62):=⟨_,rfl⟩
 rw[←hw2]
 have hu2:Upd (fun _=>False) w1 w2:=by rw[hw2];exact(Upd.refl _ w1).alloc _
 have hx2:w2.heap[w1.heap.size]?=some (.cells #[.int .u64 ev,.slice none 0 0] 62 (0,0)):=by rw[hw2];exact alloc_at rfl
 have hz2:w2.heap.size=w1.heap.size+1:=by rw[hw2];simp
 refine(names_any w2 ((hu2.block _ (lt_of_heap HR.out) (fun e=>e)).trans HR.out) (HM.out.kept0 hu2) (by have:=HL.out.len;omega)).mono ?_
 rintro e w3 ⟨v,rfl,hrow,hu3⟩
 obtain⟨sa,sc,rfl⟩:=rowV hrow
 simp only[]
 have hu13:=hu2.trans hu3
 have hx3:=(hu3.block _ (lt_of_heap hx2) (fun e=>e)).trans hx2
 have HX3:=hid hx3
 have HXT:=hid ((hu13.block _ (lt_of_heap HX1.out) (fun e=>e)).trans HX1.out)
 have HR3:=hid ((hu13.block _ (lt_of_heap HR.out) (fun e=>e)).trans HR.out)
 have HM3:=hid (HM.out.kept0 hu13)
 have HU3:=hid (HU1.out.trans hu13)
 have HROW:=hid hrow
 have HSZ:=hid (show w.heap.size<w1.heap.size∧w1.heap.size<w2.heap.size∧w2.heap.size≤w3.heap.size by have:=HZ1.out;have:=hu3.size;omega)
 have HD:=hid (show TlAt w3 w1.heap.size ev l 0 w3 from⟨⟨none,0,fun _=>False,hx3,ValRow.nil _ _ _,fun _ e=>e.elim,fun _ e=>e.elim⟩,Upd.refl _ _⟩)
 obtain⟨sb,hsb⟩: ∃sb,sb=w1.heap.size:=⟨_,rfl⟩
 obtain⟨tb,htb⟩: ∃tb,tb=w.heap.size:=⟨_,rfl⟩
 rw[←hsb] at HX3 HSZ HD
 rw[←htb] at HXT HSZ HRL HBL HCL
 rw[←hsb,←htb]
 have HTB:=hid htb
 clear hw2 hu2 hx2 hz2 hrow hu3 hu13 hx3 hsb htb HW1 HX1 HZ1 HR HM
 go_upto_block 0 with fail
 go_upto_region 3 with fail
 go_loopg [17] l.length (fun gk i wr=> ∃k:Nat,k≤l.length∧gk=l.length - k∧i=.int .i64 k∧TlAt w3 sb ev l k wr)
 case atStart=>exact⟨0,Nat.zero_le _,rfl,rfl,HD.out⟩
 case round=>
  obtain⟨k,hk,rfl,rfl,hd⟩:=hrel
  have HD:=hid hd
  clear hd
  by_cases hkn:k<l.length
  ·have hkni:(k:Int)<l.length:=by omega
   obtain⟨p,hp⟩: ∃p,l[k]?=some p:=⟨_,List.getElem?_eq_getElem hkn⟩
   have hpm:=List.mem_of_getElem? hp
   have HP:=hid hp
   have HEA:=hid (HL.out.each p hpm)
   have hget:l.get p.1=some p.2:=(KV.get_some HL.out.rising).2 hpm
   have hupd:=HD.out.upd
   have hrow':=ownsRow_any HROW.out hupd (fun j hj e=>by have:=(World.ownsRow.lt HROW.out j hj).1;have:=HSZ.out;omega)
   obtain⟨g,rfl,hcell⟩:=row_cell hrow' (k:=k) (u:=.string p.1) (by rw[List.getElem?_map,hp];rfl)
   have hmk:=HM3.out.kept hupd (fun e=>by have:=HBL.out;have:=HSZ.out;omega) (fun j hj e=>by have:=HCL.out j hj;have:=HSZ.out;omega)
   have hrk:RegAt wr r lg ev (.map (some b)) area:=(hupd.block _ (lt_of_heap HR3.out) (fun e=>by have:=HRL.out;have:=HSZ.out;omega)).trans HR3.out
   have HV:=hid (value_any (s:=p.1) wr hrk hmk.1 (by have:=HEA.out;unfold maxLen;omega) (by rw[hget];have:=HEA.out;simp;omega))
   rw[hget] at HV
   simp only[Option.getD_some,Option.isSome_some] at HV
   clear hpm hget hupd hrow' hmk hrk hp
   go_wp2_with (go_at_call 34;fail)
   refine HV.out.mono ?_
   rintro e w4 ⟨u,rfl,g1,g2⟩
   obtain⟨va,vc,rfl⟩:=g1.slice'
   simp only[]
   obtain⟨la,lc,C0,ho1,ho2,ho3,ho4⟩:=HD.out.out
   have hob4:=(g2.block _ (lt_of_heap ho1) (fun e=>e)).trans ho1
   have hrw4:=ho2.kept g2 (fun _ _ e=>e) (fun _ _ e=>e)
   obtain⟨y0,y1⟩:=cells2_of hob4
   have hby:=g1.bytesAt
   have HOB:=hid hob4;have HRW:=hid hrw4;have HCB:=hid ho3;have HRC:=hid (ho4.kept g2 (fun _ _ e=>e));have HG1:=hid hby;have HG2:=hid g2
   have HWR:=hid (show w3.heap.size≤wr.heap.size from HD.out.upd.size)
   clear hob4 hrw4 hby ho1 ho2 ho3 ho4 g1 g2 HV
   go_upto_region 8 with fail
   iterate 19 go_step
   obtain⟨L,hLm,hLo,hLb⟩:=HRW.out
   have hwl:(l.take k).length=k:=by simp;omega
   rw[hwl] at hLo
   have hLl:=hLo.lt
   have hz9:sb<w4.heap.size:=lt_of_heap HOB.out
   have hel:vC (p,.slice va p.2.length vc)=[.string p.1,.slice va p.2.length vc]:=rfl
   obtain⟨i0,hi0,hz0,hz1,hz2⟩:=info_parts Tryz.info164p
   refine wpList_append_lies _ rfl (.tmp 31) (.tmp 35) 60 rfl w3.heap.size 164 i0 _ 2 40 Tryz.underlying60 hi0 hz0 hz1 hz2 rfl (by omega) (.slice la k lc) _ _ rfl (hLo.alloc _) ⟨w4.heap.size,0,none⟩ 1 1 (vC (p,.slice va p.2.length vc)) rfl
    rfl (World.news_of_block (cs:=(vC (p,.slice va p.2.length vc)).toArray) (t:=164) (fr:=(0,0)) (by rw[hel];exact heap_alloc_new _ _)) (by rw[hel];simp[Value.oneCell']) (by omega) (by unfold maxLen;have:=HL.out.len;omega) (by have:=HL.out.len;omega) (by have:=HG2.out.size;have:=HWR.out;simp;omega) (w4.heap.size+1) (by simp) ?_
   intro g' cap w16 hown hgrow hat hlt
   have hu16:Upd (fun k'=>(Value.slice la k lc).ownBlock=some k') w4 w16:=((Upd.refl _ w4).alloc _).trans (Upd.of_grown hgrow (fun k hk=>hk))
   have hob10:=(hu16.block _ hz9 (fun e=>by have:=(hLl sb e).1;have:=HSZ.out;omega)).trans HOB.out
   have hgob:w3.heap.size≤g':=by
    have:=HG2.out.size;have:=HWR.out
    rcases hat with e | e
    ·exact(hLl g' e).1
    ·omega
   obtain⟨y0,y1⟩:=cells2_of hob10
   have g2:w16.frozen? ⟨sb,1,none⟩=false:=frozen_of_heap hob10
   have hapart: ∀D:Nat→Prop,RowC w4 D→ ∀j,D j→ ¬(Value.slice la k lc).ownBlock=some j:=fun D hD j hj e=>by
    obtain⟨cs,q⟩:=hD j hj
    have hrv:ValRow w4 w3.heap.size C0 (.slice la k lc) (l.take k):=HRW.out
    obtain⟨cs',q'⟩:=hrv.block164 e
    rw[q] at q'
    injection q' with q'
    injection q' with _ q'
    exact absurd q' (by decide)
   have hc0:=hapart _ HRC.out
   have hc1:=hapart _ HG1.out.2.1
   have htk:l.take (k+1)=l.take k++[p]:=by
    obtain⟨h1,h2⟩:=List.getElem?_eq_some_iff.1 HP.out
    rw[List.take_succ_eq_append_getElem h1,h2]
   have hrow16:ValRow w16 w3.heap.size (fun j=>C0 j∨(Value.slice va p.2.length vc).ownBlock=some j) (.slice (some ⟨g',0,none⟩) (k+1) cap) (l.take (k+1)):=by
    refine⟨L++[(p,.slice va p.2.length vc)],by rw[List.map_append,hLm,htk];rfl,?_,fun y hy=>?_⟩
    ·rw[List.flatMap_append,htk,List.length_append,hwl]
     simpa using hown
    ·rw[List.mem_append] at hy
     rcases hy with hy | hy
     ·exact((hLb y hy).kept hu16 hc0).mono (fun _ e=>.inl e)
     ·simp only[List.mem_singleton] at hy
      subst hy
      exact(HG1.out.1.kept hu16 hc1).mono (fun _ e=>.inr e)
   have hrc16:RowC w16 (fun j=>C0 j∨(Value.slice va p.2.length vc).ownBlock=some j):=fun j hj=>by
    rcases hj with hj | hj
    ·exact HRC.out.kept hu16 hc0 j hj
    ·exact HG1.out.2.1.kept hu16 hc1 j hj
   have HNEW:=hid hrow16;have HRC16:=hid hrc16;have HOB10:=hid hob10;have HU16:=hid hu16;have HLLT:=hid hLl;have HGOB:=hid hgob
   clear hrow16 hrc16 hob10 hu16 hown hgrow hat hi0 hz0 hz1 hz2 hLm hLo hLb hLl hel hgob hc0 hc1 hapart htk
   have hcv2:IntKind.i64.wrap ((k:Int)+1)=(k:Int)+1:=by rw[IntKind.wrap_i64];have:=HL.out.len;omega
   go_wp2
   obtain⟨w17,hw17⟩: ∃w17,w17=w16.setCell ⟨sb,1,none⟩ (.slice (some ⟨g',0,none⟩) (k+1) cap):=⟨_,rfl⟩
   rw[←hw17]
   have hu17:Upd (fun k=>k=sb) w16 w17:=by rw[hw17];exact upd_own w16 sb 1 _
   have hob17:w17.heap[sb]?=some (.cells #[.int .u64 ev,.slice (some ⟨g',0,none⟩) (k+1) cap] 62 (0,0)):=by
    rw[hw17]
    have:=blk_set (i:=1) (v:=.slice (some ⟨g',0,none⟩) (k+1) cap) HOB10.out
    simpa using this
   have hnsb: ∀j,(C0 j∨(Value.slice va p.2.length vc).ownBlock=some j)→w3.heap.size≤j:=fun j hj=>by
    rcases hj with hj | hj
    ·exact HCB.out j hj
    ·have:=HG1.out.2.2 j hj;have:=HWR.out;omega
   have hdc:TlAt w3 sb ev l (k+1) w17:=by
    refine⟨⟨_,_,_,hob17,HNEW.out.kept hu17 (fun j hj e=>by simp[Value.ownBlock] at hj;have:=HGOB.out;have:=HSZ.out;omega) (fun j hj e=>by have:=hnsb j hj;have:=HSZ.out;omega),hnsb,HRC16.out.kept hu17 (fun j hj e=>by have:=hnsb j hj;have:=HSZ.out;omega)⟩,?_⟩
    exact((HD.out.upd.trans (HG2.out.mono (F:=fun _=>False) (fun _ _ e=>e.elim))).step HU16.out (fun j hj e=>by have:=(HLLT.out j e).1;omega)).trans hu17
   go_roundg (l.length - (k+1))
   case measure=>omega
   case rel=>exact⟨k+1,by omega,rfl,congrArg _ (by omega),hdc⟩
  ·obtain rfl:k=l.length:=by omega
   obtain⟨la,lc,C0,ho1,ho2,ho3,ho4⟩:=HD.out.out
   rw[List.take_length] at ho2
   have HV1:=hid ho1;have HV2:=hid ho2;have HV3:=hid ho3;have HV4:=hid ho4
   have hupd:=HD.out.upd
   have hrk:RegAt wr r lg ev (.map (some b)) area:=(hupd.block _ (lt_of_heap HR3.out) (fun e=>by have:=HRL.out;have:=HSZ.out;omega)).trans HR3.out
   have hmk:=HM3.out.kept hupd (fun e=>by have:=HBL.out;have:=HSZ.out;omega) (fun j hj e=>by have:=HCL.out j hj;have:=HSZ.out;omega)
   have HRK:=hid hrk;have HMK:=hid hmk
   clear ho1 ho2 ho3 ho4 hupd hrk hmk
   have hmk:(Instr.makeSlice 39 (.int .i64 25) (.int .i64 25)).run Tryz.prog wr=.ok (.slice (some ⟨wr.heap.size,0,none⟩) 25 25) (wr.alloc (.cells (madeCells #[.int .u8 0] 25) 5)):=
    run_make_row' (P:=Tryz.prog) 39 5 (.int .u8 0) 1 Tryz.underlying39 Tryz.info5p rfl .i64 .i64 25 (by omega) (by omega) wr
   have hcs:=conv_str (zs_in wr 25 (by omega))
   obtain⟨s9,hs9⟩: ∃s,s=strOfNums (zs 25):=⟨_,rfl⟩
   have hsz9:s9.size=25:=by rw[hs9,strOfNums_size];simp[zs]
   rw[←hs9] at hcs
   clear hs9
   have hget:l.get s9=none:=by
    cases e:l.get s9 with
    |none=>rfl
    |some v=>
     have:=(HL.out.each _ ((KV.get_some HL.out.rising).1 e)).2.1
     simp only at this
     omega
   obtain⟨w5,hw5⟩: ∃w5,w5=wr.alloc (.cells (madeCells #[.int .u8 0] 25) 5):=⟨_,rfl⟩
   have hu5:Upd (fun _=>False) wr w5:=by rw[hw5];exact(Upd.refl _ wr).alloc _
   rw[←hw5] at hmk hcs
   clear hw5
   have HV:=hid (value_any (s:=s9) w5 ((hu5.block _ (lt_of_heap HRK.out) (fun e=>e)).trans HRK.out) (HMK.out.kept0 hu5).1 (by unfold maxLen;omega) (by rw[hget];simp))
   rw[hget] at HV
   simp only[Option.getD_none,Option.isSome_none] at HV
   have HU5:=hid hu5
   clear hu5 hget hsz9
   go_wp2_with (go_at_call 34;fail)
   clear hmk hcs
   refine HV.out.mono ?_
   rintro e w6 ⟨u,rfl,g1,g2⟩
   obtain⟨va,vc,rfl⟩:=g1.slice'
   simp only[List.length_nil]
   have hu6:=HU5.out.trans g2
   have hob6:=(hu6.block _ (lt_of_heap HV1.out) (fun e=>e)).trans HV1.out
   have hxt:=((HD.out.upd.trans (hu6.mono (F:=fun _=>False) (fun _ _ e=>e.elim))).block _ (lt_of_heap HXT.out) (fun e=>by have:=HSZ.out;omega)).trans HXT.out
   obtain⟨y0,y1⟩:=cells2_of hob6
   obtain⟨z0,z1⟩:=cells2_of hxt
   have gf:w6.frozen? ⟨tb,0,none⟩=false:=frozen_of_heap hxt
   have gf1:w6.frozen? ⟨tb,1,none⟩=false:=frozen_of_heap hxt
   have HOB6:=hid hob6;have HXT6:=hid hxt;have HU6:=hid hu6
   clear hob6 hxt hu6 g1 g2 HV
   go_wp2
   obtain⟨w7,hw7⟩: ∃w7,w7=(w6.setCell ⟨tb,0,none⟩ (.int .u64 ev)).setCell ⟨tb,1,none⟩ (.slice la l.length lc):=⟨_,rfl⟩
   rw[←hw7]
   have hx7:w7.heap[tb]?=some (.cells #[.int .u64 ev,.slice la l.length lc] 62 (0,0)):=by
    rw[hw7]
    have:=blk_set (i:=1) (v:=.slice la l.length lc) (blk_set (i:=0) (v:=.int .u64 ev) HXT6.out)
    simpa using this
   have hu7:Upd (fun k=>k=tb) w6 w7:=by rw[hw7];exact(upd_own w6 tb 0 _).trans (upd_own _ tb 1 _)
   have hsz2:tb<sb∧sb<w2.heap.size∧w2.heap.size≤w3.heap.size:=HSZ.out
   refine bodyPost_ret (results_cell_tmp Tryz.results30 rfl (run_loadVar_mid (P:=Tryz.prog) w7 tb 0 62 [_,_] _ (rangeAt_block hx7) Tryz.underlying62 rfl size62)) rfl ?_
   have hu67:=(HU6.out.mono (F:=fun _=>False) (G:=fun k=>k=tb) (fun _ _ e=>e.elim)).trans hu7
   have hlo: ∀j,w3.heap.size≤j→ ¬j=tb:=fun j hj e=>by omega
   refine⟨la,lc,C0,rfl,?_,fun j hj=>by have:=HV3.out j hj;have:=HTB.out;omega,HV4.out.kept hu67 (fun j hj e=>hlo j (HV3.out j hj) e),?_⟩
   ·have h1:=HV2.out.kept hu67 (fun j hj e=>hlo j (HV2.out.low_own hj) e) (fun j hj e=>hlo j (HV3.out j hj) e)
    exact h1.low (by have:=HTB.out;omega)
   ·exact((HU3.out.step HD.out.upd (fun j hj e=>by have:=HTB.out;omega)).trans HU6.out).step hu7 (fun j hj e=>by have:=HTB.out;omega)
def withR (s:ByteArray)(v:List Int):Bool→KV→KV
 |dn,[]=>if dn then [] else [(s,v)]
 |dn,p :: r=>if dn=false∧nb s<nb p.1 then(s,v) :: (if p.1=s then withR s v true r else p :: withR s v true r) else if p.1=s then withR s v dn r else p :: withR s v dn r
theorem withR_done (s:ByteArray)(v:List Int): ∀l:KV,withR s v true l=l.del s
 | []=>rfl
 |p :: r=>by
  have ih:=withR_done s v r
  unfold KV.del at ih ⊢
  simp only[withR,List.filter_cons]
  by_cases e:p.1=s
  ·simp[e,ih]
  ·simp[e,ih]
theorem withR_put (s:ByteArray)(v:List Int): ∀l:KV,withR s v false l=l.put s v
 | []=>rfl
 |p :: r=>by
  have ih:=withR_put s v r
  unfold KV.put at ih ⊢
  by_cases h:nb s<nb p.1
  ·have hne:p.1≠s:=fun e=>by rw[e] at h;exact absurd h (List.lt_irrefl _)
   have hd:KV.del (p :: r) s=p :: KV.del r s:=by simp[KV.del,hne]
   rw[hd]
   simp only[withR,KV.ins,true_and,if_pos h,if_neg hne,withR_done]
  ·by_cases e:p.1=s
   ·have hd:KV.del (p :: r) s=KV.del r s:=by simp[KV.del,e]
    rw[hd]
    simp only[withR,true_and,if_neg h,if_pos e,ih]
   ·have hd:KV.del (p :: r) s=p :: KV.del r s:=by simp[KV.del,e]
    rw[hd]
    simp only[withR,KV.ins,true_and,if_neg h,if_neg e,ih]
theorem nb_total {s v:ByteArray}(h: ¬nb s<nb v)(he:v≠s):nb v<nb s:=by
 by_cases q:nb v<nb s
 ·exact q
 ·exact absurd (nb_inj (List.le_antisymm (List.not_lt.1 h) (List.not_lt.1 q))) he
theorem names_less {a b:ByteArray}:Op.bytesLess a.toList b.toList=decide (nb a<nb b):=by
 rw[Go.Proofs.bytesLess_eq,ByteArray.toList_eq,ByteArray.toList_eq]
 rfl
theorem withR_with (x:SetV)(l:KV):withR x.name x.new (!x.is) l=l.with x:=by
 unfold KV.with
 cases hx:x.is with
 |true=>simp only[Bool.not_true,if_true];exact withR_put _ _ l
 |false=>simp only[Bool.not_false,Bool.false_eq_true,if_false];exact withR_done _ _ l
theorem wpList_appV {ops:Array Oper}{rest:List Oper}{o:Oper}{a:Act}{w:World}{Q:Exit→Act→World→Prop}(hgd:o.guard=none)(s x:Operand)(ho:o.op=.call {callee:=.builtin .append,args:=#[s,x],argTypes:=#[60,60]})
  {B g c:Nat} {C:Nat→Prop} {sa:Option Addr} {out:KV} {p:ByteArray×List Int} {u:Value} (hs:a.eval s=.slice sa out.length c) (hx:a.eval x=.slice (some ⟨g,0,none⟩) 1 1) (hrow:ValRow w B C (.slice sa out.length c) out)
  (hg:w.heap[g]?=some (.cells #[.string p.1,u] 164 (0,0))) (hu:BytesAt w C u p.2) (hC:RowC w C) (hl:out.length≤2000) (hB:B≤w.heap.size)
  (h: ∀a' c' w',ValRow w' B C (.slice a' (out.length+1) c') (out++[p])→Upd (fun k=>(Value.slice sa out.length c).ownBlock=some k) w w'→RowC w' C→wpList Tryz.prog ops Q rest (a.put o.dst (.slice a' (out.length+1) c')) w'):wpList Tryz.prog ops Q (o :: rest) a w:=by
 obtain⟨L,hLm,hLo,hLb⟩:=hrow
 obtain⟨va,vc,rfl,_⟩:=hu.slice
 obtain⟨i0,hi0,hz0,hz1,hz2⟩:=info_parts Tryz.info164p
 have hel:vC (p,.slice va p.2.length vc)=[.string p.1,.slice va p.2.length vc]:=rfl
 have hapart: ∀j,C j→ ¬(Value.slice sa out.length c).ownBlock=some j:=fun j hj e=>by
  obtain⟨cs,q⟩:=hC j hj
  have hrv:ValRow w B C (.slice sa out.length c) out:=⟨L,hLm,hLo,hLb⟩
  obtain⟨cs',q'⟩:=hrv.block164 e
  rw[q] at q'
  injection q' with q'
  injection q' with _ q'
  exact absurd q' (by decide)
 refine wpList_append_lies _ hgd s x 60 ho B 164 i0 _ 2 40 Tryz.underlying60 hi0 hz0 hz1 hz2 rfl (by omega) (.slice sa out.length c) _ _ hs hLo ⟨g,0,none⟩ 1 1 (vC (p,.slice va p.2.length vc)) hx
  rfl (World.news_of_block (cs:=(vC (p,.slice va p.2.length vc)).toArray) (t:=164) (fr:=(0,0)) (by rw[hel];exact hg)) (by rw[hel];simp[Value.oneCell']) (by omega) (by unfold maxLen;omega) (by omega) hB w.heap.size rfl ?_
 intro g' cap w16 hown hgrow hat hlt
 have hu16:Upd (fun k'=>(Value.slice sa out.length c).ownBlock=some k') w w16:=Upd.of_grown hgrow (fun k hk=>hk)
 refine h _ cap w16 ⟨L++[(p,.slice va p.2.length vc)],by rw[List.map_append,hLm];rfl,?_,fun y hy=>?_⟩ hu16 (hC.kept hu16 hapart)
 ·rw[List.flatMap_append,List.length_append]
  simpa using hown
 ·rw[List.mem_append] at hy
  rcases hy with hy | hy
  ·exact(hLb y hy).kept hu16 hapart
  ·simp only[List.mem_singleton] at hy
   subst hy
   exact hu.kept hu16 hapart
structure WtAt (w:World) (C:Nat→Prop) (s:ByteArray) (v:List Int) (l R:KV) (k:Nat) (v5 v6:Value) (W:World):Prop where
 out: ∃sa c out dn,v5=.slice sa out.length c∧v6=.bool dn∧ValRow W w.heap.size C (.slice sa out.length c) out∧out++withR s v dn (l.drop k)=R∧out.length≤2 * k
 row:RowC W C
 upd:Upd (fun _=>False) w W
theorem with_any {C:Nat→Prop}{l:KV}{x:SetV}{a oa na:Option Addr}{c oc nc:Nat}(w0:World)(hV:ValsAt w0 C a l)(hl:l.length≤1000)(hn:BytesAt w0 C (.slice na x.new.length nc) x.new)(hC:RowC w0 C):
  Calls Tryz.prog 192 #[.slice a l.length c,.agg #[.string x.name,.bool x.was,.bool x.is,.slice oa x.old.length oc,.slice na x.new.length nc]] w0 fun e w'=> ∃a' c',e=.returned (.slice a' (l.with x).length c')∧ValRow w' w0.heap.size C (.slice a' (l.with x).length c') (l.with x)∧Upd (fun _=>False) w0 w':=by
 obtain⟨w,hw⟩: ∃w,w=w0.alloc (.cells #[.string x.name,.bool x.was,.bool x.is,.slice oa x.old.length oc,.slice na x.new.length nc] 73):=⟨_,rfl⟩
 have hu:Upd (fun _=>False) w0 w:=by rw[hw];exact(Upd.refl _ w0).alloc _
 have hx:w.heap[w0.heap.size]?=some (.cells #[.string x.name,.bool x.was,.bool x.is,.slice oa x.old.length oc,.slice na x.new.length nc] 73 (0,0)):=by rw[hw];exact alloc_at rfl
 obtain⟨xb,hxb⟩: ∃xb,xb=w0.heap.size:=⟨_,rfl⟩
 have HV:=hid (hV.kept0 hu);have HL:=hid hl;have HN:=hid (hn.kept hu (fun _ _ e=>e));have HC:=hid (hC.kept hu (fun _ _ e=>e));have HU:=hid hu
 have HXB:=hid hxb
 rw[←hxb] at hx
 have HX:=hid hx
 have hwR:=withR_with x l
 obtain⟨R,hR⟩: ∃R,R=l.with x:=⟨_,rfl⟩
 rw[←hR] at hwR ⊢
 have HR:=hid hwR
 clear hV hl hn hC hu hwR hR
 go_enter Tryz.func192,Tryz.ntmps192
 go_upto_region 1 with fail
 rw[←hw,←hxb]
 obtain⟨x0,x1,x2,x3,x4⟩:=cells5_of hx
 have hst:WtAt w C x.name x.new l R 0 (.slice none 0 0) (.bool (!x.is)) w:=⟨⟨none,0,[],!x.is,rfl,rfl,ValRow.nil _ _ _,by simpa using HR.out,by simp⟩,HC.out,Upd.refl _ _⟩
 have HST:=hid hst
 clear hst hw hxb hx
 go_upto_block 0 with fail
 go_upto_region 4 with fail
 go_loopg [5,6,14] l.length (fun gk v5 v6 i wr=> ∃k:Nat,k≤l.length∧gk=l.length - k∧i=.int .i64 k∧WtAt w C x.name x.new l R k v5 v6 wr)
 case atStart=>exact⟨0,Nat.zero_le _,rfl,rfl,HST.out⟩
 case round=>
  obtain⟨k,hk,rfl,rfl,hwt⟩:=hrel
  obtain⟨⟨sa,sc,out,dn,rfl,rfl,hrow,heq,hlen⟩,hrc,hur⟩:=hwt
  have HROW:=hid hrow;have HEQ:=hid heq;have HLEN:=hid hlen;have HRC:=hid hrc;have HUR:=hid hur
  clear hrow heq hlen hrc hur
  obtain⟨wo,rfl⟩: ∃wo:World,wo=wr:=⟨_,rfl⟩
  have hxr:=(HUR.out.block _ (lt_of_heap HX.out) (fun e=>e)).trans HX.out
  by_cases hkn:k<l.length
  ·have hkni:(k:Int)<l.length:=by omega
   obtain⟨p,hp⟩: ∃p,l[k]?=some p:=⟨_,List.getElem?_eq_getElem hkn⟩
   obtain⟨g,v,rfl,y0,y1,hb⟩:=(HV.out.kept0 HUR.out) k p hp
   obtain⟨va,vc,rfl,_⟩:=hb.slice
   have hdr:l.drop k=p :: l.drop (k+1):=by
    obtain⟨h1,h2⟩:=List.getElem?_eq_some_iff.1 hp
    rw[List.drop_eq_getElem_cons h1,h2]
   have HB:=hid hb;have HP:=hid hp;have HDR:=hid hdr;have HXR:=hid hxr
   clear hb hp hdr
   go_upto_region 6 with fail
   obtain⟨wa,hwa⟩: ∃wa,wa=wo.alloc (.cells #[.string p.1,.slice va p.2.length vc] 164):=⟨_,rfl⟩
   rw[←hwa]
   have hua:Upd (fun _=>False) wo wa:=by rw[hwa];exact(Upd.refl _ wo).alloc _
   have hxa:wa.heap[wo.heap.size]?=some (.cells #[.string p.1,.slice va p.2.length vc] 164 (0,0)):=by rw[hwa];exact alloc_at rfl
   obtain⟨vb,hvb⟩: ∃vb,vb=wo.heap.size:=⟨_,rfl⟩
   rw[←hvb] at hxa ⊢
   obtain⟨z0,z1⟩:=cells2_of hxa
   have hxra:=(hua.block _ (lt_of_heap HXR.out) (fun e=>e)).trans HXR.out
   obtain⟨x0,x1,x2,x3,x4⟩:=cells5_of hxra
   have HRO9:=hid (HROW.out.kept hua (fun _ _ e=>e) (fun _ _ e=>e));have HC9:=hid (HRC.out.kept hua (fun _ _ e=>e));have HB9:=hid (HB.out.kept hua (fun _ _ e=>e));have HU9:=hid (HUR.out.trans hua);have HXA:=hid hxa;have HXRA:=hid hxra
   have HN9:=hid (HN.out.kept (HUR.out.trans hua) (fun _ _ e=>e))
   have HOWN:=hid (show∀j,(Value.slice sa out.length sc).ownBlock=some j→j<vb from fun j e=>by obtain⟨L,_,h4,_⟩:=HROW.out;have:=(World.ownsRow.lt h4 j e).2;omega)
   clear hwa hua hxa hvb hxra hxr y0 y1 HROW HRC HB
   have hcv2:IntKind.i64.wrap ((k:Int)+1)=(k:Int)+1:=by rw[IntKind.wrap_i64];have:=HL.out;omega
   cases dn with
   |true=>
    by_cases he:p.1=x.name
    ·have heb:(p.1.toList == x.name.toList)=true:=by rw[he];simp
     have HE:=hid he
     clear he
     go_wp2
     go_roundg (l.length - (k+1))
     case measure=>omega
     case rel=>exact⟨k+1,by omega,rfl,congrArg _ (by omega),⟨⟨sa,sc,out,true,rfl,rfl,HRO9.out,by rw[←HEQ.out,HDR.out];simp[withR,HE.out],by have:=HLEN.out;omega⟩,HC9.out,HU9.out⟩⟩
    ·have heb:(p.1.toList == x.name.toList)=false:=by rw[toList_eq];exact decide_eq_false he
     have HE:=hid he
     clear he
     go_upto_region 9 with fail
     iterate 10 go_step
     refine(?_:wpList _ _ _ _ _ (wa.alloc (.cells #[.string p.1,.slice va p.2.length vc] 164)))
     refine wpList_appV (B:=w.heap.size) (out:=out) (p:=p) rfl (.tmp 40) (.tmp 42) rfl rfl rfl (HRO9.out.kept ((Upd.refl (fun _=>False) wa).alloc _) (fun _ _ e=>e) (fun _ _ e=>e)) (alloc_at rfl) (HB9.out.kept ((Upd.refl (fun _=>False) wa).alloc _) (fun _ _ e=>e)) (HC9.out.kept ((Upd.refl (fun _=>False) wa).alloc _) (fun _ _ e=>e)) (by have:=HLEN.out;have:=HL.out;omega) (by have:=HU9.out.size;simp;omega) (fun a9 c9 w9 hr9 hu9 hc9=>?_)
     have HRN:=hid hr9;have HCN:=hid hc9
     have HUN:=hid (show Upd (fun _=>False) w w9 from(HU9.out.trans ((Upd.refl (fun _=>False) wa).alloc _)).step hu9 (fun j hj e=>by obtain⟨L,_,h4,_⟩:=HRO9.out;have:=(World.ownsRow.lt h4 j e).1;omega))
     clear hr9 hu9 hc9
     go_wp2
     go_roundg (l.length - (k+1))
     case measure=>omega
     case rel=>exact⟨k+1,by omega,rfl,congrArg _ (by omega),⟨⟨a9,c9,out++[p],true,by simp,rfl,by simpa using HRN.out,by rw[←HEQ.out,HDR.out];simp[withR,HE.out],by have:=HLEN.out;simp;omega⟩,HCN.out,HUN.out⟩⟩
   |false=>
    by_cases hlt:nb x.name<nb p.1
    ·have he:p.1≠x.name:=fun e=>by rw[e] at hlt;exact absurd hlt (List.lt_irrefl _)
     have heb:(p.1.toList == x.name.toList)=false:=by rw[toList_eq];exact decide_eq_false he
     have hbl:Op.bytesLess p.1.toList x.name.toList=false:=by rw[names_less];exact decide_eq_false (fun h=>absurd (List.lt_trans hlt h) (List.lt_irrefl _))
     have HE:=hid he;have HLT:=hid hlt
     clear he hlt
     go_upto_region 7 with fail
     iterate 22 go_step
     refine(?_:wpList _ _ _ _ _ (wa.alloc (.cells #[.string x.name,.slice na x.new.length nc] 164)))
     refine wpList_appV (B:=w.heap.size) (out:=out) (p:=(x.name,x.new)) rfl (.tmp 27) (.tmp 33) rfl rfl rfl (HRO9.out.kept ((Upd.refl (fun _=>False) wa).alloc _) (fun _ _ e=>e) (fun _ _ e=>e)) (alloc_at rfl) (HN9.out.kept ((Upd.refl (fun _=>False) wa).alloc _) (fun _ _ e=>e)) (HC9.out.kept ((Upd.refl (fun _=>False) wa).alloc _) (fun _ _ e=>e)) (by have:=HLEN.out;have:=HL.out;omega) (by have:=HU9.out.size;simp;omega) (fun a8 c8 w8 hr8 hu8 hc8=>?_)
     have hut:Upd (fun j=>w.heap.size≤j) wa w8:=(((Upd.refl (fun _=>False) wa).alloc _).mono (F:=fun _=>False) (fun _ _ e=>e.elim)).trans (hu8.mono (fun j hj e=>by obtain⟨L,_,h4,_⟩:=HRO9.out;exact(World.ownsRow.lt h4 j e).1))
     have HRO8:=hid hr8;have HC8:=hid hc8;have HU8:=hid (HU9.out.step hut (fun j hj e=>by omega))
     have HB8:=hid ((HB9.out.kept ((Upd.refl (fun _=>False) wa).alloc (.cells #[.string x.name,.slice na x.new.length nc] 164)) (fun _ _ e=>e)).kept hu8 (fun j hj e=>by
      obtain⟨L,h3,h4,h5⟩:=HRO9.out
      have hrv:ValRow wa w.heap.size C (.slice sa out.length sc) out:=⟨L,h3,h4,h5⟩
      obtain⟨cs,q⟩:=HC9.out j hj
      obtain⟨cs',q'⟩:=hrv.block164 e
      rw[q] at q'
      injection q' with q'
      injection q' with _ q'
      exact absurd q' (by decide)))
     have hxa8:=(hu8.block _ (lt_of_heap (((Upd.refl (fun _=>False) wa).alloc (.cells #[.string x.name,.slice na x.new.length nc] 164)).block _ (lt_of_heap HXA.out) (fun e=>e) |>.trans HXA.out)) (fun e=>absurd (HOWN.out vb e) (Nat.lt_irrefl _))).trans ((((Upd.refl (fun _=>False) wa).alloc (.cells #[.string x.name,.slice na x.new.length nc] 164)).block _ (lt_of_heap HXA.out) (fun e=>e)).trans HXA.out)
     have hxr8:=(hut.block _ (lt_of_heap HXRA.out) (fun e=>by have:=lt_of_heap HX.out;omega)).trans HXRA.out
     obtain⟨out8,ho8⟩: ∃o,o=out++[(x.name,x.new)]:=⟨_,rfl⟩
     have hl8:out.length+1=out8.length:=by rw[ho8];simp
     rw[hl8,←ho8] at hr8
     rw[hl8]
     have HRO9':=hid hr8;have HOUT8:=hid ho8;have HL8:=hid hl8
     obtain⟨z0,z1⟩:=cells2_of hxa8
     obtain⟨x0,x1,x2,x3,x4⟩:=cells5_of hxr8
     clear hr8 hu8 hc8 hut hxa8 hxr8 ho8 hl8 HRO8 HRO9 HC9 HB9 HU9 HN9
     have HRO9:=HRO9';have HC9:=HC8;have HB9:=HB8;have HU9:=HU8
     go_upto_region 9 with fail
     iterate 10 go_step
     refine(?_:wpList _ _ _ _ _ (w8.alloc (.cells #[.string p.1,.slice va p.2.length vc] 164)))
     refine wpList_appV (B:=w.heap.size) (out:=out8) (p:=p) rfl (.tmp 40) (.tmp 42) rfl rfl rfl (HRO9.out.kept ((Upd.refl (fun _=>False) w8).alloc _) (fun _ _ e=>e) (fun _ _ e=>e)) (alloc_at rfl) (HB9.out.kept ((Upd.refl (fun _=>False) w8).alloc _) (fun _ _ e=>e)) (HC9.out.kept ((Upd.refl (fun _=>False) w8).alloc _) (fun _ _ e=>e)) (by have:=HLEN.out;have:=HL.out;have:=HL8.out;omega) (by have:=HU9.out.size;simp;omega) (fun a9 c9 w9 hr9 hu9 hc9=>?_)
     have HRN:=hid hr9;have HCN:=hid hc9
     have HUN:=hid (show Upd (fun _=>False) w w9 from(HU9.out.trans ((Upd.refl (fun _=>False) w8).alloc _)).step hu9 (fun j hj e=>by obtain⟨L,_,h4,_⟩:=HRO9.out;have:=(World.ownsRow.lt h4 j e).1;omega))
     clear hr9 hu9 hc9
     go_wp2
     go_roundg (l.length - (k+1))
     case measure=>omega
     case rel=>exact⟨k+1,by omega,rfl,congrArg _ (by omega),⟨⟨a9,c9,out8++[p],true,by simp,rfl,by simpa using HRN.out,by rw[HOUT8.out,←HEQ.out,HDR.out];simp[withR,HLT.out,HE.out],by have:=HLEN.out;have:=HL8.out;simp;omega⟩,HCN.out,HUN.out⟩⟩
    ·by_cases he:p.1=x.name
     ·have heb:(p.1.toList == x.name.toList)=true:=by rw[he];simp
      have hbl:Op.bytesLess p.1.toList x.name.toList=false:=by rw[he,names_less];exact decide_eq_false (List.lt_irrefl _)
      have HE:=hid he;have HLT:=hid hlt
      clear he hlt
      go_wp2
      go_roundg (l.length - (k+1))
      case measure=>omega
      case rel=>exact⟨k+1,by omega,rfl,congrArg _ (by omega),⟨⟨sa,sc,out,false,rfl,rfl,HRO9.out,by rw[←HEQ.out,HDR.out];simp only[withR,true_and,if_neg HLT.out,if_pos HE.out],by have:=HLEN.out;omega⟩,HC9.out,HU9.out⟩⟩
     ·have heb:(p.1.toList == x.name.toList)=false:=by rw[toList_eq];exact decide_eq_false he
      have hbl:Op.bytesLess p.1.toList x.name.toList=true:=by rw[names_less];exact decide_eq_true (nb_total hlt he)
      have HE:=hid he;have HLT:=hid hlt
      clear he hlt
      go_upto_region 9 with fail
      iterate 10 go_step
      refine(?_:wpList _ _ _ _ _ (wa.alloc (.cells #[.string p.1,.slice va p.2.length vc] 164)))
      refine wpList_appV (B:=w.heap.size) (out:=out) (p:=p) rfl (.tmp 40) (.tmp 42) rfl rfl rfl (HRO9.out.kept ((Upd.refl (fun _=>False) wa).alloc _) (fun _ _ e=>e) (fun _ _ e=>e)) (alloc_at rfl) (HB9.out.kept ((Upd.refl (fun _=>False) wa).alloc _) (fun _ _ e=>e)) (HC9.out.kept ((Upd.refl (fun _=>False) wa).alloc _) (fun _ _ e=>e)) (by have:=HLEN.out;have:=HL.out;omega) (by have:=HU9.out.size;simp;omega) (fun a9 c9 w9 hr9 hu9 hc9=>?_)
      have HRN:=hid hr9;have HCN:=hid hc9
      have HUN:=hid (show Upd (fun _=>False) w w9 from(HU9.out.trans ((Upd.refl (fun _=>False) wa).alloc _)).step hu9 (fun j hj e=>by obtain⟨L,_,h4,_⟩:=HRO9.out;have:=(World.ownsRow.lt h4 j e).1;omega))
      clear hr9 hu9 hc9
      go_wp2
      go_roundg (l.length - (k+1))
      case measure=>omega
      case rel=>exact⟨k+1,by omega,rfl,congrArg _ (by omega),⟨⟨a9,c9,out++[p],false,by simp,rfl,by simpa using HRN.out,by rw[←HEQ.out,HDR.out];simp[withR,HLT.out,HE.out],by have:=HLEN.out;simp;omega⟩,HCN.out,HUN.out⟩⟩
  ·obtain rfl:k=l.length:=by omega
   have hfin:=HEQ.out
   rw[List.drop_length] at hfin
   obtain⟨x0,x1,x2,x3,x4⟩:=cells5_of hxr
   cases dn with
   |true=>
    have hfin:out=R:=by simpa [withR] using hfin
    subst hfin
    have HF:=hid (HROW.out.low (B':=w0.heap.size) HU.out.size)
    clear hxr
    go_wp2
    go_ret
    exact⟨sa,sc,rfl,HF.out,HU.out.trans HUR.out⟩
   |false=>
    have hfin:out++[(x.name,x.new)]=R:=by simpa [withR] using hfin
    have HFIN:=hid hfin
    clear hfin hxr
    go_upto_region 12 with fail
    iterate 22 go_step
    refine(?_:wpList _ _ _ _ _ (wo.alloc (.cells #[.string x.name,.slice na x.new.length nc] 164)))
    refine wpList_appV (B:=w.heap.size) (out:=out) (p:=(x.name,x.new)) rfl (.tmp 47) (.tmp 53) rfl rfl rfl (HROW.out.kept ((Upd.refl (fun _=>False) wo).alloc _) (fun _ _ e=>e) (fun _ _ e=>e)) (alloc_at rfl) ((HN.out.kept HUR.out (fun _ _ e=>e)).kept ((Upd.refl (fun _=>False) wo).alloc _) (fun _ _ e=>e)) (HRC.out.kept ((Upd.refl (fun _=>False) wo).alloc _) (fun _ _ e=>e)) (by have:=HLEN.out;have:=HL.out;omega) (by have:=HUR.out.size;simp;omega) (fun a8 c8 w8 hr8 hu8 hc8=>?_)
    have hut:=(HUR.out.trans ((Upd.refl (fun _=>False) wo).alloc (.cells #[.string x.name,.slice na x.new.length nc] 164))).step hu8 (fun j hj e=>by obtain⟨L,_,h4,_⟩:=HROW.out;have:=(World.ownsRow.lt h4 j e).1;omega)
    have hl8:out.length+1=R.length:=by rw[←HFIN.out];simp
    rw[hl8,HFIN.out] at hr8
    rw[hl8]
    have HF:=hid (hr8.low (B':=w0.heap.size) HU.out.size);have HUT:=hid hut
    clear hr8 hu8 hc8 hut hl8
    go_wp2
    go_ret
    exact⟨a8,c8,rfl,HF.out,HU.out.trans HUT.out⟩
theorem vals_list {w:World}{C:Nat→Prop}{a:Option Addr}: ∀(l:KV) (i0:Nat),(∀i p,l[i]?=some p→ ∃g v,a=some ⟨g,0,none⟩∧w.cell? ⟨g,(i0+i) * 2,none⟩=some (.string p.1)∧w.cell? ⟨g,(i0+i) * 2+1,none⟩=some v∧BytesAt w C v p.2)→
  ∃L:List ((ByteArray×List Int)×Value),L.map (·.1)=l∧(∀y∈L,BytesAt w C y.2 y.1.2)∧ ∀g,a=some ⟨g,0,none⟩→ ∀j u,(L.flatMap vC)[j]?=some u→w.cell? ⟨g,i0 * 2+j,none⟩=some u
 | [],i0,_=>⟨[],rfl,fun y hy=>by simp at hy,fun g _ j u h=>by simp at h⟩
 |p :: l,i0,h=>by
  obtain⟨g,v,rfl,c1,c2,hb⟩:=h 0 p rfl
  obtain⟨L,h1,h2,h3⟩:=vals_list l (i0+1) (fun i q hq=>by
   have:=h (i+1) q (by simpa using hq)
   rwa [show i0+(i+1)=i0+1+i by omega] at this)
  refine⟨(p,v) :: L,by simp[h1],fun y hy=>?_,fun g' e j u hj=>?_⟩
  ·rcases List.mem_cons.1 hy with rfl | hy
   ·exact hb
   ·exact h2 y hy
  ·injection e with e
   injection e with e
   subst e
   rw[List.flatMap_cons] at hj
   match j,hj with
   | 0,hj=>
    simp[vC] at hj
    subst hj
    rw[Nat.add_zero] at c1
    exact c1
   | 1,hj=>
    simp[vC] at hj
    subst hj
    rw[Nat.add_zero] at c2
    exact c2
   |j+2,hj=>
    rw[List.getElem?_append_right (by simp[vC])] at hj
    have h4:(L.flatMap vC)[j]?=some u:=by simpa [vC] using hj
    have:=h3 g rfl j u h4
    rwa [show(i0+1) * 2+j=i0 * 2+(j+2) by omega] at this
theorem run_appVs {ty:TypeId}{w:World}{g kc B:Nat}{ka:Option Addr}{C:Nat→Prop}{l:KV}(hg:w.heap[g]?=some (.cells #[] 164 (0,0)))(hV:ValsAt w C ka l)(hC:RowC w C)(hl:l.length≤2000)(hB:B≤g):
  ∃a' c' w',(Builtin.append_ #[60,60] ty #[.slice (some ⟨g,0,none⟩) 0 0,.slice ka l.length kc]).run Tryz.prog w=.ok (.slice a' l.length c') w'∧ValRow w' B C (.slice a' l.length c') l∧Upd (fun k=>k=g) w w'∧RowC w' C:=by
 obtain⟨i,hi,hz,hsz,hb⟩:=info_parts Tryz.info164p
 have hgw:=lt_of_heap hg
 have hgC: ∀j,C j→ ¬j=g:=fun j hj e=>by
  obtain⟨cs,q⟩:=hC j hj
  rw[e,hg] at q
  injection q with q
  injection q with _ q
  exact absurd q (by decide)
 cases l with
 |nil=>
  refine⟨some ⟨g,0,none⟩,0,w,?_,⟨[],rfl,⟨rfl,.inr ⟨g,0,_,rfl,hB,hg,Nat.le_refl _,by unfold maxLen;omega,rfl,rfl⟩⟩,fun y hy=>by simp at hy⟩,Upd.refl _ _,hC⟩
  cases ka with
  |none=>simp[Builtin.append_,run_underlying Tryz.underlying60,hi,typeInfo,sizeOf,Builtin.lenOf,Builtin.firstCells,hsz,loadCells,loadCellsFrom,storeCells,Result.andThen]
  |some ad=>simp[Builtin.append_,run_underlying Tryz.underlying60,hi,typeInfo,sizeOf,Builtin.lenOf,Builtin.firstCells,hsz,loadCells,loadCellsFrom,storeCells,Result.andThen]
 |cons p l=>
  obtain⟨ga,v,rfl,_⟩:=hV 0 p rfl
  obtain⟨L,h1,h2,h3⟩:=vals_list (w:=w) (C:=C) (a:=some ⟨ga,0,none⟩) (p :: l) 0 (fun i q hq=>by rw[Nat.zero_add];exact hV i q hq)
  have hown:w.ownsRow B 164 2 (.slice (some ⟨g,0,none⟩) 0 0) 0 []:=⟨rfl,.inr ⟨g,0,_,rfl,hB,hg,Nat.le_refl _,by unfold maxLen;omega,rfl,rfl⟩⟩
  have hLl:L.length=(p :: l).length:=by rw[←h1];simp
  have hc: ∀(j:Nat) (u:Value),(L.flatMap vC)[j]?=some u→w.cell? ((⟨ga,0,none⟩:Addr).add j)=some u:=fun j u hu=>by
   rw[Addr.add_mid,Nat.zero_add]
   have:=h3 ga rfl j u hu
   rwa [Nat.zero_mul,Nat.zero_add] at this
  have hone: ∀u∈L.flatMap vC,u.oneCell'=true:=fun u hu=>by
   rw[List.mem_flatMap] at hu
   obtain⟨y,hy,hu⟩:=hu
   have hb9:=h2 y hy
   obtain⟨va,vc,e,_⟩:=hb9.slice
   simp only[vC,List.mem_cons,List.mem_singleton,List.not_mem_nil,or_false] at hu
   rcases hu with rfl | rfl
   ·rfl
   ·rw[e];rfl
  obtain⟨v',w',hr,g1,g2,_,g3⟩:=run_append_own_at (P:=Tryz.prog) w B 60 ty 164 i _ 2 40 Tryz.underlying60 hi hz hsz hb rfl (by omega) (.slice (some ⟨g,0,none⟩) 0 0) 0 [] hown ⟨ga,0,none⟩ (p :: l).length kc (L.flatMap vC) (by rw[vflat_length,hLl];omega) hc hone (by unfold maxLen;omega) (by omega) (by omega)
  rw[Nat.zero_add,List.nil_append] at g1
  obtain⟨a',c',rfl⟩: ∃a' c',v'=.slice a' (p :: l).length c':=by
   rcases g1.2 with ⟨h,h0⟩ | ⟨g',cap,cur,h,_⟩
   ·simp at h0
   ·exact⟨_,_,h⟩
  have hu:=Upd.of_grown (F:=fun k=>k=g) g2 (fun k hk=>by simpa [Value.ownBlock] using hk.symm)
  exact⟨a',c',w',hr,⟨L,h1,g1,fun y hy=>(h2 y hy).kept hu hgC⟩,hu,hC.kept hu hgC⟩
theorem str_eq {x y:List Int}(hx:Bytes x)(hy:Bytes y):((strOfNums x).toList == (strOfNums y).toList)=decide (x=y):=by
 rw[toList_eq]
 by_cases e:x=y
 ·rw[e];simp
 ·rw[decide_eq_false e,decide_eq_false]
  intro h
  exact e (by rw[←numsOf_strOf hx,h,numsOf_strOf hy])
theorem same_reg {C D:Nat→Prop}{a b:Option Addr}{c d:Nat}{e1 e2:Int}{l m:KV}(w:World)(h1:ValsAt w C a l)(h2:ValsAt w D b m)(hl:l.length≤1000)(hb1: ∀p∈l,Bytes p.2)(hb2: ∀p∈m,Bytes p.2):
  Calls Tryz.prog 33 #[.agg #[.int .u64 e1,.slice a l.length c],.agg #[.int .u64 e2,.slice b m.length d]] w fun e w'=>e=.returned (.bool (decide (e1=e2∧l=m)))∧Upd (fun _=>False) w w':=by
 obtain⟨w1,hw1⟩: ∃w1,w1=(w.alloc (.cells #[.int .u64 e1,.slice a l.length c] 62)).alloc (.cells #[.int .u64 e2,.slice b m.length d] 62):=⟨_,rfl⟩
 have hu1:Upd (fun _=>False) w w1:=by rw[hw1];exact((Upd.refl _ w).alloc _).alloc _
 have hx1:w1.heap[w.heap.size]?=some (.cells #[.int .u64 e1,.slice a l.length c] 62 (0,0)):=by rw[hw1,alloc_lt (by simp)];exact alloc_at rfl
 have hx2:w1.heap[w.heap.size+1]?=some (.cells #[.int .u64 e2,.slice b m.length d] 62 (0,0)):=by rw[hw1];exact alloc_at (by simp)
 have HV1:=hid (h1.kept0 hu1);have HV2:=hid (h2.kept0 hu1);have HB1:=hid hb1;have HB2:=hid hb2;have HW1:=hid hw1;have HU1:=hid hu1
 obtain⟨x0,x1⟩:=cells2_of hx1
 obtain⟨y0,y1⟩:=cells2_of hx2
 clear h1 h2 hb1 hb2 hw1 hu1
 obtain⟨ans,hans⟩: ∃r,r=decide (e1=e2∧l=m):=⟨_,rfl⟩
 rw[←hans]
 have hno: ¬(e1=e2∧l=m)→ans=false:=fun h=>by rw[hans];exact decide_eq_false h
 have hyes:(e1=e2∧l=m)→ans=true:=fun h=>by rw[hans];exact decide_eq_true h
 have HNO:=hid hno;have HYES:=hid hyes
 clear hans hno hyes
 go_enter Tryz.func33,Tryz.ntmps33
 go_upto_region 1 with fail
 rw[←HW1.out]
 obtain⟨tb,htb⟩: ∃tb,tb=w.heap.size+1:=⟨_,rfl⟩
 obtain⟨sb,hsb⟩: ∃sb,sb=w.heap.size:=⟨_,rfl⟩
 have HX1:=hid hx1;have HX2:=hid (show w1.heap[tb]?=some (.cells #[.int .u64 e2,.slice b m.length d] 62 (0,0)) by rw[htb];exact hx2)
 rw[←hsb] at HX1
 clear hx1 hx2
 rw[←htb] at y0 y1
 rw[←hsb] at x0 x1
 rw[←htb,←hsb]
 clear hsb htb
 by_cases he:e1=e2
 ·subst he
  by_cases hlen:l.length=m.length
  ·have hlI:(l.length:Int)=m.length:=by rw[hlen]
   have HLEN:=hid hlen
   rw[←hlen] at y1 hlI
   obtain⟨nl,hnl⟩: ∃nl,nl=l.length:=⟨_,rfl⟩
   have HNL:=hid hnl
   rw[←hlen]
   rw[←hnl] at x1 y1 hl ⊢
   rw[←hnl] at HX1
   rw[←hlen,←hnl] at HX2
   clear hlI hlen hnl
   go_upto_block 0 with fail
   go_upto_region 4 with fail
   clear x0 x1 y0 y1
   go_loopg [23] nl (fun gk i wr=> ∃k:Nat,k≤nl∧gk=nl - k∧i=.int .i64 k∧(∀i,i<k→l[i]?=m[i]?)∧Upd (fun _=>False) w1 wr)
   case atStart=>exact⟨0,Nat.zero_le _,rfl,rfl,fun i hi=>by omega,Upd.refl _ _⟩
   case round=>
    obtain⟨k,hk,rfl,rfl,hn,hu⟩:=hrel
    have HN:=hid hn;have HU:=hid hu
    obtain⟨x0,x1⟩:=cells2_of ((hu.block _ (lt_of_heap HX1.out) (fun e=>e)).trans HX1.out)
    obtain⟨y0,y1⟩:=cells2_of ((hu.block _ (lt_of_heap HX2.out) (fun e=>e)).trans HX2.out)
    have hv1:=HV1.out.kept0 hu;have hv2:=HV2.out.kept0 hu
    clear hn hu
    by_cases hkn:k<nl
    ·have hkni:(k:Int)<nl:=by omega
     have hk1:k<l.length:=by have:=HNL.out;omega
     have hk2:k<m.length:=by have:=HNL.out;have:=HLEN.out;omega
     obtain⟨p,hp⟩: ∃p,l[k]?=some p:=⟨_,List.getElem?_eq_getElem hk1⟩
     obtain⟨q,hq⟩: ∃q,m[k]?=some q:=⟨_,List.getElem?_eq_getElem hk2⟩
     obtain⟨g,v,rfl,u0,u1,hb⟩:=hv1 k p hp
     obtain⟨f,u,rfl,z0,z1,hc⟩:=hv2 k q hq
     have hcv:=fun n:Nat=>conv_str (hb.kept ((Upd.refl (fun _=>False) wr).drewN n) (fun _ _ e=>e)).bytesIn
     have hcu:=fun n:Nat=>conv_str (hc.kept ((Upd.refl (fun _=>False) wr).drewN n) (fun _ _ e=>e)).bytesIn
     have hse:=str_eq (HB1.out p (List.mem_of_getElem? hp)) (HB2.out q (List.mem_of_getElem? hq))
     obtain⟨va,vc,rfl,_⟩:=hb.slice
     obtain⟨ua,uc,rfl,_⟩:=hc.slice
     have HP:=hid hp;have HQ:=hid hq
     clear hb hc hp hq hk1 hk2 hv1 hv2
     have hcv2:IntKind.i64.wrap ((k:Int)+1)=(k:Int)+1:=by rw[IntKind.wrap_i64];omega
     go_upto_region 6 with fail
     by_cases n1:p.1=q.1
     ·have e1:(p.1.toList == q.1.toList)=true:=by rw[toList_eq];exact decide_eq_true n1
      by_cases n2:p.2=q.2
      ·have e2:((strOfNums p.2).toList == (strOfNums q.2).toList)=true:=by rw[hse];exact decide_eq_true n2
       have HE:=hid (show p=q from Prod.ext n1 n2)
       clear n1 n2 hse
       go_quiet (fail)
       go_wp2
       go_roundg (nl - (k+1))
       case measure=>omega
       case rel=>exact⟨k+1,by omega,rfl,congrArg _ (by omega),fun i hi=>by
        by_cases e:i=k
        ·subst e
         rw[HP.out,HQ.out,HE.out]
        ·exact HN.out i (by omega),HU.out.drewN _⟩
      ·have e2:((strOfNums p.2).toList == (strOfNums q.2).toList)=false:=by rw[hse];exact decide_eq_false n2
       have HE:=hid (show p≠q from fun e=>n2 (by rw[e]))
       clear n1 n2 hse
       go_quiet (fail)
       go_wp2
       go_ret
       exact⟨by rw[HNO.out fun e=>HE.out (by
        have h1:=HP.out
        rw[e.2,HQ.out] at h1
        injection h1 with h1
        exact h1.symm)];rfl,HU1.out.trans (HU.out.drewN _)⟩
     ·have e1:(p.1.toList == q.1.toList)=false:=by rw[toList_eq];exact decide_eq_false n1
      have HE:=hid (show p≠q from fun e=>n1 (by rw[e]))
      clear n1 hse
      go_quiet (fail)
      go_wp2
      go_ret
      exact⟨by rw[HNO.out fun e=>HE.out (by
       have h1:=HP.out
       rw[e.2,HQ.out] at h1
       injection h1 with h1
       exact h1.symm)];rfl,HU1.out.trans (HU.out.drewN _)⟩
    ·obtain rfl:k=nl:=by omega
     have heq:l=m:=List.ext_getElem? fun i=>by
      by_cases hi:i<k
      ·exact HN.out i hi
      ·rw[List.getElem?_eq_none (by have:=HNL.out;omega),List.getElem?_eq_none (by have:=HNL.out;have:=HLEN.out;omega)]
     have HEQ:=hid heq
     clear heq
     go_wp2
     go_ret
     exact⟨by rw[HYES.out ⟨by trivial,HEQ.out⟩];rfl,HU1.out.trans HU.out⟩
  ·have hnI:((l.length:Int) == (m.length:Int))=false:=by
    rw[beq_eq_false_iff_ne]
    omega
   have hlI: ¬(l.length:Int)=m.length:=by omega
   have HLN:=hid hlen
   clear hlen
   go_wp2
   go_ret
   exact⟨by rw[HNO.out fun e=>HLN.out (by rw[e.2])];rfl,HU1.out⟩
 ·have HEN:=hid he
  have heb:(e1 == e2)=false:=by simpa using he
  go_wp2
  go_ret
  exact⟨by rw[HNO.out fun e=>HEN.out e.1];rfl,HU1.out⟩
end
end Go.Proofs.YtbimkhdiplnbfaaGreat
