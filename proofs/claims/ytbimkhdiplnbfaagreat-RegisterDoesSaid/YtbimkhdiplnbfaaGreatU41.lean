/- Walks. -/
import Derived.Test.YtbimkhdiplnbfaaGreatU31
import Derived.Test.YtbimkhdiplnbfaaGreatU34
import Derived.Test.YtbimkhdiplnbfaaGreatU40
set_option linter.unusedVariables false
set_option linter.unusedSimpArgs false
namespace Go.Proofs.YtbimkhdiplnbfaaGreat
set_option maxRecDepth 1000000
set_option maxHeartbeats 16000000
variable {l:KV} {C:Nat→Prop} {a:Option Addr} {w:World}
section
open Go.RowKit Go.Shelf
theorem Zi7 {ty:TypeId}{g kc:Nat}{ka:Option Addr}{K:List Bool}(hg:w.heap[g]?=some (.cells #[] 4 (0,0)))(hk:BoolsIn w ka K)(hl:K.length≤140737488351232):
  ∃a' c' w',(Builtin.append_ #[40,40] ty #[.slice (some ⟨g,0,none⟩) 0 0,.slice ka K.length kc]).run Tryz.prog w=.ok (.slice a' K.length c') w'∧BoolsAt w' a' K∧Upd (fun k=>k=g) w w':=by
 obtain⟨i,hi,hz,a1,hb⟩:=info_parts Tryz.info4q
 cases K with
 |nil=>
  refine⟨some ⟨g,0,none⟩,0,w,?_,fun i b h=>by simp at h,Upd.refl _ _⟩
  cases ka with
  |none=>simp[Builtin.append_,run_underlying Tryz.underlying40,hi,typeInfo,sizeOf,Builtin.lenOf,Builtin.firstCells,a1,loadCells,loadCellsFrom,storeCells,Result.andThen]
  |some ad=>simp[Builtin.append_,run_underlying Tryz.underlying40,hi,typeInfo,sizeOf,Builtin.lenOf,Builtin.firstCells,a1,loadCells,loadCellsFrom,storeCells,Result.andThen]
 |cons b0 K0=>
  obtain⟨kb,ko,rfl,h0⟩:=hk 0 b0 rfl
  have a0:w.ownsRow 0 4 1 (.slice (some ⟨g,0,none⟩) 0 0) 0 []:=⟨rfl,.inr ⟨g,0,_,rfl,Nat.zero_le _,hg,Nat.le_refl _,by unfold maxLen;omega,rfl,rfl⟩⟩
  have hc: ∀(j:Nat) (u:Value),((b0 :: K0).map Value.bool)[j]?=some u→w.cell? ((⟨kb,ko,none⟩:Addr).add j)=some u:=fun j u hu=>by
   rw[List.getElem?_map,Option.map_eq_some_iff] at hu
   obtain⟨b,a3,rfl⟩:=hu
   obtain⟨a7,a4,e,h2⟩:=hk j b a3
   injection e with e
   injection e with e1 e2
   subst e1 e2
   rw[Zdk]
   exact h2
  obtain⟨v',w',hr,g1,g2,_,g3⟩:=run_append_own_at (P:=Tryz.prog) w 0 40 ty 4 i (.bool false) 1 1 Tryz.underlying40 hi hz a1 hb rfl (by omega) (.slice (some ⟨g,0,none⟩) 0 0) 0 [] a0 ⟨kb,ko,none⟩ (b0 :: K0).length kc ((b0 :: K0).map Value.bool) (by simp) hc (fun u hu=>by
   rw[List.mem_map] at hu
   obtain⟨b,_,rfl⟩:=hu
   rfl) (by unfold maxLen;omega) (by omega) (Nat.zero_le _)
  rw[Nat.zero_add,List.nil_append] at g1
  obtain⟨a',c',rfl⟩:=rowV g1
  refine⟨a',c',w',hr,fun j b hj=>?_,Upd.of_grown g2 (fun k hk=>by simpa [Value.ownBlock] using hk.symm)⟩
  have a2:((b0 :: K0).map Value.bool)[j]?=some (.bool b):=by rw[List.getElem?_map,hj];rfl
  rcases g1.2 with ⟨h1,_⟩ | ⟨gg,a5,a6,h1,_,h3,_⟩
  ·simp at h1
  ·injection h1 with h1 _ _
   subst h1
   have:=World.ownsRow.cells (g:=gg) g1 rfl j _ a2
   refine⟨gg,0,rfl,Za h3,?_⟩
   rwa [Zdk] at this
theorem OpIn.klen' {B:BatchV}{c:Nat}{ra:Option Addr}{R:List Bool}{rc:Nat}{ka:Option Addr}{K:List Bool}{kc:Nat}(h:OpIn w B a c ra R rc ka K kc):K.length≤140737488351232:=Nat.le_trans h.klen.1 h.klen.2
def VNewOk (C:Nat→Prop)(a:Option Addr)(l:KV)(W:World):Prop:= ∀i p,l[i]?=some p→ ∃b na nc,a=some ⟨b,0,none⟩∧ ¬C b∧
 W.cell? ⟨b,i * 2,none⟩=some (.string p.1)∧W.cell? ⟨b,i * 2+1,none⟩=some (.slice na p.2.length nc)∧p.2.length≤nc∧
 (p.2=[]∨ ∃g q,na=some ⟨g,q,none⟩∧C g∧ ∀j,j<p.2.length→ ∃v,W.cell? ⟨g,q+j,none⟩=some (.int .u8 v))
theorem VNewOk.kept0 {W W':World}(h:VNewOk C a l W)(hu:U0 W W'):VNewOk C a l W':=fun i x hx=>by
 obtain⟨b,na,nc,e,hb,h0,h1,h5,h6⟩:=h i x hx
 have kc: ∀{a:Addr} {v:Value},W.cell? a=some v→W'.cell? a=some v:=fun h=>Zo hu id h
 refine⟨b,na,nc,e,hb,kc h0,kc h1,h5,h6.imp_right ?_⟩
 rintro⟨g,p,e1,hg,hc⟩
 exact⟨g,p,e1,hg,fun j hj=>by obtain⟨v,hv⟩:=hc j hj;exact⟨v,kc hv⟩⟩
theorem VNewOk.put {W:World}{g p:Nat}{v v':Int}(h:VNewOk C a l W)(hg:C g)(hv:W.cell? ⟨g,p,none⟩=some (.int .u8 v)):VNewOk C a l (W.setCell ⟨g,p,none⟩ (.int .u8 v')):=fun i x hx=>by
 obtain⟨b,na,nc,e,hb,h0,h1,h5,h6⟩:=h i x hx
 have kc: ∀{o:Nat} {u:Value},W.cell? ⟨b,o,none⟩=some u→(W.setCell ⟨g,p,none⟩ (.int .u8 v')).cell? ⟨b,o,none⟩=some u:=fun h=>by
  rw[World.cell?_setCell_other W ⟨g,p,none⟩ ⟨b,_,none⟩ _ (fun e=>by injection e with e;exact hb (e ▸ hg))]
  exact h
 refine⟨b,na,nc,e,hb,kc h0,kc h1,h5,h6.imp_right ?_⟩
 rintro⟨g2,p2,e1,hg2,hc⟩
 refine⟨g2,p2,e1,hg2,fun j hj=>?_⟩
 obtain⟨u,hu⟩:=hc j hj
 by_cases e2:(⟨g,p,none⟩:Addr)=⟨g2,p2+j,none⟩
 ·rw[←e2]
  exact⟨v',World.cell?_setCell_same W ⟨g,p,none⟩ _ hv⟩
 ·exact⟨u,by rw[World.cell?_setCell_other W _ _ _ e2];exact hu⟩
theorem VNewOk.of (h:ValsAt w C a l)(hb: ∀b o,a=some ⟨b,o,none⟩→ ¬C b):VNewOk C a l w:=fun i x hx=>by
 obtain⟨g,v,e,h0,h1,h6⟩:=h i x hx
 obtain⟨na,nc,rfl,_⟩:=h6.slice
 refine⟨g,na,nc,e,hb g 0 e,h0,h1,?_,?_⟩
 ·obtain⟨a',c',e1,e2,_⟩:=h6.slice
  injection e1 with _ _ e3
  omega
 ·rcases h6 with ⟨_,e1⟩ | ⟨g,p,c',hg,e1,_,_,hc⟩
  ·exact .inl e1
  ·injection e1 with e1 _ _
   refine .inr ⟨g,p,e1,hg,fun j hj=>?_⟩
   refine⟨x.2[j],hc j _ ?_⟩
   simp[bcells,List.getElem?_eq_getElem hj]
structure PrAt (w:World) (pb d f r q m u:Nat) (ev area:Int) (l:KV) (X:Lg) (D:Dk) (b n:Nat) (C G F C' T G' F':Nat→Prop):Prop where
 pair:w.heap[pb]?=some (.cells #[.pointer (some ⟨d,0,none⟩),.pointer (some ⟨f,0,none⟩),.pointer (some ⟨r,0,none⟩),.pointer (some ⟨m,0,none⟩)] 204 (0,0))
 reg:RegMem w r q d ev b n C l area X D G F
 mod:ModAt w m u f (ev,l) area X D C' T G' F'
theorem PrAt.kept0 {w':World}{pb d f r q m u:Nat}{ev area:Int}{X:Lg}{D:Dk}{b n:Nat}{G F C' T G' F':Nat→Prop}(h:PrAt w pb d f r q m u ev area l X D b n C G F C' T G' F')(hu:U0 w w'):PrAt w' pb d f r q m u ev area l X D b n C G F C' T G' F':=
 ⟨kb hu h.pair,h.reg.kept0 hu,h.mod.kept0 hu⟩
theorem Zey {pb d f r q m u b n K:Nat}{ev area:Int}{X:Lg}{D:Dk}{G F C' T G' F':Nat→Prop}(w:World)(h:PrAt w pb d f r q m u ev area l X D b n C G F C' T G' F')(hok:D.Ok K)(hK:K≤1000000000)(ht:0≤X.h.turn∧X.h.turn<4294967296):
  Calls Tryz.prog 52 #[.pointer (some ⟨pb,0,none⟩)] w fun e w'=>e=.returned (.bool true)∧U0 w w':=by
 have b2:=V h;have k8:=V hok;have i0:=V ht;have a6:=V (show l.Fine from h.mod.fine)
 obtain⟨p0,p1,p2,p3⟩:=Zp h.pair
 obtain⟨ma,mc,i9,j3,l0⟩:=h.mod.cells
 have d0:=V i9;have b8:=V j3
 clear h hok ht i9 j3 l0
 go_enter Tryz.func52,Tryz.ntmps52
 go_wp2_with (go_at_call 30;fail)
 refine(Zkk w b2.o.reg.reg b2.o.reg.map a6.o).mono ?_
 rintro e w1 ⟨ta,tc,TC,rfl,t1,t2,t3,t4⟩
 obtain⟨w2,h7,b3,e3⟩:=nb w1 (.cells #[.int .u64 ev,.slice ta l.length tc] 62)
 obtain⟨tb,e9⟩: ∃tb,tb=w1.heap.size:=⟨_,rfl⟩
 have c8:=t1.none_or
 have d3:=fun k (e:(Value.slice ta l.length tc).ownBlock=some k)=>t1.block164 e
 have j8:=V (show∀g o,ta=some ⟨g,o,none⟩→ ¬TC g from fun g o e e2=>by
  obtain⟨ds,q1⟩:=d3 g (c8 g o e)
  obtain⟨l8,q2⟩:=t3 g e2
  rw[q1] at q2
  injection q2 with q2
  injection q2 with _ q2
  exact absurd q2 (by decide))
 have g4:=V (b2.o.kept0 (t4.trans b3));have i8:=V (t1.valsAt.kept0 b3);have d6:=V (show∀k,TC k→w.heap.size≤k∧k<w1.heap.size from fun k hk=>⟨t2 k hk,t3.lt k hk⟩);have k5:=V (t3.kept b3 n3Z);have f5:=V (t4.trans b3)
 have g2:=V t4.size
 rw[←e9] at e3 d6
 have i3:=V e3
 have a8:=V g4.o.reg;have h4:=V g4.o.mod;have a5:=V g4.o.pair
 have d8:=V (kb f5.o d0.o);have l1:=V (b8.o.kept0 f5.o)
 have i1:=V h7;have c7:=V e9
 clear t1 t2 t3 t4 b3 e3 c8 d3 h7 e9 p0 p1 p2 p3
 simp only[]
 go_upto_region 2 with fail
 rw[←i1.o,←c7.o]
 clear i1
 go_cut [97] from 16 to 98 (fun v wx=>v=.bool false∧U0 w2 wx)
 case first=>
  have hA:U0 w2 w2.drew:=(Upd.refl _ _).drew
  as_aux_lemma=>
   refine Zj 81 (fun W=>U0 w2 W) [false,false,false,false,false,false,false,false,false,false,false,false,false,false,false,false,false,false,false,false,false,false,false,false,false,false,false,false,false,false,false,false,false,false,false,false,false,false,false,false,false,false,false,false,false,false,false,false,false,false,false,false,false,false,false,false,false,false,false,false,false,false,false,false,false,false,false,false,false,false,false,false,false,false,false,false,false,false,false,false,false,false] rfl (by kernel_rfl) ?_
   generalize w2.drew=wd at hA ⊢
   refine tpZ 0 (.bool true) hA ?_
   simp only[zz]
   refine tpZ 1 (.bool false) hA ?_
   simp only[zz]
   refine tpZ 2 (.bool false) hA ?_
   simp only[zz]
   refine tqZ 3 (.agg #[.int .u64 ev,.slice ta l.length tc]) [70,69,53,52,45,44,29,28,14,11] hA (fun w5 q1=>?_) ?_
   ·obtain⟨c0,c1⟩:=Zg (kb q1 i3.o)
    go_simp
   simp only[zz]
   refine tpZ 4 (.pointer (some ⟨pb,0,none⟩)) hA ?_
   simp only[zz]
   refine tpZ 5 (.pointer (some ⟨pb,0,none⟩)) hA ?_
   simp only[zz]
   refine tpZ 6 (.pointer (some ⟨pb,3,none⟩)) hA ?_
   simp only[zz]
   refine tqZ 7 (.pointer (some ⟨m,0,none⟩)) [70,69,53,52,45,44,29,28,14,11,10,9,8] hA (fun w5 q1=>?_) ?_
   ·obtain⟨c0,c1,c2,c3⟩:=Zp (kb q1 a5.o)
    go_simp
   simp only[zz]
   refine tpZ 8 (.pointer (some ⟨m,0,none⟩)) hA ?_
   simp only[zz]
   refine tpZ 9 (.pointer (some ⟨m,1,none⟩)) hA ?_
   simp only[zz]
   refine tqZ 10 (.agg #[.int .u64 ev,.slice ma l.length mc]) [70,69,53,52,45,44,29,28,14,11] hA (fun w5 q1=>?_) ?_
   ·obtain⟨c0,c1,c2,c3⟩:=Zp (kb q1 d8.o)
    go_simp
   simp only[zz]
   refine diZ 11 (fun K HKK=>?_)
   go_step
   refine(Zks (e1:=ev) (e2:=ev) (c:=tc) (d:=mc) wd (i8.o.kept0 hA) (l1.o.kept0 hA) (by have:=a6.o.len;omega) (fun p hp=>(a6.o.each p hp).2.2.2) (fun p hp=>(a6.o.each p hp).2.2.2)).mono ?_
   rintro e a7 ⟨rfl,c5⟩
   have a0:=hA.trans c5
   have b6:decide (ev=ev∧l=l)=true:=by simp
   rw[b6]
   clear c5 b6
   simp only[]
   refine HKK.o _ _ a0 ?_
   clear HKK
   simp only[zz]
   refine tpZ 12 (.bool false) a0 ?_
   simp only[zz]
   refine tpZ 13 (.bool false) a0 ?_
   simp only[zz]
   refine tpZ 14 (.bool false) a0 ?_
   simp only[zz]
   refine tpZ 15 (.pointer (some ⟨pb,0,none⟩)) a0 ?_
   simp only[zz]
   refine tpZ 16 (.pointer (some ⟨pb,0,none⟩)) a0 ?_
   simp only[zz]
   refine tpZ 17 (.pointer (some ⟨pb,2,none⟩)) a0 ?_
   simp only[zz]
   refine tqZ 18 (.pointer (some ⟨r,0,none⟩)) [70,69,53,52,45,44,29,19] a0 (fun w5 q1=>?_) ?_
   ·obtain⟨c0,c1,c2,c3⟩:=Zp (kb q1 a5.o)
    go_simp
   simp only[zz]
   refine tpZ 20 (.pointer (some ⟨pb,0,none⟩)) a0 ?_
   simp only[zz]
   refine tpZ 21 (.pointer (some ⟨pb,0,none⟩)) a0 ?_
   simp only[zz]
   refine tpZ 22 (.pointer (some ⟨pb,3,none⟩)) a0 ?_
   simp only[zz]
   refine tqZ 23 (.pointer (some ⟨m,0,none⟩)) [70,69,53,52,45,44,29,28,27,26,25,24] a0 (fun w5 q1=>?_) ?_
   ·obtain⟨c0,c1,c2,c3⟩:=Zp (kb q1 a5.o)
    go_simp
   simp only[zz]
   refine tpZ 24 (.pointer (some ⟨m,0,none⟩)) a0 ?_
   simp only[zz]
   refine tpZ 25 (.pointer (some ⟨m,3,none⟩)) a0 ?_
   simp only[zz]
   refine tqZ 26 (.int .i64 area) [70,69,53,52,45,44,29,28,27] a0 (fun w5 q1=>?_) ?_
   ·obtain⟨c0,c1,c2,c3⟩:=Zp (kb q1 d8.o)
    go_simp
   simp only[zz]
   refine diZ 19 (fun K HKK=>?_)
   go_step
   refine(Zlx a7 (a8.o.kept0 a0).reg).mono ?_
   rintro e wk ⟨rfl,a3⟩
   subst a3
   simp only[]
   refine HKK.o _ _ a0 ?_
   clear HKK
   simp only[zz]
   refine tpZ 27 (.bool false) a0 ?_
   simp only[zz]
   refine tpZ 28 (.bool false) a0 ?_
   simp only[zz]
   refine tpZ 29 (.bool false) a0 ?_
   simp only[zz]
   refine tpZ 30 (.pointer (some ⟨pb,0,none⟩)) a0 ?_
   simp only[zz]
   refine tpZ 31 (.pointer (some ⟨pb,0,none⟩)) a0 ?_
   simp only[zz]
   refine tpZ 32 (.pointer (some ⟨pb,2,none⟩)) a0 ?_
   simp only[zz]
   refine tqZ 33 (.pointer (some ⟨r,0,none⟩)) [70,69,53,52,45,42,34] a0 (fun w5 q1=>?_) ?_
   ·obtain⟨c0,c1,c2,c3⟩:=Zp (kb q1 a5.o)
    go_simp
   simp only[zz]
   refine tpZ 35 (.pointer (some ⟨pb,0,none⟩)) a0 ?_
   simp only[zz]
   refine tpZ 36 (.pointer (some ⟨pb,0,none⟩)) a0 ?_
   simp only[zz]
   refine tpZ 37 (.pointer (some ⟨pb,3,none⟩)) a0 ?_
   simp only[zz]
   refine tqZ 38 (.pointer (some ⟨m,0,none⟩)) [70,69,53,52,45,42,41,40,39] a0 (fun w5 q1=>?_) ?_
   ·obtain⟨c0,c1,c2,c3⟩:=Zp (kb q1 a5.o)
    go_simp
   simp only[zz]
   refine tpZ 39 (.pointer (some ⟨m,0,none⟩)) a0 ?_
   simp only[zz]
   refine tpZ 40 (.pointer (some ⟨m,0,none⟩)) a0 ?_
   simp only[zz]
   refine tqZ 41 (.pointer (some ⟨u,0,none⟩)) [70,69,53,52,45,42] a0 (fun w5 q1=>?_) ?_
   ·obtain⟨c0,c1,c2,c3⟩:=Zp (kb q1 d8.o)
    go_simp
   simp only[zz]
   refine diZ 34 (fun K HKK=>?_)
   go_step
   refine(Zh9 a7 (a8.o.kept0 a0).reg (a8.o.kept0 a0).wal.1).mono ?_
   rintro e wk ⟨rfl,a3⟩
   subst a3
   simp only[]
   refine HKK.o _ _ a0 ?_
   clear HKK
   simp only[zz]
   refine diZ 42 (fun K HKK=>?_)
   go_step
   refine(Zdu a7 (h4.o.kept0 a0).log).mono ?_
   rintro e wk ⟨rfl,a3⟩
   subst a3
   simp only[]
   refine HKK.o _ _ a0 ?_
   clear HKK
   simp only[zz]
   refine tpZ 43 (.bool false) a0 ?_
   simp only[zz]
   refine tpZ 44 (.bool false) a0 ?_
   simp only[zz]
   refine tpZ 45 (.bool false) a0 ?_
   simp only[zz]
   refine tpZ 46 (.pointer (some ⟨pb,0,none⟩)) a0 ?_
   simp only[zz]
   refine tpZ 47 (.pointer (some ⟨pb,0,none⟩)) a0 ?_
   simp only[zz]
   refine tpZ 48 (.pointer (some ⟨pb,2,none⟩)) a0 ?_
   simp only[zz]
   refine tqZ 49 (.pointer (some ⟨r,0,none⟩)) [70,69,53,50] a0 (fun w5 q1=>?_) ?_
   ·obtain⟨c0,c1,c2,c3⟩:=Zp (kb q1 a5.o)
    go_simp
   simp only[zz]
   refine diZ 50 (fun K HKK=>?_)
   go_step
   refine(Zku a7 (a8.o.kept0 a0).reg).mono ?_
   rintro e wk ⟨rfl,a3⟩
   subst a3
   simp only[]
   refine HKK.o _ _ a0 ?_
   clear HKK
   simp only[zz]
   refine tpZ 51 (.bool false) a0 ?_
   simp only[zz]
   refine tpZ 52 (.bool false) a0 ?_
   simp only[zz]
   refine tpZ 53 (.bool false) a0 ?_
   simp only[zz]
   refine tpZ 54 (.pointer (some ⟨pb,0,none⟩)) a0 ?_
   simp only[zz]
   refine tpZ 55 (.pointer (some ⟨pb,0,none⟩)) a0 ?_
   simp only[zz]
   refine tpZ 56 (.pointer (some ⟨pb,2,none⟩)) a0 ?_
   simp only[zz]
   refine tqZ 57 (.pointer (some ⟨r,0,none⟩)) [70,67,59,58] a0 (fun w5 q1=>?_) ?_
   ·obtain⟨c0,c1,c2,c3⟩:=Zp (kb q1 a5.o)
    go_simp
   simp only[zz]
   refine tpZ 60 (.pointer (some ⟨pb,0,none⟩)) a0 ?_
   simp only[zz]
   refine tpZ 61 (.pointer (some ⟨pb,0,none⟩)) a0 ?_
   simp only[zz]
   refine tpZ 62 (.pointer (some ⟨pb,3,none⟩)) a0 ?_
   simp only[zz]
   refine tqZ 63 (.pointer (some ⟨m,0,none⟩)) [70,67,66,65,64] a0 (fun w5 q1=>?_) ?_
   ·obtain⟨c0,c1,c2,c3⟩:=Zp (kb q1 a5.o)
    go_simp
   simp only[zz]
   refine tpZ 64 (.pointer (some ⟨m,0,none⟩)) a0 ?_
   simp only[zz]
   refine tpZ 65 (.pointer (some ⟨m,0,none⟩)) a0 ?_
   simp only[zz]
   refine tqZ 66 (.pointer (some ⟨u,0,none⟩)) [70,67] a0 (fun w5 q1=>?_) ?_
   ·obtain⟨c0,c1,c2,c3⟩:=Zp (kb q1 d8.o)
    go_simp
   simp only[zz]
   refine diZ 58 (fun K HKK=>?_)
   go_step
   refine(Zku a7 (a8.o.kept0 a0).reg).mono ?_
   rintro e wk ⟨rfl,a3⟩
   subst a3
   simp only[]
   refine HKK.o _ _ a0 ?_
   clear HKK
   simp only[zz]
   refine diZ 59 (fun K HKK=>?_)
   go_step
   refine(Zix a7 (a8.o.kept0 a0).wal.1 i0.o).mono ?_
   rintro e wk ⟨rfl,a3⟩
   subst a3
   simp only[]
   refine HKK.o _ _ a0 ?_
   clear HKK
   simp only[zz]
   refine diZ 67 (fun K HKK=>?_)
   go_step
   refine(Zix a7 (h4.o.kept0 a0).log i0.o).mono ?_
   rintro e wk ⟨rfl,a3⟩
   subst a3
   simp only[]
   refine HKK.o _ _ a0 ?_
   clear HKK
   simp only[zz]
   refine tpZ 68 (.bool false) a0 ?_
   simp only[zz]
   refine tpZ 69 (.bool false) a0 ?_
   simp only[zz]
   refine tpZ 70 (.bool false) a0 ?_
   simp only[zz]
   refine tpZ 71 (.pointer (some ⟨pb,0,none⟩)) a0 ?_
   simp only[zz]
   refine tpZ 72 (.pointer (some ⟨pb,0,none⟩)) a0 ?_
   simp only[zz]
   refine tpZ 73 (.pointer (some ⟨pb,0,none⟩)) a0 ?_
   simp only[zz]
   refine tqZ 74 (.pointer (some ⟨d,0,none⟩)) [80,79] a0 (fun w5 q1=>?_) ?_
   ·obtain⟨c0,c1,c2,c3⟩:=Zp (kb q1 a5.o)
    go_simp
   simp only[zz]
   refine tpZ 75 (.pointer (some ⟨pb,0,none⟩)) a0 ?_
   simp only[zz]
   refine tpZ 76 (.pointer (some ⟨pb,0,none⟩)) a0 ?_
   simp only[zz]
   refine tpZ 77 (.pointer (some ⟨pb,1,none⟩)) a0 ?_
   simp only[zz]
   refine tqZ 78 (.pointer (some ⟨f,0,none⟩)) [80,79] a0 (fun w5 q1=>?_) ?_
   ·obtain⟨c0,c1,c2,c3⟩:=Zp (kb q1 a5.o)
    go_simp
   simp only[zz]
   refine diZ 79 (fun K HKK=>?_)
   go_step
   refine(Zex a7 (a8.o.kept0 a0).wal.2.1 (h4.o.kept0 a0).disk k8.o hK).mono ?_
   rintro e m1 ⟨rfl,j4⟩
   have e6:=a0.trans j4
   clear j4
   simp only[]
   refine HKK.o _ _ e6 ?_
   clear HKK
   simp only[zz]
   refine tpZ 80 (.bool false) e6 ?_
   simp only[zz]
   refine tlZ 81 ?_
   simp only[List.append_eq,List.cons_append,List.nil_append,List.drop]
   go_wp2
   go_meet
   case rel=>exact⟨rfl,e6⟩
 case rest=>
  obtain⟨rfl,b7⟩:=hcut
  have k7:=V b7
  have f2:=kb b7 i3.o
  obtain⟨x0,x1⟩:=Zg f2
  have k6:=V ((VNewOk.of i8.o j8.o).kept0 b7);have f4:=V (k5.o.kept b7 n3Z);have b1:=V f2
  obtain⟨w3,rfl⟩: ∃w3:World,w3=wc:=⟨_,rfl⟩
  clear b7 f2
  go_upto_block 0 with fail
  clear x0 x1
  go_upto_region 5 with fail
  obtain⟨nz,e0⟩: ∃nz,nz=l.length:=⟨_,rfl⟩
  rw[←e0]
  have f8:=V e0
  have g3:=V (show nz≤48 by rw[e0];exact a6.o.len)
  clear e0
  go_loopg [101] nz (fun gk i wr=> ∃k:Nat,k≤nz∧gk=nz - k∧i=.int .i64 k∧VNewOk TC ta l wr∧RowC wr TC∧Upd TC w3 wr)
  case atStart=>exact⟨0,Nat.zero_le _,rfl,rfl,k6.o,f4.o,Upd.refl _ _⟩
  case round=>
   obtain⟨k4,m3,rfl,rfl,j0,j1,i7⟩:=hrel
   have i4:=V j0;have k2:=V j1;have d7:=V i7
   clear j0 j1 i7
   by_cases m2:k4<nz
   ·have l4:(k4:Int)<nz:=by omega
    obtain⟨x,hx⟩: ∃x,l[k4]?=some x:=⟨_,List.getElem?_eq_getElem (by have:=f8.o;omega)⟩
    obtain⟨b4,na,nc,rfl,l3,c0,c1,a9,c9⟩:=i4.o k4 x hx
    have b9:=V c9;have HX:=V hx;have m0:=V a9
    have i6:=V (show x.2.length≤3000 from(a6.o.each x (List.mem_of_getElem? hx)).2.2.1)
    clear l3 c9 hx a9
    go_upto_region 7 with fail
    obtain⟨l7,d4,a4,a2⟩:=nb wr (.cells #[.string x.1,.slice na x.2.length nc] 164)
    rw[←d4]
    have h5: ∀k,TC k→k≠wr.heap.size:=fun k hk e=>by have h1:=(d6.o k hk).2;have h2:=Za b1.o;have h3:=d7.o.size;omega
    obtain⟨nl,a9⟩: ∃nl,nl=x.2.length:=⟨_,rfl⟩
    rw[←a9] at a2
    have d1:CurOk TC na nl wr:=by
     rcases b9.o with e | ⟨g,p,e1,hg,hc⟩
     ·exact .inl (by rw[a9,e];rfl)
     ·exact .inr ⟨g,p,e1,hg,fun j hj=>hc j (by omega)⟩
    have c6:nl≤3000:=by rw[a9];exact i6.o
    generalize wr.heap.size=t20 at a2 h5 ⊢
    have b5:=V a2;have l5:=V h5;have f3:=V (d1.kept0 a4);have g5:=V (i4.o.kept0 a4);have g0:=V (k2.o.kept a4 n3Z);have e7:=V (d7.o.trans (a4.mono (F:=fun _=>False) (fun _ _ e=>e.elim)))
    obtain⟨x0,x1⟩:=Zg a2
    have g9:=V c6
    clear d4 a4 a2 h5 d1 c6 c0 c1 b9 i6 a9
    go_upto_block 2 with fail
    clear x0 x1
    go_upto_region 8 with fail
    go_loopg [108] nl (fun gk i wr=> ∃j:Nat,j≤nl∧gk=nl - j∧i=.int .i64 j∧VNewOk TC (some ⟨b4,0,none⟩) l wr∧RowC wr TC∧CurOk TC na nl wr∧Upd TC l7 wr)
    case atStart=>exact⟨0,Nat.zero_le _,rfl,rfl,g5.o,g0.o,f3.o,Upd.refl _ _⟩
    case round=>
     obtain⟨j,hj,rfl,rfl,j5,j2,d5,h9⟩:=hrel
     have h8:=V j5;have g1:=V j2;have j7:=V d5;have e8:=V h9
     clear j5 j2 h9
     by_cases k0:j<nl
     ·have k3:(j:Int)<nl:=by omega
      obtain⟨g,p,rfl,hg,hc⟩: ∃g p,na=some ⟨g,p,none⟩∧TC g∧ ∀j,j<nl→ ∃v,wr.cell? ⟨g,p+j,none⟩=some (.int .u8 v):=by
       rcases d5 with e | h
       ·omega
       ·exact h
      obtain⟨v,hv⟩:=hc j k0
      obtain⟨gs,i5⟩:=g1.o g hg
      have hf:wr.frozen? ⟨g,p+j,none⟩=false:=Zb i5
      have a2:=(e8.o.block _ (Za b5.o) (fun e=>l5.o _ e rfl)).trans b5.o
      obtain⟨x0,x1⟩:=Zg a2
      have k9:IntKind.i64.wrap ((j:Int)+1)=(j:Int)+1:=by rw[IntKind.wrap_i64];have:=g9.o;omega
      have HG:=V hg;have HV:=V hv
      clear hc i5 a2 hg d5
      go_wp2
      go_roundg (nl - (j+1))
      case measure=>omega
      case rel=>exact⟨j+1,by omega,rfl,congrArg _ (by omega),h8.o.put HG.o HV.o,g1.o.put,j7.o.put HV.o,e8.o.trans ((Zd wr g (p+j) _).mono (F:=fun k=>k=g) (fun _ _ e=>e ▸ HG.o))⟩
     ·obtain rfl:j=nl:=by omega
      have l6:IntKind.i64.wrap ((k4:Int)+1)=(k4:Int)+1:=by rw[IntKind.wrap_i64];have:=g3.o;omega
      clear d5
      go_wp2
      go_roundg (nz - (k4+1))
      case measure=>omega
      case rel=>exact⟨k4+1,by omega,rfl,congrArg _ (by omega),h8.o,g1.o,e7.o.trans e8.o⟩
   ·obtain rfl:k4=nz:=by omega
    have i2:=V (show U0 w wr from(f5.o.trans k7.o).step d7.o (fun k hk e=>by have:=(d6.o k e).1;omega))
    have b0:=V (b2.o.kept0 i2.o)
    have a1:=(d7.o.block tb (Za b1.o) (fun e=>by have:=(d6.o tb e).2;omega)).trans b1.o
    have g8:=V a1
    obtain⟨p0,p1,p2,p3⟩:=Zp b0.o.pair
    clear a1
    go_wp2_with (go_at_call 30;fail)
    refine(Zkk wr b0.o.reg.reg b0.o.reg.map a6.o).mono ?_
    rintro e w5 ⟨d9,d2,l9,rfl,t1,t2,t3,t4⟩
    rw[←f8.o]
    have a1:=kb t4 g8.o
    have f0:w5.frozen? ⟨tb,0,none⟩=false:=Zb a1
    have f1:w5.frozen? ⟨tb,1,none⟩=false:=Zb a1
    obtain⟨x0,x1⟩:=Zg a1
    have c8:=t1.none_or
    have d3:=fun k (e:(Value.slice d9 l.length d2).ownBlock=some k)=>t1.block164 e
    have l2:=V t1.valsAt;have f6:=V a1;have j9:=V (fun g o e=>d3 g (c8 g o e));have e5:=V t3;have h6:=V (i2.o.trans t4)
    clear t1 t2 t3 t4 c8 d3 a1 p0 p1 p2 p3
    simp only[]
    go_upto_region 14 with fail
    obtain⟨w6,e4⟩: ∃w6,w6=(w5.setCell ⟨tb,0,none⟩ (.int .u64 ev)).setCell ⟨tb,1,none⟩ (.slice d9 k4 d2):=⟨_,rfl⟩
    rw[←e4]
    obtain⟨p1,p2⟩:=put2 (u:=.int .u64 ev) (v:=.slice d9 k4 d2) f6.o
    rw[←e4] at p1 p2
    rw[f8.o] at p1
    have f9:w.heap.size≤tb:=by rw[c7.o];exact g2.o
    have c4:U0 w w6:=h6.o.step p2 (fun k hk e=>by omega)
    have k1:=V (l2.o.kept p2 (fun g o e=>by
     obtain⟨ds,q⟩:=j9.o g o e
     exact Zs q f6.o (by decide)) (fun k hk=>by
     obtain⟨ds,q⟩:=e5.o k hk
     exact Zs q f6.o (by decide)))
    have f7:=V p1;have j6:=V c4
    have h0:=V (b2.o.kept0 c4).pair;have g6:=V (kb c4 d0.o);have g7:=V (b8.o.kept0 c4)
    clear e4 p1 p2 c4 f9 f0 f1 x0 x1
    have hA:U0 w6 w6.drew:=(Upd.refl _ _).drew
    refine Zj 12 (fun W=>U0 w6 W) [false,false,false,false,false,false,false,false,false,false,false,false,false] rfl (by kernel_rfl) ?_
    generalize w6.drew=wd at hA ⊢
    refine tpZ 0 (.bool true) hA ?_
    simp only[zz]
    refine tpZ 1 (.bool true) hA ?_
    simp only[zz]
    refine tqZ 2 (.agg #[.int .u64 ev,.slice d9 l.length d2]) [] hA (fun w5 q1=>?_) ?_
    ·obtain⟨c0,c1⟩:=Zg (kb q1 f7.o)
     go_simp
    simp only[zz]
    refine tpZ 3 (.pointer (some ⟨pb,0,none⟩)) hA ?_
    simp only[zz]
    refine tpZ 4 (.pointer (some ⟨pb,0,none⟩)) hA ?_
    simp only[zz]
    refine tpZ 5 (.pointer (some ⟨pb,3,none⟩)) hA ?_
    simp only[zz]
    refine tqZ 6 (.pointer (some ⟨m,0,none⟩)) [] hA (fun w5 q1=>?_) ?_
    ·obtain⟨c0,c1,c2,c3⟩:=Zp (kb q1 h0.o)
     go_simp
    simp only[zz]
    refine tpZ 7 (.pointer (some ⟨m,0,none⟩)) hA ?_
    simp only[zz]
    refine tpZ 8 (.pointer (some ⟨m,1,none⟩)) hA ?_
    simp only[zz]
    refine tqZ 9 (.agg #[.int .u64 ev,.slice ma l.length mc]) [] hA (fun w5 q1=>?_) ?_
    ·obtain⟨c0,c1,c2,c3⟩:=Zp (kb q1 g6.o)
     go_simp
    simp only[zz]
    refine diZ 10 (fun K HKK=>?_)
    go_step
    refine(Zks (e1:=ev) (e2:=ev) (c:=d2) (d:=mc) wd (k1.o.kept0 hA) (g7.o.kept0 hA) (by have:=a6.o.len;omega) (fun p hp=>(a6.o.each p hp).2.2.2) (fun p hp=>(a6.o.each p hp).2.2.2)).mono ?_
    rintro e a7 ⟨rfl,c5⟩
    have a0:=hA.trans c5
    have b6:decide (ev=ev∧l=l)=true:=by simp
    rw[b6]
    clear c5 b6
    simp only[]
    refine HKK.o _ _ a0 ?_
    clear HKK
    simp only[zz]
    refine tpZ 11 (.bool true) a0 ?_
    simp only[zz]
    refine tlZ 12 ?_
    simp only[List.drop]
    go_wp2
    go_ret
    exact⟨rfl,j6.o.trans a0⟩
end
end Go.Proofs.YtbimkhdiplnbfaaGreat
