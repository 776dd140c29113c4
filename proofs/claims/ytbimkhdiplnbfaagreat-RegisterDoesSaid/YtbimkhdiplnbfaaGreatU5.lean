/- Walks. -/
import Derived.Test.YtbimkhdiplnbfaaGreatU4
import Derived.Deep.LoopGhost
import Derived.Deep.OwnRows
import Derived.Deep.Cut
import Derived.Maps.Own
import Derived.Lib.SliceRun
set_option linter.unusedVariables false
set_option linter.unusedSimpArgs false
namespace Go.Proofs.YtbimkhdiplnbfaaGreat
set_option maxRecDepth 1000000
set_option maxHeartbeats 16000000
variable {a:Act} {D:Dk} {lost:Int→Bool} {xs:List Value} {K cap i k m n p s:Nat} {c c' g g':Nat→Nat} {F:Nat→Prop} {e:TypeId} {v:Value} {W w w' wo:World}
section
open Go.RowKit Go.Deep
theorem Yv {P:Program}{ops:Array Oper}{rest:List Oper}{o:Oper}{Q:Exit→Act→World→Prop}(hg:o.guard=none)(h:(execOp a.eval o).run P w=.ok (.value v) w')
  (hK:wpList P ops Q rest (a.put o.dst v) w'):wpList P ops Q (o :: rest) a w:=
 wpList_plain hg fun _ hk=>Zf3 h (hk _ _ hK)
def Dk.new (n:Nat):Dk:=⟨List.replicate n zblk,[],0,0,-1,-1,false⟩
theorem Tryz.info125:(Tryz.prog.info? 125).map (fun i=>(i.zero,i.size,i.bytes))=some (some (.slice none 0 0),1,24):=by kernel_rfl
structure NewAt (w wr:World) (n k:Nat):Prop where
 upd:U0 w wr
 size:wr.heap.size=w.heap.size+2+k
 main:wr.heap[w.heap.size+1]?=some (mainObj w.heap.size n 0 0 (-1) (-1) false)
 sec:wr.heap[w.heap.size]?=some (.cells ((List.range n).map fun i=>if i<k then Value.slice (some ⟨w.heap.size+2+i,0,none⟩) 1 1 else .slice none 0 0).toArray 125 (0,0))
 rows: ∀i,i<k→wr.heap[w.heap.size+2+i]?=some (.cells Z130 124 (0,0))
theorem NewAt.start (w:World)(n:Nat):NewAt w ((w.alloc (.cells (madeCells #[.slice none 0 0] n) 125)).alloc (mainObj w.heap.size n 0 0 (-1) (-1) false)) n 0:=by
 refine⟨((Upd.refl _ w).alloc _).alloc _,by simp,Zc (by simp),?_,fun i hi=>by omega⟩
 rw[Zm (by simp),Zc rfl]
 congr 2
 apply Array.toList_inj.1
 rw[toList_madeCells_one]
 simp[List.map_const']
theorem NewAt.step {wr:World}(h:NewAt w wr n k):
  NewAt w ((wr.alloc (.cells Z130 124)).setCell ⟨w.heap.size,k,none⟩ (.slice (some ⟨w.heap.size+2+k,0,none⟩) 1 1)) n (k+1):=by
 have hs:=h.size
 refine⟨(h.upd.alloc _).setCell (p:=⟨w.heap.size,k,none⟩) (.inr (Nat.le_refl _)) _,by simp[World.setCell,hs];omega,?_,?_,fun i hi=>?_⟩
 ·rw[Yd (by simp),Zm (by omega)];exact h.main
 ·have h1:(wr.alloc (.cells Z130 124)).heap[w.heap.size]?=_:=(Zm (by omega)).trans h.sec
  rw[Ze h1]
  congr 2
  apply Array.toList_inj.1
  apply List.ext_getElem
  ·simp
  ·intro j h1 h2
   simp only[Array.toList_setIfInBounds,List.getElem_set,List.getElem_map,List.getElem_range]
   by_cases e:k=j
   ·subst e;simp
   ·rw[if_neg e]
    by_cases hj:j<k
    ·rw[if_pos hj,if_pos (by omega)]
    ·rw[if_neg hj,if_neg (by omega)]
 ·rw[Yd (by simp;omega)]
  by_cases a0:i=k
  ·subst a0;exact Zc hs.symm
  ·rw[Zm (by omega)];exact h.rows i (by omega)
theorem Zrm (n:Nat)(w:World)(hn:1≤n∧n≤2048):
  Calls Tryz.prog 13 #[.int .i64 n] w fun e w'=>e=.returned (.tuple #[.pointer (some ⟨w.heap.size+1,0,none⟩),.int .i64 0])∧NewAt w w' n n:=by
 have a1:=run_make_row' (P:=Tryz.prog) 120 125 (.slice none 0 0) 24 Tryz.underlying120 Tryz.info125 rfl .i64 .i64 n (by omega) (by omega)
 obtain⟨a4,a5⟩:=hn
 have a3: ¬((n:Int)<1):=by omega
 go_enter Tryz.func13,Tryz.ntmps13
 go_wp2
 clear a1
 go_loopg [21] n (fun g i wr=> ∃k:Nat,k≤n∧g=n - k∧i=.int .i64 k∧NewAt w wr n k)
 case atStart=>exact⟨0,Nat.zero_le _,rfl,rfl,NewAt.start w n⟩
 case round=>
  obtain⟨k,hk,rfl,rfl,hN⟩:=hrel
  have hs:=hN.size
  have hm:=hN.main
  have c0:=(Z0 hm).1
  have a6:k<n→ ∀o,(wr.alloc o).cell? ⟨w.heap.size,k,none⟩=some (.slice none 0 0):=fun h o=>by
   rw[Zr ((Zm (by omega)).trans hN.sec)];simp[h]
  have a7: ∀o,(wr.alloc o).frozen? ⟨w.heap.size,k,none⟩=false:=fun o=>Zb ((Zm (by omega)).trans hN.sec)
  have HN:=V hN
  clear hN hm
  go_upto_region 7 with fail
  ·have a2:k<n:=by assumption
   iterate 16 go_step
   refine Yv rfl (Zau (Zgc _) rfl (by simp)) ?_
   refine Yv rfl (Yq (Zap Z130.toList _ (by simp[Z130_size])) rfl (by simp[Act.eval,Act.put])) ?_
   go_wp2
   go_roundg (n - (k+1))
   case measure=>omega
   case rel=>exact⟨k+1,by omega,rfl,rfl,HN.o.step⟩
  ·have a0:k=n:=by omega
   subst a0
   go_returns
   exact⟨rfl,HN.o⟩
theorem NewAt.dsk (h:NewAt w w' n n)(hn:1≤n∧n≤2048): ∃F,Dsk w' (w.heap.size+1) (Dk.new n) F∧(∀k,F k→w.heap.size≤k)∧U0 w w':=by
 have hv: ∀i,i<n→(Dk.new n).vers i=[(zblk,0)]:=fun i hi=>by simp[Dk.vers,Dk.new,hi]
 have hl:(Dk.new n).arr.length=n:=by simp[Dk.new]
 refine⟨_,⟨w.heap.size,fun i=>w.heap.size+2+i,fun _=>1,⟨?_,?_,?_,by omega,?_,?_,?_⟩,fun _=>Iff.rfl⟩,?_,h.upd⟩
 ·rw[hl];exact h.main
 ·rw[h.sec,hl]
  congr 3
  apply List.ext_getElem
  ·simp
  ·intro j h1 h2
   have hj:j<n:=by simpa using h1
   simp[hj,hv j hj]
 ·intro i hi
  rw[hl] at hi
  rw[hv i hi]
  refine⟨by simp[vcells,zblk],.inr ⟨_,_,Z130,rfl,Nat.zero_le _,h.rows i hi,by simp,by decide,by simp[Z130_size],?_⟩⟩
  simp[vcells,zblk,Z130]
 ·intro i hi;omega
 ·intro i hi;omega
 ·intro i j _ _ e
  have e':w.heap.size+2+i=w.heap.size+2+j:=e
  omega
 ·rintro k (rfl | rfl | ⟨i,_,rfl⟩)
  ·omega
  ·exact Nat.le_refl _
  ·show w.heap.size≤w.heap.size+2+i;omega
theorem Dk.new_ok (hn:1≤n∧n≤2048)(K:Nat):(Dk.new n).Ok K:=by
 refine⟨by simpa [Dk.new] using hn,?_,by simp[Dk.new],by simp[Dk.new],by simp[Dk.new],by simp[Dk.new],by simp[Dk.new],by simp[Dk.new],by simp[Dk.new]⟩
 intro b hb
 have:b=zblk:=by simp[Dk.new] at hb;exact hb.2
 rw[this];exact Zbo
end
section
open Go.RowKit
def Dk.count (D:Dk)(lost:Int→Bool)(i:Nat):Nat:=((D.vers i).tail.takeWhile (fun v=>!lost v.2)).length
def Dk.kept (D:Dk)(lost:Int→Bool)(i:Nat):List Int:=((D.vers i).getD (D.count lost i) (zblk,0)).1
def Dk.settled (D:Dk)(lost:Int→Bool)(k:Nat):Dk:=
 {D with arr:=(List.range D.arr.length).map (fun i=>if i<k then D.kept lost i else D.arr.getD i []),row:=D.row.filter (fun x=>decide (k≤x.1))}
theorem Zat (D:Dk)(lost:Int→Bool)(k:Nat):(D.settled lost k).arr.length=D.arr.length:=by simp[Dk.settled]
theorem Y5 (D:Dk)(lost:Int→Bool)(hi:i<D.arr.length)(h:i<k):(D.settled lost k).vers i=[(D.kept lost i,0)]:=by
 have e:(D.row.filter (fun x=>decide (k≤x.1))).filter (fun x=>x.1 == i)=[]:=by
  rw[List.filter_filter,List.filter_eq_nil_iff]
  intro x _
  simp;omega
 simp only[Dk.vers,Dk.settled,e]
 simp[List.getD_eq_getElem?_getD,hi,h]
theorem Yn (D:Dk)(lost:Int→Bool)(hi:i<D.arr.length)(h:k≤i):(D.settled lost k).vers i=D.vers i:=by
 have e:(D.row.filter (fun x=>decide (k≤x.1))).filter (fun x=>x.1 == i)=D.row.filter (fun x=>x.1 == i):=by
  rw[List.filter_filter]
  refine List.filter_congr (fun x _=>?_)
  by_cases hx:x.1=i
  ·simp[hx,h]
  ·simp[hx]
 have hk: ¬i<k:=by omega
 simp only[Dk.vers,Dk.settled,e]
 simp[List.getD_eq_getElem?_getD,hi,hk]
theorem Zkp (D:Dk)(lost:Int→Bool):D.settled lost 0=D:=by
 have e1:(List.range D.arr.length).map (fun i=>if i<0 then D.kept lost i else D.arr.getD i [])=D.arr:=by
  apply List.ext_getElem
  ·simp
  ·intro j h1 h2;simp[h2]
 have e2:D.row.filter (fun x=>decide (0≤x.1))=D.row:=by simp
 unfold Dk.settled
 rw[e1,e2]
def Dk.arrive (D:Dk)(lost:Int→Bool):Dk:={D with arr:=(List.range D.arr.length).map (fun i=>D.kept lost i),row:=[]}
theorem Zl6 (h:D.Ok K)(lost:Int→Bool):D.settled lost D.arr.length=D.arrive lost:=by
 have e1:(List.range D.arr.length).map (fun i=>if i<D.arr.length then D.kept lost i else D.arr.getD i [])=(List.range D.arr.length).map (fun i=>D.kept lost i):=by
  refine List.map_congr_left (fun i hi=>?_)
  rw[if_pos (by simpa using hi)]
 have e2:D.row.filter (fun x=>decide (D.arr.length≤x.1))=[]:=by
  rw[List.filter_eq_nil_iff]
  intro x hx
  have:=(h.rblks x hx).2.1
  simp;omega
 unfold Dk.settled Dk.arrive
 rw[e1,e2]
theorem Zbx {α:Type}(f:α→Bool): ∀(l:List α) (q:Nat),(∀j x,j<q→l[j]?=some x→f x=true)→q≤l.length→(∀x,l[q]?=some x→f x=false)→(l.takeWhile f).length=q
 | [],q,_,hq,_=>by simp at hq;simp[hq]
 |x :: l,0,_,_,h=>by
  have:=h x (by simp)
  simp[this]
 |x :: l,q+1,h1,hq,h2=>by
  have hx:=h1 0 x (by omega) (by simp)
  have:=Zbx f l q (fun j y hj hy=>h1 (j+1) y (by omega) (by simpa using hy)) (by simpa using hq) (fun y hy=>h2 y (by simpa using hy))
  simp[hx,this]
theorem DiskAt.settle {w0:World}(h:DiskAt w0 p (D.settled lost k) s g c)(hk:k<D.arr.length)(hb:(D.kept lost k).length=64)(hu:U0 w0 W):
  DiskAt ((W.alloc (.cells (bcells (D.kept lost k)++[Value.int .i64 0]).toArray 124)).setCell ⟨s,k,none⟩ (.slice (some ⟨W.heap.size,0,none⟩) 1 1)) p (D.settled lost (k+1)) s
   (fun j=>if j=k then W.heap.size else g j) (fun j=>if j=k then 1 else c j):=by
 have hl:=Zat D lost k
 have a2:=Zat D lost (k+1)
 have lp:=Za h.main
 have ls:=Za h.sec
 have hz:=hu.size
 have lg: ∀i,i<D.arr.length→g i<w0.heap.size:=fun i hi=>by
  rcases(h.rows i (by rw[hl];exact hi)).2 with ⟨h3,_⟩ | ⟨gg,a4,a3,hv,hb,hh,r⟩
  ·simp at h3
  ·simp at hv;rw[hv.1];exact Za hh
 have hA: ∀j,j<w0.heap.size→(W.alloc (.cells (bcells (D.kept lost k)++[Value.int .i64 0]).toArray 124)).heap[j]?=w0.heap[j]?:=fun j hj=>
  (Zm (by omega)).trans (hu.block j hj id)
 refine⟨?_,?_,?_,h.ps,?_,?_,?_⟩
 ·rw[Yd (fun e=>h.ps e),hA p lp,h.main,hl,a2];rfl
 ·rw[Ze ((hA s ls).trans h.sec),hl,a2]
  congr 2
  apply Array.toList_inj.1
  apply List.ext_getElem
  ·simp
  ·intro j h1 h2
   have hj:j<D.arr.length:=by simpa using h2
   simp only[Array.toList_setIfInBounds,List.getElem_set,List.getElem_map,List.getElem_range]
   by_cases e:k=j
   ·subst e
    simp[Y5 D lost hk (Nat.lt_succ_self k)]
   ·rw[if_neg e]
    by_cases a1:j<k
    ·rw[Y5 D lost hj a1,Y5 D lost hj (by omega:j<k+1)]
     simp[Ne.symm e]
    ·rw[Yn D lost hj (by omega:k≤j),Yn D lost hj (by omega:k+1≤j)]
     simp[Ne.symm e]
 ·intro i hi
  rw[a2] at hi
  by_cases a0:i=k
  ·subst a0
   rw[Y5 D lost hi (Nat.lt_succ_self i)]
   simp only[if_true]
   refine⟨by simp[vcells,hb],.inr ⟨W.heap.size,1,(bcells (D.kept lost i)++[Value.int .i64 0]).toArray,by simp,Nat.zero_le _,?_,by simp,by decide,by simp[bcells,hb],?_⟩⟩
   ·rw[Yd (by simp;omega)];exact Zc rfl
   ·simp only[vcells,bcells,List.flatMap_cons,List.flatMap_nil,List.append_nil]
    exact List.take_of_length_le (by simp[hb])
  ·have a5:(D.settled lost (k+1)).vers i=(D.settled lost k).vers i:=by
    by_cases a1:i<k
    ·rw[Y5 D lost hi a1,Y5 D lost hi (by omega:i<k+1)]
    ·rw[Yn D lost hi (by omega:k≤i),Yn D lost hi (by omega:k+1≤i)]
   rw[a5]
   simp only[a0,if_false]
   obtain⟨h1,h2⟩:=h.rows i (by rw[hl];exact hi)
   refine⟨h1,?_⟩
   rcases h2 with ⟨h2,_⟩ | ⟨gg,a4,a3,hv,hb,hh,r⟩
   ·simp at h2
   ·refine .inr ⟨gg,a4,a3,hv,hb,?_,r⟩
    simp at hv
    rw[Yd (fun e=>h.gs i (by rw[hl];exact hi) (hv.1.trans e)),hA gg (Za hh)]
    exact hh
 ·intro i hi
  rw[a2] at hi
  by_cases a0:i=k
  ·simp only[a0,if_true];omega
  ·simp only[a0,if_false];exact h.gp i (by rw[hl];exact hi)
 ·intro i hi
  rw[a2] at hi
  by_cases a0:i=k
  ·simp only[a0,if_true];omega
  ·simp only[a0,if_false];exact h.gs i (by rw[hl];exact hi)
 ·intro i j hi hj
  rw[a2] at hi hj
  have li:=lg i hi
  have lj:=lg j hj
  by_cases a0:i=k<;> by_cases a1:j=k
  ·intro _;omega
  ·simp only[a0,a1,if_true,if_false];intro e;omega
  ·simp only[a0,a1,if_true,if_false];intro e;omega
  ·simp only[a0,a1,if_false];exact h.gg i j (by rw[hl];exact hi) (by rw[hl];exact hj)
theorem Zm7 (D:Dk)(lost:Int→Bool)(i:Nat): ∃v,(D.vers i)[D.count lost i]?=some v∧v∈D.vers i∧D.kept lost i=v.1:=by
 have h0:D.count lost i≤(D.vers i).tail.length:=(List.takeWhile_sublist _).length_le
 have hn:=List.length_pos_iff.2 (Zf4 D i)
 have hl:D.count lost i<(D.vers i).length:=by rw[List.length_tail] at h0;omega
 exact⟨(D.vers i)[D.count lost i],by simp[hl],List.getElem_mem _,by simp[Dk.kept,List.getD_eq_getElem?_getD,hl]⟩
theorem Zg9 (h:D.Ok K)(lost:Int→Bool)(hi:i<D.arr.length):okBlk (D.kept lost i):=by
 obtain⟨v,_,h2,h3⟩:=Zm7 D lost i
 rw[h3];exact Zce h hi v h2
end
section
open Go.RowKit Go.Deep
theorem Znt {o:Oper}{g:Nat}{x:Operand}(ho:o.op=.slice 125 x (some (.const (.int .i64 1))) none none)(hx:a.eval x=.slice (some ⟨g,0,none⟩) (m+1) cap)(hc:m+1≤cap):
  ∃off,(m≠0→off=65)∧(execOp a.eval o).run Tryz.prog w=.ok (.value (.slice (some ⟨g,off,none⟩) m (cap - 1))) w:=by
 by_cases h1:cap=1
 ·subst h1
  obtain rfl:m=0:=by omega
  refine⟨0,by simp,?_⟩
  unfold execOp
  simp only[ho,hx]
  simp[go_sem]
 ·refine⟨65,fun _=>rfl,?_⟩
  unfold execOp
  simp only[ho,hx]
  have e1:(1:Int)≤(m:Int)+1:=by omega
  have e2: ¬(cap=1):=h1
  simp[go_sem,e1,e2]
theorem Zez {ops:Array Oper}{rest:List Oper}{Q:Exit→Act→World→Prop}{o:Oper}{g:Nat}{x:Operand}(hg:o.guard=none)(ho:o.op=.slice 125 x (some (.const (.int .i64 1))) none none)(hx:a.eval x=.slice (some ⟨g,0,none⟩) (m+1) cap)(hc:m+1≤cap)
  (h: ∀off,(m≠0→off=65)→wpList Tryz.prog ops Q rest (a.put o.dst (.slice (some ⟨g,off,none⟩) m (cap - 1))) w):wpList Tryz.prog ops Q (o :: rest) a w:=by
 obtain⟨off,h1,h2⟩:=Znt (w:=w) ho hx hc
 exact Yv hg h2 (h off h1)
theorem Za4 {G:Nat→Prop}{sz g:Nat}(h:w.ownsRow 0 e sz (.slice (some ⟨g,0,none⟩) n cap) n xs)(hu:Upd G w w')(hg: ¬G g):w'.ownsRow 0 e sz (.slice (some ⟨g,0,none⟩) n cap) n xs:=by
 obtain⟨h1,h2⟩:=h
 refine⟨h1,?_⟩
 rcases h2 with ⟨h2,_⟩ | ⟨gg,a0,a1,hv,hb,hh,r⟩
 ·simp at h2
 ·refine .inr ⟨gg,a0,a1,hv,hb,?_,r⟩
  simp at hv
  exact(hu.block gg (Za hh) (fun e=>hg (by rw[hv.1];exact e))).trans hh
theorem Zc6: ∀(L:List (List Int×Int)) (j:Nat) (v:List Int×Int),L[j]?=some v→(∀v∈L,v.1.length=64)→((L.flatMap vcells).drop (j * 65)).take 65=vcells v
 | [],j,v,h,_=>by simp at h
 |x :: L,0,v,h,hl=>by
  simp at h;subst h
  have:=Yi (hl x (by simp))
  rw[List.flatMap_cons,Nat.zero_mul,List.drop_zero,List.take_append,this]
  simp[List.take_of_length_le (Nat.le_of_eq this)]
 |x :: L,j+1,v,h,hl=>by
  have h1:=Yi (hl x (by simp))
  have:=Zc6 L j v (by simpa using h) (fun v hv=>hl v (by simp[hv]))
  rw[List.flatMap_cons,List.drop_append,h1,show(j+1) * 65 - 65=j * 65 by omega,List.drop_eq_nil_of_le (by omega)]
  simpa using this
theorem Tryz.size124:(Tryz.prog.info? 124).map (·.size)=some 65:=by kernel_rfl
theorem Tryz.zsize124:Tryz.zeroCells124.size=65:=by kernel_rfl
theorem Zba (v:List Int×Int): ∀u∈vcells v,u.oneCell'=true:=by
 intro u hu
 simp[vcells] at hu
 rcases hu with ⟨x,_,rfl⟩ | rfl<;> rfl
structure ArrAt (w wr:World) (p s:Nat) (D:Dk) (lost:Int→Bool) (g:Nat→Nat) (F:Nat→Prop) (k:Nat) (g' c':Nat→Nat):Prop where
 upd:Upd F w wr
 at_:DiskAt wr p (D.settled lost k) s g' c'
 news: ∀j,j<D.arr.length→g' j=g j∨w.heap.size≤g' j
theorem Zq6 (h:D.Ok K)(i:Nat): ∀v∈D.vers i,0≤v.2∧v.2≤K:=by
 intro v hv
 have hs:=h.sent
 simp only[Dk.vers,List.mem_cons,List.mem_map,List.mem_filter] at hv
 rcases hv with rfl | ⟨x,⟨hx,_⟩,rfl⟩
 ·exact⟨Int.le_refl _,by omega⟩
 ·obtain⟨_,_,h3,h4⟩:=h.rblks x hx
  exact⟨by omega,by omega⟩
theorem Zlv {q:Nat}{hd:List Int×Int}{t:List (List Int×Int)}
  (hA:ArrAt w wo p s D lost g F k g' c') (hu:U0 wo W) (hk:k<D.arr.length) (hv:D.vers k=hd :: t) (hok:D.Ok 1099511627774) (hc:D.count lost k=q):
  RowKit.Hid (W.drew.cell? ⟨p,0,none⟩=some (.slice (some ⟨s,0,none⟩) D.arr.length D.arr.length)∧W.drew.rangeAt (g' k) (q * 65) (bcells (D.kept lost k))∧(bcells (D.kept lost k)).length=64):=by
 have hl:=Zat D lost k
 have hm:=(hu.block p (Za hA.at_.main) id).trans hA.at_.main
 have hr:=hA.at_.rows k (by rw[hl];exact hk)
 rw[Yn D lost hk (Nat.le_refl k),hv] at hr
 have a0:=Za4 hr hu id
 obtain⟨v,h1,h2,h3⟩:=Zm7 D lost k
 rw[hc,hv] at h1
 refine V ⟨?_,?_,?_⟩
 ·have:=(Z0 hm).1
  rw[hl] at this
  exact this
 ·rw[h3]
  exact Zcm (w:=W.drew) a0 (Ze6 _ q v h1 (fun v hv'=>by rw[←hv] at hv';exact(Zce hok hk v hv').1))
 ·rw[Z3];exact(Zg9 hok lost hk).1
theorem Zlw {hd:List Int×Int}{t:List (List Int×Int)}
  (hA:ArrAt w wo p s D lost g F k g' c') (hu:U0 wo W) (hk:k<D.arr.length) (hv:D.vers k=hd :: t) (o:Obj):
  (W.alloc o).cell? ⟨s,k,none⟩=some (.slice (some ⟨g' k,0,none⟩) (t.length+1) (c' k)):=by
 have hl:=Zat D lost k
 have ls:=Za hA.at_.sec
 have hs:=(hu.block s ls id).trans hA.at_.sec
 have a0:(W.alloc o).heap[s]?=_:=(Zm (Nat.lt_of_lt_of_le ls hu.size)).trans hs
 rw[Zr a0,hl]
 simp[hk,Yn D lost hk (Nat.le_refl k),hv]
theorem Zib
  (hA:ArrAt w wo p s D lost g F k g' c') (hu:U0 wo W) (o:Obj):(W.alloc o).frozen? ⟨s,k,none⟩=false:=by
 have ls:=Za hA.at_.sec
 have hs:=(hu.block s ls id).trans hA.at_.sec
 have a0:(W.alloc o).heap[s]?=_:=(Zm (Nat.lt_of_lt_of_le ls hu.size)).trans hs
 exact Zb a0
theorem ArrAt.next
  (hA:ArrAt w wo p s D lost g F k g' c') (hu:U0 wo W) (hk:k<D.arr.length) (hok:D.Ok 1099511627774) (hF:F s):
  ArrAt w ((W.drew.alloc (.cells (bcells (D.kept lost k)++[Value.int .i64 0]).toArray 124)).setCell ⟨s,k,none⟩ (.slice (some ⟨W.heap.size,0,none⟩) 1 1)) p s D lost g F (k+1)
   (fun j=>if j=k then W.heap.size else g' j) (fun j=>if j=k then 1 else c' j):=by
 have a1:U0 wo W.drew:=hu.drew
 refine⟨?_,hA.at_.settle hk (Zg9 hok lost hk).1 a1,fun j hj=>?_⟩
 ·exact((hA.upd.trans (a1.mono (fun _ _ e=>e.elim))).alloc _).setCell (p:=⟨s,k,none⟩) (.inl hF) _
 ·by_cases a0:j=k
  ·simp only[a0,if_true]
   exact .inr (Nat.le_trans hA.upd.size hu.size)
  ·simp only[a0,if_false];exact hA.news j hj
theorem Zew (f:Nat)(caps:Array Value)(w:World)(h:Dsk w p D F)(hok:D.Ok 1099511627774)
  (eg: ∀args w,(callFunc f args).run Tryz.prog w=.ok (.enter f args) w)
  (hcl: ∀W1,Upd F w W1→ ∀v:List Int×Int,okBlk v.1→(0≤v.2∧v.2≤1099511627774)→Calls Tryz.prog f (#[.agg (vcells v).toArray]++caps) W1 fun e w'=>e=.returned (.bool (lost v.2))∧U0 W1 w'):
  Calls Tryz.prog 77 #[.pointer (some ⟨p,0,none⟩),.func (.func f) #[] caps] w fun e w'=>e=.returned (.tuple #[])∧Left w p (D.arrive lost) F w':=by
 obtain⟨s,g,c,hD,hF⟩:=h
 have hn:=hok.len
 have c5:ArrAt w w p s D lost g F 0 g c:=⟨Upd.refl _ _,by rw[Zkp];exact hD,fun j _=>.inl rfl⟩
 have hm:=hD.main
 have c0:=(Z0 hm).1
 have HC:=V hcl;have HF:=V hF;have HO:=V hok;have d4:=V c5;have HN:=V hn
 clear hcl hF hok c5 hm hD hn
 go_enter Tryz.func77,Tryz.ntmps77
 go_wp2
 go_loopg [14] D.arr.length (fun gk i wr=> ∃k:Nat,k≤D.arr.length∧gk=D.arr.length - k∧i=.int .i64 k∧ ∃g' c',ArrAt w wr p s D lost g F k g' c')
 case atStart=>exact⟨0,Nat.zero_le _,rfl,rfl,_,_,d4.o⟩
 case round=>
  obtain⟨k,hk,rfl,rfl,g',c',hA⟩:=hrel
  clear c0
  have hl:=Zat D lost k
  have hm:=hA.at_.main
  have c0:=(Z0 hm).1
  rw[hl] at c0
  obtain⟨hd,t,hv⟩: ∃hd t,D.vers k=hd :: t:=⟨_,_,rfl⟩
  have cs:k<D.arr.length→wr.cell? ⟨s,k,none⟩=some (.slice (some ⟨g' k,0,none⟩) (t.length+1) (c' k)):=fun h=>by
   rw[Zr hA.at_.sec,hl]
   simp[h,Yn D lost h (Nat.le_refl k),hv]
  have hr:k<D.arr.length→wr.ownsRow 0 124 65 (.slice (some ⟨g' k,0,none⟩) (t.length+1) (c' k)) (t.length+1) ((hd :: t).flatMap vcells):=fun h=>by
   have:=hA.at_.rows k (by rw[hl];exact h)
   rwa [Yn D lost h (Nat.le_refl k),hv] at this
  have HA:=V hA
  have HV:=V hv
  have HR:=V hr
  clear hA hm hl hv hr
  go_upto_region 4 with fail
  ·have a1:k<D.arr.length:=by assumption
   have cs:=cs a1
   go_wp2
   go_step3
   go_wp2
   go_step3
   have a4:t.length+1≤c' k:=by
    rcases(HR.o a1).2 with ⟨e,_⟩ | ⟨_,_,_,e,_,_,e2,_⟩
    ·simp at e
    ·simp at e;omega
   iterate 8 go_step
   refine Zez rfl rfl rfl a4 (fun off hoff=>?_)
   have d3:=V hoff
   have e3:t.length≤1099511627774:=by
    have h1:=Zas D k
    rw[HV.o] at h1
    have:=HO.o.rowlen
    simp at h1;omega
   clear hoff cs a4
   go_wp2
   obtain⟨wo,rfl⟩: ∃wo:World,wo=wr:=⟨_,rfl⟩
   go_loopg [6,22] t.length (fun gi n i wi=> ∃q:Nat,q≤t.length∧gi=t.length - q∧n=.int .i64 q∧i=.int .i64 q∧U0 wo wi∧ ∀j x,j<q→t[j]?=some x→lost x.2=false)
   case atStart=>exact⟨0,Nat.zero_le _,rfl,rfl,rfl,Upd.refl _ _,fun j x hj=>by omega⟩
   case round=>
    obtain⟨q,hq,rfl,rfl,rfl,hU,hL⟩:=hrel
    have HU:=V hU;have HL:=V hL
    clear hU hL
    go_upto_region 6 with fail
    ·have d0:q<t.length:=by assumption
     obtain rfl:=d3.o (by omega)
     have e4:(q:Int)<t.length:=by omega
     iterate 7 go_step
     obtain⟨x,hx⟩: ∃x,t[q]?=some x:=⟨t[q],by simp[d0]⟩
     have b1: ∀v∈hd :: t,okBlk v.1:=by rw[←HV.o];exact Zce HO.o a1
     have b0:okBlk x.1:=b1 x (List.mem_cons_of_mem _ (List.mem_of_getElem? hx))
     have b4:=Yi b0.1
     have d2:=V (Zq6 HO.o k x (by rw[HV.o];exact List.mem_cons_of_mem _ (List.mem_of_getElem? hx)))
     have c7:=Za4 (HR.o a1) HU.o id
     have a2:(Tryz.prog.info? 124).map (·.size)=some (vcells x).length:=by rw[Tryz.size124,b4]
     have c6:wr.rangeAt (g' k) (65+q * 65) (vcells x):=by
      have:=Zcm c7 (Zc6 (hd :: t) (q+1) x (by simpa using hx) (fun v hv=>(b1 v hv).1))
      rwa [show(q+1) * 65=65+q * 65 by omega] at this
     have HX:=V hx;have e0:=V b0;have b9:=V b4;have HI:=V a2;have d5:=V c6
     clear hx b1 b0 b4 c7 a2 c6
     refine wpList_load_mid rfl 124 (.tmp 25) rfl (g' k) (65+q * 65) rfl (vcells x) _ d5.o Tryz.underlying124 rfl HI.o ?_
     iterate 6 go_step
     have a3:(wr.alloc (.cells Tryz.zeroCells124 124)).heap[wr.heap.size]?=some (.cells Tryz.zeroCells124 124 (0,0)):=Zc rfl
     have c3:(wr.alloc (.cells Tryz.zeroCells124 124)).there wr.heap.size 0 (vcells x).toArray.size:=by
      have:=Zq a3
      rwa [show Tryz.zeroCells124.size=(vcells x).toArray.size by rw[Tryz.zsize124];simp[b9.o]] at this
     refine wpList_store_mid rfl 124 (.tmp 8) (.tmp 26) rfl wr.heap.size 0 (vcells x).toArray rfl rfl c3 (by rw[HI.o];simp) (all_oneCell_toArray (Zba x)) ?_
     have b6:=Zi (vs:=vcells x) a3 (by rw[Tryz.zsize124,b9.o])
     have c1:U0 wo ((wr.alloc (.cells Tryz.zeroCells124 124)).setCells wr.heap.size 0 (vcells x)):=by
      have:=Upd.setCells (F:=fun j=>wo.heap.size≤j) (b:=wr.heap.size) HU.o.size (vcells x) 0 ((HU.o.mono (G:=fun j=>wo.heap.size≤j) (fun _ _ e=>e.elim)).alloc (.cells Tryz.zeroCells124 124))
      exact this.mono (fun j hj e=>by omega)
     clear a3 c3
     obtain⟨b2,a6⟩: ∃b2,b2=wr.heap.size:=⟨_,rfl⟩
     simp only[]
     generalize (wr.alloc (.cells Tryz.zeroCells124 124)).setCells wr.heap.size 0 (vcells x)=W2 at *
     rw[←a6] at b6 ⊢
     have d9:=V b6;have c8:=V c1
     clear b6 c1 a6
     go_upto_region 7 with fail
     iterate 4 go_step
     refine wpList_load_mid rfl 124 (.tmp 8) rfl b2 0 rfl (vcells x) _ (Zh d9.o) Tryz.underlying124 rfl HI.o ?_
     go_wp2_with fail
     have a9:=HC.o W2 (HA.o.upd.trans (c8.o.mono (fun _ _ e=>e.elim))) x e0.o d2.o
     obtain⟨lx,b3⟩: ∃lx,lost x.2=lx:=⟨_,rfl⟩
     rw[b3] at a9
     have b7:=V b3
     clear b3
     refine a9.mono ?_
     clear a9
     rintro e w' ⟨rfl,h3⟩
     have a7:=V (c8.o.trans h3)
     clear h3
     cases lx
     ·simp only[]
      go_step
      go_wp2
      go_roundg (t.length - (q+1))
      case measure=>omega
      case rel=>
       refine⟨q+1,by omega,rfl,by go_num,by go_num,a7.o,fun j y hj hy=>?_⟩
       by_cases d1:j=q
       ·subst d1
        rw[HX.o] at hy
        obtain rfl:=Option.some.inj hy
        exact b7.o
       ·exact HL.o j y (by omega) hy
     ·simp only[]
      go_step
      go_wp2
      have a0:D.count lost k=q:=by
       unfold Dk.count
       rw[HV.o]
       refine Zbx _ t q (fun j y hj hy=>by simp[HL.o j y hj hy]) hq (fun y hy=>?_)
       rw[HX.o] at hy
       obtain rfl:=Option.some.inj hy
       simp[b7.o]
      have HK:=Zlv HA.o a7.o a1 HV.o HO.o (q:=q) a0
      clear a0
      have b5:RowKit.Hid ((Tryz.prog.info? 48).map (·.size)=some (bcells (D.kept lost k)).length):=V (by rw[Tryz.info56p,HK.o.2.2])
      have a5:=V HK.o.2.2
      have d8:(0:Int)≤(q:Int):=Int.natCast_nonneg _
      have d7:(q:Int)<((t.length+1:Nat):Int):=by omega
      have hA:w'.drew.cell? ⟨p,0,none⟩=some (.slice (some ⟨s,0,none⟩) D.arr.length D.arr.length)∧w'.drew.rangeAt (g' k) (q * 65) (bcells (D.kept lost k)):=⟨HK.o.1,HK.o.2.1⟩
      clear c0 cs
      refine Zj 12 (fun W'=>W'.cell? ⟨p,0,none⟩=some (.slice (some ⟨s,0,none⟩) D.arr.length D.arr.length)∧W'.rangeAt (g' k) (q * 65) (bcells (D.kept lost k))) [false,false,false,false,false,false,false,false,false,false,false,false,false,false] rfl (by kernel_rfl) ?_
      refine wqZ 0 (.pointer (some ⟨p,0,none⟩)) hA (fun w ⟨q1,q2⟩=>?_) ?_
      ·go_simp
      simp only[zz]
      refine wqZ 1 (.pointer (some ⟨p,0,none⟩)) hA (fun w ⟨q1,q2⟩=>?_) ?_
      ·go_simp
      simp only[zz]
      refine wqZ 2 (.pointer (some ⟨p,0,none⟩)) hA (fun w ⟨q1,q2⟩=>?_) ?_
      ·go_simp
      simp only[zz]
      refine wqZ 3 (.slice (some ⟨s,0,none⟩) D.arr.length D.arr.length) hA (fun w ⟨q1,q2⟩=>?_) ?_
      ·go_simp
      simp only[zz]
      refine wqZ 4 (.int .i64 (k:Int)) hA (fun w ⟨q1,q2⟩=>?_) ?_
      ·go_simp
      simp only[zz]
      refine wqZ 5 (.slice (some ⟨g' k,0,none⟩) (t.length+1) (c' k)) hA (fun w ⟨q1,q2⟩=>?_) ?_
      ·go_simp
      simp only[zz]
      refine wqZ 6 (.int .i64 (q:Int)) hA (fun w ⟨q1,q2⟩=>?_) ?_
      ·go_simp
      simp only[zz]
      refine wqZ 7 (.pointer (some ⟨g' k,q * 65,none⟩)) hA (fun w ⟨q1,q2⟩=>?_) ?_
      ·(go_simp;intro hx;omega)
      simp only[zz]
      refine wqZ 8 (.pointer (some ⟨g' k,q * 65,none⟩)) hA (fun w ⟨q1,q2⟩=>?_) ?_
      ·go_simp
      simp only[zz]
      refine wqZ 9 (.agg (bcells (D.kept lost k)).toArray) hA (fun w ⟨q1,q2⟩=>?_) ?_
      ·exact Zv rfl rfl (bcells (D.kept lost k)) q2 Tryz.underlying48 rfl b5.o
      simp only[zz]
      refine wqZ 10 (.agg (bcells (D.kept lost k)++[Value.int .i64 0]).toArray) hA (fun w ⟨q1,q2⟩=>?_) ?_
      ·exact Zau (Zc8 (bcells (D.kept lost k)) _ a5.o) rfl (by simp[Act.eval])
      simp only[zz]
      refine Za0 (i:=11) rfl (by kernel_rfl) rfl (fun K hK=>?_)
      refine Zf3 (Yq (Zap (bcells (D.kept lost k)++[Value.int .i64 0]) _ (by simp[a5.o])) rfl (by simp[Act.eval])) ?_
      refine hK _ _ ⟨Zhz (W:=w'.drew) hA.1,World.rangeAt_alloc hA.2 _⟩ ?_
      simp only[zz]
      refine tlZ 12 ?_
      simp only[List.drop]
      clear hA
      have a8:=V (ArrAt.next HA.o a7.o a1 HO.o ((HF.o s).2 (.inr (.inl rfl))))
      have d6: ∀o,(w'.alloc o).cell? ⟨s,k,none⟩=some (.slice (some ⟨g' k,0,none⟩) (t.length+1) (c' k)):=Zlw HA.o a7.o a1 HV.o
      have e1: ∀o,(w'.alloc o).frozen? ⟨s,k,none⟩=false:=Zib HA.o a7.o
      go_wp2
      simp only[Exit.noGoto]
      go_wp2
      go_roundg (D.arr.length - (k+1))
      case measure=>omega
      case rel=>
       have:=HN.o.2
       exact⟨k+1,by omega,rfl,congrArg _ ((IntWalk.wrap64_in _ (by omega)).trans (by omega)),_,_,a8.o⟩
    ·have c2:q=t.length:=by omega
     have a0:D.count lost k=q:=by
      unfold Dk.count
      rw[HV.o]
      refine Zbx _ t q (fun j y hj hy=>by simp[HL.o j y hj hy]) hq (fun y hy=>?_)
      rw[c2] at hy
      simp at hy
     clear c2
     have HK:=Zlv HA.o HU.o a1 HV.o HO.o (q:=q) a0
     clear a0
     have b5:RowKit.Hid ((Tryz.prog.info? 48).map (·.size)=some (bcells (D.kept lost k)).length):=V (by rw[Tryz.info56p,HK.o.2.2])
     have a5:=V HK.o.2.2
     have d8:(0:Int)≤(q:Int):=Int.natCast_nonneg _
     have d7:(q:Int)<((t.length+1:Nat):Int):=by omega
     have hA:wr.drew.cell? ⟨p,0,none⟩=some (.slice (some ⟨s,0,none⟩) D.arr.length D.arr.length)∧wr.drew.rangeAt (g' k) (q * 65) (bcells (D.kept lost k)):=⟨HK.o.1,HK.o.2.1⟩
     clear c0 cs
     refine Zj 12 (fun W'=>W'.cell? ⟨p,0,none⟩=some (.slice (some ⟨s,0,none⟩) D.arr.length D.arr.length)∧W'.rangeAt (g' k) (q * 65) (bcells (D.kept lost k))) [false,false,false,false,false,false,false,false,false,false,false,false,false,false] rfl (by kernel_rfl) ?_
     refine wqZ 0 (.pointer (some ⟨p,0,none⟩)) hA (fun w ⟨q1,q2⟩=>?_) ?_
     ·go_simp
     simp only[zz]
     refine wqZ 1 (.pointer (some ⟨p,0,none⟩)) hA (fun w ⟨q1,q2⟩=>?_) ?_
     ·go_simp
     simp only[zz]
     refine wqZ 2 (.pointer (some ⟨p,0,none⟩)) hA (fun w ⟨q1,q2⟩=>?_) ?_
     ·go_simp
     simp only[zz]
     refine wqZ 3 (.slice (some ⟨s,0,none⟩) D.arr.length D.arr.length) hA (fun w ⟨q1,q2⟩=>?_) ?_
     ·go_simp
     simp only[zz]
     refine wqZ 4 (.int .i64 (k:Int)) hA (fun w ⟨q1,q2⟩=>?_) ?_
     ·go_simp
     simp only[zz]
     refine wqZ 5 (.slice (some ⟨g' k,0,none⟩) (t.length+1) (c' k)) hA (fun w ⟨q1,q2⟩=>?_) ?_
     ·go_simp
     simp only[zz]
     refine wqZ 6 (.int .i64 (q:Int)) hA (fun w ⟨q1,q2⟩=>?_) ?_
     ·go_simp
     simp only[zz]
     refine wqZ 7 (.pointer (some ⟨g' k,q * 65,none⟩)) hA (fun w ⟨q1,q2⟩=>?_) ?_
     ·(go_simp;intro hx;omega)
     simp only[zz]
     refine wqZ 8 (.pointer (some ⟨g' k,q * 65,none⟩)) hA (fun w ⟨q1,q2⟩=>?_) ?_
     ·go_simp
     simp only[zz]
     refine wqZ 9 (.agg (bcells (D.kept lost k)).toArray) hA (fun w ⟨q1,q2⟩=>?_) ?_
     ·exact Zv rfl rfl (bcells (D.kept lost k)) q2 Tryz.underlying48 rfl b5.o
     simp only[zz]
     refine wqZ 10 (.agg (bcells (D.kept lost k)++[Value.int .i64 0]).toArray) hA (fun w ⟨q1,q2⟩=>?_) ?_
     ·exact Zau (Zc8 (bcells (D.kept lost k)) _ a5.o) rfl (by simp[Act.eval])
     simp only[zz]
     refine Za0 (i:=11) rfl (by kernel_rfl) rfl (fun K hK=>?_)
     refine Zf3 (Yq (Zap (bcells (D.kept lost k)++[Value.int .i64 0]) _ (by simp[a5.o])) rfl (by simp[Act.eval])) ?_
     refine hK _ _ ⟨Zhz (W:=wr.drew) hA.1,World.rangeAt_alloc hA.2 _⟩ ?_
     simp only[zz]
     refine tlZ 12 ?_
     simp only[List.drop]
     clear hA
     have a8:=V (ArrAt.next HA.o HU.o a1 HO.o ((HF.o s).2 (.inr (.inl rfl))))
     have d6: ∀o,(wr.alloc o).cell? ⟨s,k,none⟩=some (.slice (some ⟨g' k,0,none⟩) (t.length+1) (c' k)):=Zlw HA.o HU.o a1 HV.o
     have e1: ∀o,(wr.alloc o).frozen? ⟨s,k,none⟩=false:=Zib HA.o HU.o
     go_wp2
     simp only[Exit.noGoto]
     go_wp2
     go_roundg (D.arr.length - (k+1))
     case measure=>omega
     case rel=>
      have:=HN.o.2
      exact⟨k+1,by omega,rfl,congrArg _ ((IntWalk.wrap64_in _ (by omega)).trans (by omega)),_,_,a8.o⟩
  ·have c9:k=D.arr.length:=by omega
   subst c9
   have hA:=HA.o
   have c4:=hA.at_
   rw[Zl6 HO.o lost] at c4
   go_returns
   refine⟨rfl,_,⟨s,g',c',c4,fun _=>Iff.rfl⟩,?_,hA.upd⟩
   rintro j (e | e | ⟨i,hi,e⟩)
   ·exact .inl ((HF.o j).2 (.inl e))
   ·exact .inl ((HF.o j).2 (.inr (.inl e)))
   ·have b8:i<D.arr.length:=by simpa [Dk.arrive] using hi
    rcases hA.news i b8 with e2 | e2
    ·exact .inl ((HF.o j).2 (.inr (.inr ⟨i,b8,e.trans e2⟩)))
    ·exact .inr (by omega)
end
section
open Go.RowKit
theorem Ziv: ∀args w,(callFunc 186 args).run Tryz.prog w=.ok (.enter 186 args) w:=enters_of Tryz.func186 (by kernel_rfl) rfl
theorem Ziu: ∀args w,(callFunc 187 args).run Tryz.prog w=.ok (.enter 187 args) w:=enters_of Tryz.func187 (by kernel_rfl) rfl
theorem Zit: ∀args w,(callFunc 188 args).run Tryz.prog w=.ok (.enter 188 args) w:=enters_of Tryz.func188 (by kernel_rfl) rfl
theorem Zd9: ∀args w,(callFunc 78 args).run Tryz.prog w=.ok (.enter 78 args) w:=enters_of Tryz.func78 (by kernel_rfl) rfl
theorem Dk.Ok.mono {K':Nat}(h:D.Ok K)(hk:K≤K'):D.Ok K':=
 ⟨h.len,h.blks,h.rblks,h.sorted,⟨h.sent.1,by have:=h.sent.2;omega⟩,⟨h.ops.1,by have:=h.ops.2;omega⟩,h.arm,h.fail,Nat.le_trans h.rowlen hk⟩
theorem Dk.Ok.callD (h:D.Ok K)(i:Int)(wr:Bool):(D.callD i wr).Ok (K+1):=by
 have h1:=h.mono (Nat.le_succ K)
 obtain⟨a1,a2⟩:=h.arm
 obtain⟨f1,f2⟩:=h.fail
 obtain⟨o1,o2⟩:=h.ops
 unfold Dk.callD
 split
 ·exact h1
 ·split
  ·exact h1
  ·split
   ·exact⟨h1.len,h1.blks,h1.rblks,h1.sorted,h1.sent,h1.ops,h1.arm,⟨by show -1≤max (D.fail - 1) (-1);omega,by show max (D.fail - 1) (-1)≤_;omega⟩,h1.rowlen⟩
   ·split
    ·exact⟨h1.len,h1.blks,h1.rblks,h1.sorted,h1.sent,h1.ops,h1.arm,⟨by show(-1:Int)≤ -1;omega,by show(-1:Int)≤9223372036854775807;omega⟩,h1.rowlen⟩
    ·refine⟨h1.len,h1.blks,h1.rblks,h1.sorted,h1.sent,⟨by show 0≤D.ops+1;omega,by show D.ops+1≤_;omega⟩,?_,⟨by show -1≤max (D.fail - 1) (-1);omega,by show max (D.fail - 1) (-1)≤_;omega⟩,h1.rowlen⟩
     cases wr
     ·exact h1.arm
     ·exact⟨by show -1≤max (D.arm - 1) (-1);omega,by show max (D.arm - 1) (-1)≤_;omega⟩
theorem Dk.Ok.arrive (h:D.Ok K)(lost:Int→Bool):(D.arrive lost).Ok K:=by
 refine⟨by simpa [Dk.arrive] using h.len,?_,by simp[Dk.arrive],by simp[Dk.arrive],h.sent,h.ops,h.arm,h.fail,by simp[Dk.arrive]⟩
 intro b hb
 simp[Dk.arrive] at hb
 obtain⟨i,hi,rfl⟩:=hb
 exact Zg9 h lost hi
theorem Dk.Ok.send (h:D.Ok K)(hi:i<D.arr.length){b:List Int}(hb:okBlk b):(D.send i b).Ok (K+1):=by
 have h1:=h.mono (Nat.le_succ K)
 obtain⟨s1,s2⟩:=h.sent
 refine⟨h1.len,h1.blks,?_,?_,⟨by show 0≤D.sent+1;omega,by show D.sent+1≤_;omega⟩,h1.ops,h1.arm,h1.fail,?_⟩
 ·intro x hx
  simp only[Dk.send,List.mem_append,List.mem_singleton] at hx
  rcases hx with hx | rfl
  ·obtain⟨q1,q2,q3,q4⟩:=h.rblks x hx
   exact⟨q1,q2,q3,by show x.2.2≤D.sent+1;omega⟩
  ·exact⟨hb,hi,by show 1≤D.sent+1;omega,Int.le_refl _⟩
 ·simp only[Dk.send]
  rw[List.pairwise_append]
  refine⟨h.sorted,by simp,fun x hx y hy=>?_⟩
  simp at hy;subst hy
  have:=(h.rblks x hx).2.2.2
  show x.2.2<D.sent+1;omega
 ·have:=h.rowlen
  simp[Dk.send];omega
theorem Dk.Ok.write (h:D.Ok K)(i:Int){b:List Int}(hb:okBlk b):(D.write i b).Ok (K+2):=by
 unfold Dk.write
 split
 ·rename_i hc
  refine(h.callD i true).send ?_ hb
  have:(D.callD i true).arr=D.arr:=by unfold Dk.callD;split<;> (try rfl);split<;> (try rfl);split<;> (try rfl);split<;> rfl
  rw[this]
  simp[Dk.callR] at hc;omega
 ·exact(h.callD i true).mono (by omega)
def Dk.sync (D:Dk):Dk:=if D.callE 0 true=0 then(D.callD 0 true).arrive (fun _=>false) else D.callD 0 true
theorem Dk.Ok.sync (h:D.Ok K):D.sync.Ok (K+1):=by
 unfold Dk.sync
 split
 ·exact(h.callD 0 true).arrive _
 ·exact h.callD 0 true
theorem Zn4 (v:List Int×Int)(w:World)(hv:okBlk v.1):Calls Tryz.prog 187 (#[.agg (vcells v).toArray]++#[]) w fun e w'=>e=.returned (.bool false)∧U0 w w':=by
 have hl:=Yi hv.1
 generalize vcells v=cs at *
 have HL:=V hl
 clear hl
 show Calls Tryz.prog 187 #[.agg cs.toArray] w _
 go_enter Tryz.func187,Tryz.ntmps187
 go_wp2
 go_ret
 exact⟨rfl,(Upd.refl _ w).alloc _⟩
theorem Zs8 (s:Nat)(w:World):Calls Tryz.prog 188 (#[.pointer (some ⟨s,0,none⟩)]++#[]) w fun e w'=>e=.returned (.tuple #[])∧w=w':=by
 show Calls Tryz.prog 188 #[.pointer (some ⟨s,0,none⟩)] w _
 go_enter Tryz.func188,Tryz.ntmps188
 go_wp2
 go_returns
 exact⟨rfl,rfl⟩
theorem Zmt {bx:Nat}(w:World)(h:Dsk w p D F)(hok:D.Ok 1099511627774)(hb:w.heap[bx]?=some (.cells #[.pointer (some ⟨p,0,none⟩)] 25 (0,0))):
  Calls Tryz.prog 186 (#[.pointer (some ⟨s,0,none⟩)]++#[.pointer (some ⟨bx,0,none⟩)]) w fun e w'=>e=.returned (.tuple #[])∧Left w p (D.arrive (fun _=>false)) F w':=by
 have HC:=V (Zew (lost:=fun _=>false) 187 #[] w h hok Ziu (fun W1 _ v hv _=>Zn4 v W1 hv))
 have c0:=Zf hb
 clear h hok hb
 show Calls Tryz.prog 186 #[.pointer (some ⟨s,0,none⟩),.pointer (some ⟨bx,0,none⟩)] w _
 go_enter Tryz.func186,Tryz.ntmps186
 go_wp2_with fail
 refine HC.o.mono ?_
 rintro e w' ⟨rfl,h⟩
 go_wp2
 go_returns
 exact⟨rfl,h⟩
theorem Zrc (w:World)(h:Dsk w p D F)(hok:D.Ok 1099511627773):
  Calls Tryz.prog 159 #[.pointer (some ⟨p,0,none⟩)] w fun e w'=>e=.returned (.int .i64 (D.callE 0 true))∧Left w p D.sync F w':=by
 have b0:=h.lt
 have a2:=hok.callD 0 true
 have a7:=hok.mono (K':=1099511627774) (by omega)
 obtain⟨s,g,c,hD,hF⟩:=h
 have a8:=hok.len
 have a6:Upd F w (w.alloc (.cells #[.pointer (some ⟨p,0,none⟩)] 25)):=(Upd.refl _ w).alloc _
 have a5:DiskAt (w.alloc (.cells #[.pointer (some ⟨p,0,none⟩)] 25)) p D s g c:=hD.kept (G:=fun _=>False) ((Upd.refl _ w).alloc _) (fun _ _ h=>h)
 have a9:(w.alloc (.cells #[.pointer (some ⟨p,0,none⟩)] 25)).heap[w.heap.size]?=some (.cells #[.pointer (some ⟨p,0,none⟩)] 25 (0,0)):=Zc rfl
 have hz:w.heap.size≤(w.alloc (.cells #[.pointer (some ⟨p,0,none⟩)] 25)).heap.size:=by simp
 have a1:Calls Tryz.prog 79 #[.pointer (some ⟨p,0,none⟩),.int .i64 0,.bool true,.func (.func 186) #[] #[.pointer (some ⟨w.heap.size,0,none⟩)],.func (.func 188) #[] #[]]
   (w.alloc (.cells #[.pointer (some ⟨p,0,none⟩)] 25)) fun e w'=>e=.returned (.int .i64 (D.callE 0 true))∧Left w p D.sync F w':=by
  generalize w.alloc (.cells #[.pointer (some ⟨p,0,none⟩)] 25)=w0 at *
  have hm:w0.heap[p]?=some (mainObj s D.arr.length D.sent D.ops D.arm D.fail D.dead):=a5.main
  have hk:0<D.arr.length:=by omega
  have a3:D.arr≠[]:=by intro e;rw[e] at hk;simp at hk
  cases hd:D.dead
  ·rw[hd] at hm
   by_cases a0:D.arm=0
   ·rw[a0] at hm
    have e1:D.callE 0 true=9:=by simp[Dk.callE,hd,a3,a0]
    have e2:D.sync=({D with fail:=max (D.fail - 1) (-1),dead:=true}:Dk):=by
     unfold Dk.sync;rw[e1];simp[Dk.callD,hd,a3,a0]
    rw[e1,e2]
    refine Zjr 0 _ 188 _ _ w0 hm hk Zit hok.fail (fun W1 h1 h2=>(Zs8 s W1).mono ?_)
    rintro e w' ⟨rfl,rfl⟩
    exact⟨rfl,(Left.main a5 hF (D':={D with fail:=max (D.fail - 1) (-1),dead:=true}) rfl rfl (by rw[a0];exact h1) h2).of_upd a6 hz⟩
   ·by_cases a4:D.fail=0
    ·rw[a4] at hm
     have e1:D.callE 0 true=8:=by simp[Dk.callE,hd,a3,a0,a4]
     have e2:D.sync=({D with fail:= -1}:Dk):=by
      unfold Dk.sync;rw[e1];simp[Dk.callD,hd,a3,a0,a4]
     rw[e1,e2]
     refine(Zf0 0 _ _ w0 hm hk a0).mono ?_
     rintro e w' ⟨rfl,h1,h2⟩
     exact⟨rfl,(Left.main a5 hF (D':={D with fail:= -1}) rfl rfl (by rw[hd];exact h1) h2).of_upd a6 hz⟩
    ·have e1:D.callE 0 true=0:=by simp[Dk.callE,hd,a3,a0,a4]
     have e3:D.callD 0 true=({D with fail:=max (D.fail - 1) (-1),ops:=D.ops+1,arm:=max (D.arm - 1) (-1)}:Dk):=by simp[Dk.callD,hd,a3,a0,a4]
     have e2:D.sync=(D.callD 0 true).arrive (fun _=>false):=by unfold Dk.sync;rw[e1];rfl
     rw[e1,e2,e3]
     rw[e3] at a2
     refine Zjq 0 _ 186 _ _ w0 hm hk Ziv a0 hok.arm a4 hok.fail ⟨hok.ops.1,by have:=hok.ops.2;omega⟩ (fun W1 h1 h2=>?_)
     have hA:Dsk W1 p {D with fail:=max (D.fail - 1) (-1),ops:=D.ops+1,arm:=max (D.arm - 1) (-1)} F:=Dsk.withMain a5 hF rfl rfl (by rw[hd];exact h1) h2
     have b1:=h2.size
     refine(Zmt (s:=s) W1 hA a2 ((h2.block _ (Za a9) (fun e=>by have:=b0 p ((hF p).2 (.inl rfl));omega)).trans a9)).mono ?_
     rintro e w' ⟨rfl,hl⟩
     exact⟨rfl,hl.of_upd (a6.trans (h2.mono (fun _ _ e=>(hF _).2 (.inl e)))) (by omega)⟩
  ·rw[hd] at hm
   refine(Zf1 0 true _ _ w0 hm).mono ?_
   rintro e w' ⟨rfl,rfl⟩
   have e1:D.callE 0 true=9:=by simp[Dk.callE,hd]
   have e2:D.sync=D:=by unfold Dk.sync;rw[e1];simp[Dk.callD,hd]
   rw[e1,e2]
   exact⟨rfl,(Left.same ⟨s,g,c,a5,hF⟩).of_upd a6 hz⟩
 have HC:=V a1
 clear a1 a5 a6 a9 hz hD hF b0 a8 hok a7 a2
 go_enter Tryz.func159,Tryz.ntmps159
 go_wp2_with (go_at_call 79;refine HC.o.mono ?_;rintro e w' ⟨rfl,hl⟩)
 go_ret
 exact⟨rfl,hl⟩
def layF (x:Int)(bits:Nat):List Int:=(List.range (bits / 8)).map fun i=>(x / 2 ^ (bits - 8 * (i+1))) % 256
theorem layF_length (x:Int)(bits:Nat):(layF x bits).length=bits / 8:=by simp[layF]
theorem Zjg {x:Int}{bits:Nat}: ∀y∈layF x bits,0≤y∧y≤255:=by
 intro y hy
 simp only[layF,List.mem_map] at hy
 obtain⟨i,_,rfl⟩:=hy
 have h1:=Int.emod_nonneg (x / 2 ^ (bits - 8 * (i+1))) (b:=256) (by omega)
 have h2:=Int.emod_lt_of_pos (x / 2 ^ (bits - 8 * (i+1))) (b:=256) (by omega)
 omega
def Y9 (p:Int×Int)(c:Int):Int×Int:=((p.1+c) % 65521,(p.2+(p.1+c) % 65521) % 65521)
def sumP (bs:List Int):Int×Int:=bs.foldl Y9 (1,0)
def sumF (bs:List Int):Int:=(sumP bs).2 * 65536+(sumP bs).1
def Bytes (bs:List Int):Prop:= ∀x∈bs,0≤x∧x≤255
def okP (p:Int×Int):Prop:=(0≤p.1∧p.1<65521)∧0≤p.2∧p.2<65521
theorem Zrl {p:Int×Int}(c:Int):okP (Y9 p c):=by
 unfold Y9 okP
 exact⟨⟨Int.emod_nonneg _ (by omega),Int.emod_lt_of_pos _ (by omega)⟩,Int.emod_nonneg _ (by omega),Int.emod_lt_of_pos _ (by omega)⟩
theorem Zk3: ∀(bs:List Int) (p:Int×Int),okP p→okP (bs.foldl Y9 p)
 | [],_,h=>h
 |c :: bs,_p,_=>Zk3 bs _ (Zrl c)
theorem Zeh (bs:List Int):(0≤(sumP bs).1∧(sumP bs).1<65521)∧0≤(sumP bs).2∧(sumP bs).2<65521:=
 Zk3 bs (1,0) (by unfold okP;omega)
def Yl (b:List Int):List Int:=(b++List.replicate (60 - b.length) 0)++layF (sumF (b++List.replicate (60 - b.length) 0)) 32
structure Hd where
 turn:Int
 area:Int
 place:Int
 number:Int
def lettersF:List Int:=[104,101,97,100,114,97,99,101]
def headF (h:Hd):List Int:=Yl (lettersF++layF h.turn 32++layF h.area 32++layF h.place 32++layF h.number 32)
def secsN (n:Nat):Nat:=(n+51) / 48
def Zal (n:Nat)(snap:Bool):Int:=(secsN n:Int)+(if snap then 32768 else 0)
def allF (b:List Int)(k:Nat):List Int:=
 let a:=(if k=0 then layF b.length 32 else [])++(b.drop (48 * k - 4)).take (min (48 * k+44) b.length - (48 * k - 4))
 a++List.replicate (48 - a.length) 0
def Zf7 (turn number:Int)(snap:Bool)(n k:Nat):List Int:=layF turn 32++layF number 32++layF k 16++layF (Zal n snap) 16
def cutF (turn number:Int)(snap:Bool)(b:List Int)(k:Nat):List Int:=
 Zf7 turn number snap b.length k++layF (sumF (Zf7 turn number snap b.length k++allF b k)) 32++allF b k
def Dk.lays:Dk→List (Int×List Int)→Dk
 | D,[]=>D.sync
 | D,(i,b) :: l=>if D.callE i true=0 then(D.write i b).lays l else D.write i b
def Dk.laysE:Dk→List (Int×List Int)→Int
 | D,[]=>D.callE 0 true
 | D,(i,b) :: l=>if D.callE i true=0 then(D.write i b).laysE l else D.callE i true
def atF (area place:Int):Int:=2+place % (2 * area)
def ecells (x:Nat×List Int×Int):List Value:=.int .i64 x.1 :: vcells x.2
def Z163:Array Value:=((List.replicate 1 (Value.int .i64 0))++(List.replicate 64 (Value.int .u8 0))++[Value.int .i64 0]).toArray
theorem Z163_size:Z163.size=66:=by simp[Z163]
theorem Zsl (w:World):(zeroValue 221).run Tryz.prog w=.ok (.agg Z163) w:=by kernel_rfl
theorem Zkw (i:Int)(cs:List Value)(w:World)(hc:cs.length=65):
  (Instr.build 221 #[(0,.int .i64 i),(1,.agg cs.toArray)]).run Tryz.prog w=.ok (.agg (Value.int .i64 i :: cs).toArray) w:=by
 have hz:=Zsl w
 have a0:Z163≠#[]:=fun e=>by have:=Z163_size;rw[e] at this;simp at this
 have hf:List.foldl (fun(cs:Array Value) (x:Value×Nat)=>cs.setIfInBounds (1+x.snd) x.fst) (Z163.setIfInBounds 0 (Value.int IntKind.i64 i)) cs.zipIdx=(Value.int .i64 i :: cs).toArray:=by
  apply Array.toList_inj.1
  have h:=Zan cs 1 0 (Z163.setIfInBounds 0 (Value.int IntKind.i64 i)) (by simp[Z163_size,hc])
  rw[h]
  have e1:(Z163.setIfInBounds 0 (Value.int IntKind.i64 i)).toList.take (1+0)=[Value.int .i64 i]:=by simp[Z163]
  have e2:(Z163.setIfInBounds 0 (Value.int IntKind.i64 i)).toList.drop (1+0+cs.length)=[]:=by rw[List.drop_eq_nil_iff];simp[Z163_size,hc]
  rw[e1,e2];simp
 simp[Instr.build,hz,go_sem,a0,hc,Z163_size,hf]
theorem Zti (cs:List Value)(Z:Array Value)(hc:cs.length=66)(hz:Z.size=66):List.foldl (fun(cs:Array Value) (x:Value×Nat)=>cs.setIfInBounds x.snd x.fst) Z cs.zipIdx=cs.toArray:=by
 apply Array.toList_inj.1
 have h:=Zan cs 0 0 Z (by simp[hz,hc])
 simp only[Nat.zero_add] at h
 rw[h]
 have e:Z.toList.drop 66=[]:=by rw[List.drop_eq_nil_iff];simp[hz]
 simp[hc,e]
theorem Zgb (cs:List Value)(w:World)(hc:cs.length=66):
  (Instr.buildSlice 219 1 #[(0,.agg cs.toArray)]).run Tryz.prog w=.ok (.slice (some ⟨w.heap.size,0,none⟩) 1 1) (w.alloc (.cells cs.toArray 221)):=by
 simp[Instr.buildSlice,go_sem]
 rw[Zti cs _ hc (by simp)]
 simp[hc]
theorem Tryz.info163p:(Tryz.prog.info? 221).map (fun i=>(i.zero,i.size,i.bytes))=some (some (.agg Z163),66,80):=by kernel_rfl
def Dk.pile (D:Dk)(k:Nat):List (Nat×List Int×Int):=(List.range k).flatMap fun i=>(D.vers i).tail.map fun v=>(i,v)
theorem Zfj (D:Dk)(k:Nat):D.pile (k+1)=D.pile k++(D.vers k).tail.map fun v=>(k,v):=by
 simp[Dk.pile,List.range_succ]
end
section
open Go.RowKit Go.Deep
theorem Zcw {x:Nat×List Int×Int}(h:x.2.1.length=64):(ecells x).length=66:=by simp[ecells,Yi h]
theorem Zh3 (x:Nat×List Int×Int): ∀u∈ecells x,u.oneCell'=true:=by
 intro u hu
 rcases List.mem_cons.1 hu with rfl | hu
 ·rfl
 ·exact Zba _ u hu
theorem Zy {G:Nat→Prop}{B:Nat}{sz:Nat}(h:w.ownsRow B e sz v n xs)(hu:Upd G w w')(hg: ∀k,v.ownBlock=some k→ ¬G k):w'.ownsRow B e sz v n xs:=by
 obtain⟨h1,h2⟩:=h
 refine⟨h1,?_⟩
 rcases h2 with h2 | ⟨gg,a0,a1,hv,hb,hh,r⟩
 ·exact .inl h2
 ·exact .inr ⟨gg,a0,a1,hv,hb,(hu.block gg (Za hh) (hg gg (by rw[hv];rfl))).trans hh,r⟩
structure RowAt (w wr:World) (v:Value) (L:List (Nat×List Int×Int)):Prop where
 upd:U0 w wr
 cell:wr.heap[w.heap.size]?=some (.cells #[v] 219 (0,0))
 own:wr.ownsRow w.heap.size 221 66 v L.length (L.flatMap ecells)
 ne:v.ownBlock≠some w.heap.size
theorem RowAt.start (w:World):RowAt w (w.alloc (.cells #[.slice none 0 0] 219)) (.slice none 0 0) []:=
 ⟨(Upd.refl _ w).alloc _,Zc rfl,World.ownsRow_nil _ _ _ _,by simp[Value.ownBlock]⟩
theorem RowAt.kept {W2:World}{L:List (Nat×List Int×Int)}(h:RowAt w W v L)(hu:U0 W W2):RowAt w W2 v L:=
 ⟨h.upd.trans hu,kb hu h.cell,Zy h.own hu n3Z,h.ne⟩
theorem RowAt.grow {w4:World}{L:List (Nat×List Int×Int)}{x:Nat×List Int×Int}{gg cap':Nat}{o:Obj}(h:RowAt w W v L)
  (hown:w4.ownsRow w.heap.size 221 66 (.slice (some ⟨gg,0,none⟩) (L.length+1) cap') (L.length+1) (L.flatMap ecells++ecells x))
  (hg:(W.alloc o).grownBy w4 v.ownBlock) (hat:v.ownBlock=some gg∨gg=W.heap.size+1):
  RowAt w (w4.setCell ⟨w.heap.size,0,none⟩ (.slice (some ⟨gg,0,none⟩) (L.length+1) cap')) (.slice (some ⟨gg,0,none⟩) (L.length+1) cap') (L++[x]):=by
 have a0:=h.own.lt
 have hz:=h.upd.size
 have hb:=Za h.cell
 have a3:gg≠w.heap.size:=by
  rcases hat with e | e
  ·intro e2;rw[e2] at e;exact h.ne e
  ·omega
 have a1:w4.heap[w.heap.size]?=some (.cells #[v] 219 (0,0)):=((hg.block _ (by simp;omega) (fun e=>h.ne e.symm)).trans (Zm hb)).trans h.cell
 have a2:Upd (fun j=>w.heap.size≤j) w w4:=
  ((h.upd.mono (G:=fun j=>w.heap.size≤j) (fun _ _ e=>e.elim)).alloc o).step (Upd.of_grown (F:=fun j=>w.heap.size≤j) hg (fun k hk=>(a0 k hk).1)) n3Z
 refine⟨?_,?_,?_,?_⟩
 ·exact(a2.setCell (p:=⟨w.heap.size,0,none⟩) (.inl (Nat.le_refl _)) _).mono (fun j hj e=>by omega)
 ·have:=Ze (i:=0) (v:=.slice (some ⟨gg,0,none⟩) (L.length+1) cap') a1
  simpa using this
 ·have:=Zy hown (Zd w4 w.heap.size 0 (.slice (some ⟨gg,0,none⟩) (L.length+1) cap')) (fun k hk e=>by simp[Value.ownBlock] at hk;omega)
  simpa using this
 ·simp[Value.ownBlock,a3]
theorem Zcb (n:Nat): ∀(l:List (Nat×List Int×Int)),((l.filter (fun x=>decide (x.1<n)))++(l.filter (fun x=>x.1 == n))).Perm (l.filter (fun x=>decide (x.1<n+1)))
 | []=>by simp
 |x :: l=>by
  have ih:=Zcb n l
  have e1: ∀p:Nat×List Int×Int→Bool,p x=true→(x :: l).filter p=x :: l.filter p:=fun p h=>List.filter_cons_of_pos h
  have e2: ∀p:Nat×List Int×Int→Bool,p x=false→(x :: l).filter p=l.filter p:=fun p h=>List.filter_cons_of_neg (by simp[h])
  rcases Nat.lt_trichotomy x.1 n with h | h | h
  ·rw[e1 (fun x=>decide (x.1<n)) (by simpa using h),e2 (fun x=>x.1 == n) (by simp;omega),e1 (fun x=>decide (x.1<n+1)) (by simp;omega)]
   exact ih.cons x
  ·rw[e2 (fun x=>decide (x.1<n)) (by simp;omega),e1 (fun x=>x.1 == n) (by simpa using h),e1 (fun x=>decide (x.1<n+1)) (by simp;omega)]
   exact List.perm_middle.trans (ih.cons x)
  ·rw[e2 (fun x=>decide (x.1<n)) (by simp;omega),e2 (fun x=>x.1 == n) (by simp;omega),e2 (fun x=>decide (x.1<n+1)) (by simp;omega)]
   exact ih
theorem Zra (D:Dk)(k:Nat):((D.vers k).tail.map fun v=>(k,v))=D.row.filter (fun x=>x.1 == k):=by
 simp only[Dk.vers,List.tail_cons,List.map_map]
 have: ∀l:List (Nat×List Int×Int),(∀x∈l,x.1=k)→l.map ((fun v=>(k,v))∘(·.2))=l:=by
  intro l hl
  induction l with
  |nil=>rfl
  |cons x l ih=>
   rw[List.map_cons,ih (fun y hy=>hl y (by simp[hy]))]
   have:=hl x (by simp)
   subst this;rfl
 exact this _ (fun x hx=>by simpa using (List.mem_filter.1 hx).2)
theorem Zfk (D:Dk): ∀n,(D.pile n).Perm (D.row.filter (fun x=>decide (x.1<n)))
 | 0=>by simp[Dk.pile]
 |n+1=>by
  rw[Zfj,Zra]
  exact((Zfk D n).append_right _).trans (Zcb n D.row)
theorem Zsz (D:Dk)(k:Nat):(D.pile (k+1)).length≤D.row.length:=by
 rw[(Zfk D (k+1)).length_eq];exact List.length_filter_le _ _
theorem Zsy {Q:Ending→World→Prop}(w:World)(h:Dsk w p D F)(hok:D.Ok 1099511627774)
  (hQ: ∀v wr,RowAt w wr v (D.pile D.arr.length)→Calls Tryz.prog 139 #[v,.func (.func 140) #[] #[]] wr fun e w'=>e=.returned (.tuple #[])∧Q (.returned (.func (.func 141) #[] #[.pointer (some ⟨w.heap.size,0,none⟩)])) w'):
  Calls Tryz.prog 76 #[.pointer (some ⟨p,0,none⟩)] w Q:=by
 obtain⟨s,g,c,hD,hF⟩:=h
 have hm:=hD.main
 have lp:=Za hm
 have c0:=(Z0 hm).1
 have hn:=hok.len
 have HD:=V hD;have HO:=V hok;have HN:=V hn;have HQ:=V hQ
 clear hD hok hn hQ hF hm
 go_enter Tryz.func76,Tryz.ntmps76
 go_wp2
 clear c0 lp
 go_loopg [13] D.arr.length (fun gk i wr=> ∃k:Nat,k≤D.arr.length∧gk=D.arr.length - k∧i=.int .i64 k∧ ∃v,RowAt w wr v (D.pile k))
 case atStart=>exact⟨0,Nat.zero_le _,rfl,rfl,_,RowAt.start w⟩
 case round=>
  obtain⟨k,hk,rfl,rfl,v,hR⟩:=hrel
  have b1:=HD.o.kept (G:=fun _=>False) hR.upd n3Z
  obtain⟨hd,t,hv⟩: ∃hd t,D.vers k=hd :: t:=⟨_,_,rfl⟩
  have cs:k<D.arr.length→wr.cell? ⟨s,k,none⟩=some (.slice (some ⟨g k,0,none⟩) (t.length+1) (c k)):=fun h=>by
   rw[Zr b1.sec]
   simp[h,hv]
  have hr:k<D.arr.length→wr.ownsRow 0 124 65 (.slice (some ⟨g k,0,none⟩) (t.length+1) (c k)) (t.length+1) ((hd :: t).flatMap vcells):=fun h=>by
   have:=b1.rows k h
   rwa [hv] at this
  have c3:=Zf hR.cell
  have HR:=V hR
  have HV:=V hv
  have HW:=V hr
  clear hR b1 hv hr
  go_upto_region 5 with fail
  ·have b4:k<D.arr.length:=by assumption
   have a4:t.length+1≤c k:=by
    rcases(HW.o b4).2 with ⟨e,_⟩ | ⟨_,_,_,e,_,_,e2,_⟩
    ·simp at e
    ·simp at e;omega
   iterate 4 go_step
   refine Zez rfl rfl rfl a4 (fun off hoff=>?_)
   have d6:=V hoff
   have e5:t.length≤1099511627774:=by
    have h1:=Zas D k
    rw[HV.o] at h1
    have:=HO.o.rowlen
    simp at h1;omega
   have b8:(D.pile k).length+t.length≤1099511627774:=by
    have h1:=Zsz D k
    rw[Zfj,HV.o] at h1
    have:=HO.o.rowlen
    simp at h1;omega
   have e3:=V b8
   clear hoff cs a4 c3 b8
   go_wp2
   obtain⟨wo,rfl⟩: ∃wo:World,wo=wr:=⟨_,rfl⟩
   clear HW
   go_loopg [21] t.length (fun gi i wi=> ∃q:Nat,q≤t.length∧gi=t.length - q∧i=.int .i64 q∧ ∃v,RowAt w wi v (D.pile k++(t.take q).map fun v=>(k,v)))
   case atStart=>exact⟨0,Nat.zero_le _,rfl,rfl,v,by simpa using HR.o⟩
   case round=>
    obtain⟨q,hq,rfl,rfl,v2,d2⟩:=hrel
    have a7:=V d2
    clear d2
    go_upto_region 7 with fail
    ·have d4:q<t.length:=by assumption
     obtain rfl:=d6.o (by omega)
     have e6:(q:Int)<t.length:=by omega
     have b0: ∀v∈hd :: t,okBlk v.1:=by rw[←HV.o];exact Zce HO.o b4
     obtain⟨x,hx⟩: ∃x,t[q]?=some x:=⟨t[q],by simp[d4]⟩
     have a9:okBlk x.1:=b0 x (List.mem_cons_of_mem _ (List.mem_of_getElem? hx))
     have b3:=Yi a9.1
     have d0:=Za4 (HV.o ▸ HD.o.rows k b4) a7.o.upd id
     have a1:(Tryz.prog.info? 124).map (·.size)=some (vcells x).length:=by rw[Tryz.size124,b3]
     have c9:wr.rangeAt (g k) (65+q * 65) (vcells x):=by
      have:=Zcm d0 (Zc6 (hd :: t) (q+1) x (by simpa using hx) (fun v hv=>(b0 v hv).1))
      rwa [show(q+1) * 65=65+q * 65 by omega] at this
     have HX:=V hx;have d1:=V a9;have a8:=V b3;have HI:=V a1;have d9:=V c9
     clear hx b0 a9 b3 d0 a1 c9
     iterate 4 go_step
     refine wpList_load_mid rfl 124 (.tmp 23) rfl (g k) (65+q * 65) rfl (vcells x) _ d9.o Tryz.underlying124 rfl HI.o ?_
     iterate 3 go_step
     have a3:(wr.alloc (.cells Tryz.zeroCells124 124)).heap[wr.heap.size]?=some (.cells Tryz.zeroCells124 124 (0,0)):=Zc rfl
     have c6:(wr.alloc (.cells Tryz.zeroCells124 124)).there wr.heap.size 0 (vcells x).toArray.size:=by
      have:=Zq a3
      rwa [show Tryz.zeroCells124.size=(vcells x).toArray.size by rw[Tryz.zsize124];simp[a8.o]] at this
     refine wpList_store_mid rfl 124 (.tmp 7) (.tmp 24) rfl wr.heap.size 0 (vcells x).toArray rfl rfl c6 (by rw[HI.o];simp) (all_oneCell_toArray (Zba x)) ?_
     have b6:=Zi (vs:=vcells x) a3 (by rw[Tryz.zsize124,a8.o])
     have c1:U0 wr ((wr.alloc (.cells Tryz.zeroCells124 124)).setCells wr.heap.size 0 (vcells x)):=by
      have:=Upd.setCells (F:=fun j=>wr.heap.size≤j) (b:=wr.heap.size) (Nat.le_refl _) (vcells x) 0 ((Upd.refl _ wr).alloc (.cells Tryz.zeroCells124 124))
      exact this.mono (fun j hj e=>by omega)
     have a2:=V (a7.o.kept c1)
     clear a3 c6 c1
     obtain⟨b2,a6⟩: ∃b2,b2=wr.heap.size:=⟨_,rfl⟩
     simp only[]
     generalize (wr.alloc (.cells Tryz.zeroCells124 124)).setCells wr.heap.size 0 (vcells x)=W2 at *
     rw[←a6] at b6 ⊢
     have c3:=Zf a2.o.cell
     have e4:=V b6
     clear b6 a6 a7
     go_upto_region 8 with fail
     iterate 7 go_step
     refine wpList_load_mid rfl 124 (.tmp 7) rfl b2 0 rfl (vcells x) _ (Zh e4.o) Tryz.underlying124 rfl HI.o ?_
     refine Yv rfl (Zau (Zkw k (vcells x) _ a8.o) rfl (by simp[Act.eval,Act.put])) ?_
     refine Yv rfl (Yq (Zgb (ecells (k,x)) _ (Zcw (x:=(k,x)) d1.o.1)) rfl (by simp[Act.eval,Act.put,ecells])) ?_
     obtain⟨i0,c2,c5,c8,b9⟩:=info_parts Tryz.info163p
     have d5:(D.pile k++(t.take q).map fun v=>(k,v)).length≤1099511627773:=by
      have:=e3.o
      rw[List.length_append,List.length_map,List.length_take]
      omega
     refine wpList_append_lies _ rfl (.tmp 25) (.tmp 29) 219 rfl w.heap.size 221 i0 (.agg Z163) 66 80 Tryz.underlying219 c2 c5 c8 b9 (by simp[Value.cells,Z163_size]) (by omega) v2 _ _ rfl (a2.o.own.alloc _) ⟨W2.heap.size,0,none⟩ 1 1 (ecells (k,x)) rfl
      (by rw[Zcw (x:=(k,x)) d1.o.1]) (World.news_of_block (cs:=(ecells (k,x)).toArray) (t:=221) (fr:=(0,0)) (heap_alloc_new _ _)) (Zh3 _) (by omega) (by unfold maxLen;omega) (by omega) (by have:=a2.o.upd.size;simp;omega) (W2.heap.size+1) (by simp) ?_
     intro gg b5 w4 a5 a0 c7 d7
     have e0:=V (a2.o.grow a5 a0 c7)
     have b7:w4.heap[w.heap.size]?=some (.cells #[v2] 219 (0,0)):=by
      have hb:=Za a2.o.cell
      exact((a0.block _ (by simp;omega) (fun e=>a2.o.ne e.symm)).trans (Zm hb)).trans a2.o.cell
     have c4:=Zf b7
     have f4:w4.frozen? ⟨w.heap.size,0,none⟩=false:=Zb b7
     clear c3 a5 a0 c7 c2 c5 c8 b9 b7
     go_wp2
     go_roundg (t.length - (q+1))
     case measure=>omega
     case rel=>
      refine⟨q+1,by omega,rfl,by go_num,.slice (some ⟨gg,0,none⟩) ((D.pile k).length+q+1) b5,?_⟩
      have h5:=e0.o
      have e:(D.pile k++(t.take q).map fun v=>(k,v))++[(k,x)]=D.pile k++(t.take (q+1)).map fun v=>(k,v):=by
       rw[List.take_add_one,HX.o];simp
      have e2:(D.pile k++(t.take q).map fun v=>(k,v)).length=(D.pile k).length+q:=by
       rw[List.length_append,List.length_map,List.length_take];omega
      rw[e,e2] at h5
      exact h5
    ·have d8:q=t.length:=by omega
     subst d8
     go_roundg (D.arr.length - (k+1))
     case measure=>omega
     case rel=>
      have:=HN.o.2
      refine⟨k+1,by omega,rfl,congrArg _ ((IntWalk.wrap64_in _ (by omega)).trans (by omega)),v2,?_⟩
      have h1:=a7.o
      rw[List.take_length] at h1
      rw[Zfj,HV.o]
      exact h1
  ·have d3:k=D.arr.length:=by omega
   subst d3
   refine(HQ.o v wr HR.o).mono ?_
   rintro e w' ⟨rfl,hq⟩
   have e1:=V hq
   clear hq
   simp only[]
   go_step
   go_wp2
   exact e1.o
end
section
def Dk.keepsAt (D:Dk)(keep:List Bool)(n:Int):Bool:=D.row.zipIdx.any fun x=>x.1.2.2 == n && keep.getD x.2 false
def Dk.crash (D:Dk)(keep:List Bool):Dk:={D.arrive (fun n=>!D.keepsAt keep n) with dead:=false,arm:= -1,fail:= -1}
theorem Dk.Ok.crash (h:D.Ok K)(keep:List Bool):(D.crash keep).Ok K:=by
 have h1:=h.arrive (fun n=>!D.keepsAt keep n)
 exact⟨h1.len,h1.blks,h1.rblks,h1.sorted,h1.sent,h1.ops,⟨by show(-1:Int)≤ -1;omega,by show(-1:Int)≤9223372036854775807;omega⟩,⟨by show(-1:Int)≤ -1;omega,by show(-1:Int)≤9223372036854775807;omega⟩,h1.rowlen⟩
end
section
open Go.RowKit
def keptOf (M:DataW Empty)(n:Int):Bool:=match M.atKey (.int .i64 n) (.lit (.bool false)) with
 |.lit (.bool x)=>x
 | _=>false
theorem Zcq {P:Program}(he:P.underlying e=some .bool){z:DataW Empty×List MemPlace}(h:plainElem P e v=some z): ∃x,v=.bool x∧z=(.lit (.bool x),[]):=by
 unfold plainElem at h
 rw[he] at h
 cases v<;> simp at h
 case bool x=>exact⟨x,rfl,h.symm⟩
theorem Zp1 {mb:Nat}{M:DataW Empty}{n:Int}(hown:w.ownsMap Tryz.prog 3 (plainElem Tryz.prog 4) mb m M)(hn: -9223372036854775808≤n∧n≤9223372036854775807):
  (Instr.lookup 138 (.map (some mb)) (.int .i64 n) false).run Tryz.prog w=.ok (.bool (keptOf M n)) w:=by
 have a1:(Lit.int .i64 n).wf=true:=by simp[Lit.wf,IntKind.min,IntKind.max,IntKind.signed,IntKind.bits];omega
 obtain⟨v,ps,a0,hv⟩:=hown.lookup (Maps.int_keyed Tryz.underlying3) Tryz.underlying138 (z:=.bool false) (by kernel_rfl) (plainElem_bool Tryz.underlying4 false) (key:=.int .i64 n) (Maps.keyOf_int_mk Tryz.underlying3 a1)
 obtain⟨x,rfl,hx⟩:=Zcq Tryz.underlying4 hv
 rw[a0]
 have:keptOf M n=x:=by
  unfold keptOf
  rw[(Prod.mk.inj hx).1]
 rw[this]
end
section
structure Dk.Calm (D:Dk):Prop where
 dead:D.dead=false
 arm:D.arm= -1
 fail:D.fail= -1
def Dk.off (D:Dk)(i:Int):Prop:=i<0∨(D.arr.length:Int)≤i
instance (D:Dk) (i:Int):Decidable (D.off i):=by unfold Dk.off;infer_instance
theorem Dk.Calm.callE (h:D.Calm)(i:Int)(wr:Bool):D.callE i wr=if D.off i then 2 else 0:=by
 unfold Dk.callE Dk.off
 simp[h.dead,h.arm,h.fail]
theorem Dk.Calm.callD (h:D.Calm)(i:Int)(wr:Bool):D.callD i wr=if D.off i then D else {D with ops:=D.ops+1}:=by
 obtain⟨h1,h2,h3⟩:=h
 obtain⟨a3,a2,sent,ops,a4,a1,a0⟩:=D
 simp only at h1 h2 h3
 subst h1 h2 h3
 unfold Dk.callD Dk.off
 have e:max ((-1:Int) - 1) (-1)= -1:=by decide
 simp only[e]
 cases wr<;> simp
theorem Dk.Calm.callR (h:D.Calm)(i:Int)(wr:Bool):D.callR i wr=decide (¬D.off i):=by
 unfold Dk.callR Dk.off
 simp[h.dead,h.arm,h.fail]
theorem Dk.Calm.write (h:D.Calm)(i:Int)(b:List Int):D.write i b=if D.off i then D else {D with ops:=D.ops+1,row:=D.row++[(i.toNat,b,D.sent+1)],sent:=D.sent+1}:=by
 unfold Dk.write
 rw[h.callR,h.callD]
 by_cases ho:D.off i
 ·simp[ho]
 ·simp[ho,Dk.send]
theorem Dk.Calm.shows_write (h:D.Calm)(i:Int)(b:List Int)(k:Nat):(D.write i b).shows k=if¬D.off i∧i.toNat=k then b else D.shows k:=by
 rw[h.write]
 by_cases ho:D.off i
 ·simp[ho]
 ·simp only[ho,if_false,not_false_eq_true,true_and]
  by_cases hk:i.toNat=k
  ·subst hk
   have e:(([(i.toNat,b,D.sent+1)]:List (Nat×List Int×Int)).filter (fun x=>x.1 == i.toNat)).map (·.2)=[(b,D.sent+1)]:=by simp
   simp only[Dk.shows,Dk.vers,List.filter_append,List.map_append,e,if_true]
   rw[←List.cons_append,List.getLast?_concat]
   rfl
  ·simp[Dk.shows,Dk.vers,hk,List.filter_append]
theorem Zrr (D:Dk)(i:Nat):D.kept (fun _=>false) i=D.shows i:=by
 have hc:D.count (fun _=>false) i=(D.vers i).length - 1:=by
  unfold Dk.count
  have e: ∀l:List (List Int×Int),l.takeWhile (fun v=>!(fun _:Int=>false) v.2)=l:=fun l=>by induction l<;> simp_all
  rw[e]
  simp
 unfold Dk.kept Dk.shows
 rw[hc,List.getLast?_eq_getElem?,List.getD_eq_getElem?_getD]
theorem Dk.Calm.sync (h:D.Calm)(hn:1≤D.arr.length):D.sync={D with ops:=D.ops+1,arr:=(List.range D.arr.length).map D.shows,row:=[]}:=by
 have ho: ¬D.off 0:=by unfold Dk.off;omega
 unfold Dk.sync
 rw[h.callE,h.callD]
 simp only[ho,if_false,if_true,Dk.arrive]
 congr 1
 refine List.map_congr_left (fun i _=>?_)
 rw[Zrr]
 rfl
end
section
open Go.RowKit
theorem Zk8 {kb mb:Nat}{M:DataW Empty}(v:List Int×Int)(w:World)(hv:okBlk v.1)(hn:0≤v.2∧v.2≤1099511627774)(hb:w.heap[kb]?=some (.cells #[.map (some mb)] 138 (0,0)))(hown:w.ownsMap Tryz.prog 3 (plainElem Tryz.prog 4) mb m M):
  Calls Tryz.prog 78 (#[.agg (vcells v).toArray]++#[.pointer (some ⟨kb,0,none⟩)]) w fun e w'=>e=.returned (.bool (!keptOf M v.2))∧U0 w w':=by
 have hl:=Zp1 (hown.alloc (.cells (vcells v).toArray 124)) (n:=v.2) (by omega)
 have hc:(w.alloc (.cells (vcells v).toArray 124)).cell? ⟨w.heap.size,64,none⟩=some (.int .i64 v.2):=by
  rw[Zr (Zc rfl)];simp[vcells,hv.1]
 have hk:(w.alloc (.cells (vcells v).toArray 124)).cell? ⟨kb,0,none⟩=some (.map (some mb)):=Zf ((Zm (Za hb)).trans hb)
 clear hb hown hv hn
 show Calls Tryz.prog 78 #[.agg (vcells v).toArray,.pointer (some ⟨kb,0,none⟩)] w _
 generalize keptOf M v.2=kk at *
 generalize v.2=nn at *
 generalize vcells v=cs at *
 go_enter Tryz.func78,Tryz.ntmps78
 go_wp2
 go_ret
 exact⟨rfl,(Upd.refl _ w).alloc _⟩
end
section
open Go.RowKit Go.Deep
theorem Zqm {g:Nat}(w:World)(hr:w.ownsRow 0 124 65 (.slice (some ⟨g,0,none⟩) m cap) m xs)(hm:0<m)(hm2:m≤1099511627776)(h1: ∀u∈xs,u.oneCell'=true):
  Calls Tryz.prog 103 #[.slice (some ⟨g,0,none⟩) m cap] w fun e w'=> ∃g' cap',e=.returned (.slice (some ⟨g',0,none⟩) m cap')∧w.heap.size≤g'∧w'.ownsRow 0 124 65 (.slice (some ⟨g',0,none⟩) m cap') m xs∧U0 w w':=by
 have HR:=V hr
 have H1:=V h1
 clear hr h1
 have b0:(binOp .eql 125 (.slice (some ⟨g,0,none⟩) m cap) (.slice none 0 0)).run Tryz.prog w=.ok (.bool false) w:=Lib.run_eql_slice_nil w _ _ _ _ _ _ _ Tryz.underlying125
 go_enter Tryz.func103,Tryz.ntmps103
 go_upto_region 3 with fail
 clear b0
 iterate 7 go_step
 obtain⟨i0,a8,a5,a7,a3⟩:=info_parts Tryz.info130p
 have a0:(w.alloc (.cells #[] 124)).ownsRow w.heap.size 124 65 (.slice (some ⟨w.heap.size,0,none⟩) 0 0) 0 []:=
  ⟨by simp,.inr ⟨w.heap.size,0,#[],rfl,Nat.le_refl _,Zc rfl,Nat.le_refl _,Nat.zero_le _,rfl,rfl⟩⟩
 have a4:xs.length=m * 65:=HR.o.1
 refine wpList_append_lies _ rfl (.tmp 5) (.tmp 6) 125 rfl w.heap.size 124 i0 (.agg Z130) 65 72 Tryz.underlying125 a8 a5 a7 a3 Z130_cells (by omega) _ 0 [] rfl a0 ⟨g,0,none⟩ m cap xs rfl a4
  ((HR.o.alloc _).cells rfl) H1.o (by omega) (by unfold maxLen;omega) (by omega) (by simp) (w.heap.size+1) (by simp) ?_
 intro gg cap' w1 a2 a1 a6 b1
 have HO:=V a2
 have HG:=V a1
 have HA:=V a6
 clear a2 a1 a6 a8 a5 a7 a3 a0 a4
 simp only[Nat.zero_add]
 go_wp2
 go_ret
 refine⟨gg,cap',rfl,?_,?_,?_⟩
 ·rcases HA.o with e | e
  ·exact Nat.le_of_eq (Option.some.inj e)
  ·omega
 ·have h1:=HO.o
  rw[Nat.zero_add,List.nil_append] at h1
  obtain⟨a,b⟩:=h1
  refine⟨a,?_⟩
  rcases b with ⟨b,_⟩ | ⟨g2,c2,a9,e,_,r⟩
  ·simp at b
  ·exact .inr ⟨g2,c2,a9,e,Nat.zero_le _,r⟩
 ·have h2:Upd (fun j=>w.heap.size≤j) w w1:=(((Upd.refl _ w).alloc _).step (Upd.of_grown (F:=fun j=>w.heap.size≤j) HG.o (fun k hk=>Nat.le_of_eq (Option.some.inj hk))) n3Z)
  exact h2.mono (fun j hj e=>by omega)
structure CopyAt (w wr:World) (D:Dk) (k:Nat) (g c:Nat→Nat):Prop where
 upd:U0 w wr
 size:w.heap.size+2≤wr.heap.size
 main:wr.heap[w.heap.size]?=some (mainObj (w.heap.size+1) D.arr.length D.sent D.ops D.arm D.fail D.dead)
 sec:wr.heap[w.heap.size+1]?=some (.cells ((List.range D.arr.length).map fun i=>if i<k then Value.slice (some ⟨g i,0,none⟩) (D.vers i).length (c i) else .slice none 0 0).toArray 125 (0,0))
 rows: ∀i,i<k→wr.ownsRow 0 124 65 (.slice (some ⟨g i,0,none⟩) (D.vers i).length (c i)) (D.vers i).length ((D.vers i).flatMap vcells)
 news: ∀i,i<k→w.heap.size+2≤g i∧g i<wr.heap.size
 inj: ∀i j,i<k→j<k→g i=g j→i=j
theorem CopyAt.step {wr:World}{g' c':Nat}(h:CopyAt w wr D k g c)(hk:k<D.arr.length)(hu:U0 wr W)(hg:wr.heap.size≤g')
  (hr:W.ownsRow 0 124 65 (.slice (some ⟨g',0,none⟩) (D.vers k).length c') (D.vers k).length ((D.vers k).flatMap vcells)):
  CopyAt w (W.setCell ⟨w.heap.size+1,k,none⟩ (.slice (some ⟨g',0,none⟩) (D.vers k).length c')) D (k+1) (fun j=>if j=k then g' else g j) (fun j=>if j=k then c' else c j):=by
 have hz:=h.size
 have a3:=hu.size
 have a5:g'<W.heap.size:=by
  rcases hr.2 with ⟨e,_⟩ | ⟨gg,a6,a4,hv,hb,hh,r⟩
  ·simp at e
  ·simp at hv;rw[hv.1];exact Za hh
 have a2:(W.setCell ⟨w.heap.size+1,k,none⟩ (.slice (some ⟨g',0,none⟩) (D.vers k).length c')).heap.size=W.heap.size:=by simp[World.setCell]
 refine⟨(h.upd.trans hu).setCell (p:=⟨w.heap.size+1,k,none⟩) (.inr (Nat.le_succ _)) _,by rw[a2];omega,?_,?_,?_,?_,?_⟩
 ·rw[Yd (by simp)];exact kb hu h.main
 ·rw[Ze (kb hu h.sec)]
  congr 2
  apply Array.toList_inj.1
  apply List.ext_getElem
  ·simp
  ·intro j h1 h2
   simp only[Array.toList_setIfInBounds,List.getElem_set,List.getElem_map,List.getElem_range]
   by_cases e:k=j
   ·subst e;simp
   ·rw[if_neg e]
    by_cases hj:j<k
    ·have e2: ¬j=k:=by omega
     rw[if_pos hj,if_pos (by omega)]
     simp[e2]
    ·rw[if_neg hj,if_neg (by omega)]
 ·intro i hi
  by_cases a0:i=k
  ·subst a0
   simp only[if_true]
   exact Za4 hr (Zd W (w.heap.size+1) i _) (fun e=>by omega)
  ·simp only[a0,if_false]
   have hn:=h.news i (by omega)
   exact Za4 (Za4 (h.rows i (by omega)) hu id) (Zd W (w.heap.size+1) k _) (fun e=>by omega)
 ·intro i hi
  rw[a2]
  by_cases a0:i=k
  ·simp only[a0,if_true];omega
  ·simp only[a0,if_false]
   have hn:=h.news i (by omega)
   omega
 ·intro i j hi hj
  by_cases a0:i=k<;> by_cases a1:j=k
  ·intro _;omega
  ·simp only[a0,a1,if_true,if_false]
   have hn:=h.news j (by omega)
   intro e;omega
  ·simp only[a0,a1,if_true,if_false]
   have hn:=h.news i (by omega)
   intro e;omega
  ·simp only[a0,a1,if_false];exact h.inj i j (by omega) (by omega)
theorem CopyAt.dsk (h:CopyAt w w' D D.arr.length g c): ∃F,Dsk w' w.heap.size D F∧(∀k,F k→w.heap.size≤k)∧U0 w w':=by
 refine⟨_,⟨w.heap.size+1,g,c,⟨h.main,?_,h.rows,by omega,?_,?_,h.inj⟩,fun _=>Iff.rfl⟩,?_,h.upd⟩
 ·rw[h.sec]
  congr 3
  refine List.map_congr_left (fun i hi=>?_)
  rw[if_pos (by simpa using hi)]
 ·intro i hi;have:=h.news i hi;omega
 ·intro i hi;have:=h.news i hi;omega
 ·rintro k (rfl | rfl | ⟨i,hi,rfl⟩)
  ·exact Nat.le_refl _
  ·exact Nat.le_succ _
  ·have:=h.news i hi;omega
theorem CopyAt.start (w:World)(D:Dk):CopyAt w
  (((w.alloc (mainObj (w.heap.size+1) D.arr.length D.sent D.ops D.arm D.fail D.dead)).alloc (.cells (madeCells #[.slice none 0 0] D.arr.length) 125))) D 0 (fun _=>0) (fun _=>0):=by
 refine⟨((Upd.refl _ w).alloc _).alloc _,by simp,(Zm (by simp)).trans (Zc rfl),?_,fun i hi=>by omega,fun i hi=>by omega,fun i j hi=>by omega⟩
 rw[Zc (by simp)]
 congr 2
 apply Array.toList_inj.1
 rw[toList_madeCells_one]
 simp[List.map_const']
theorem Zr8 (w:World)(h:Dsk w p D F)(hok:D.Ok 1099511627774):
  Calls Tryz.prog 38 #[.pointer (some ⟨p,0,none⟩)] w fun e w'=>e=.returned (.pointer (some ⟨w.heap.size,0,none⟩))∧ ∃g c,CopyAt w w' D D.arr.length g c:=by
 obtain⟨s,g0,c0,hD,hF⟩:=h
 have hm:=hD.main
 obtain⟨m0,m1,m2,m3,m4,m5⟩:=Z0 hm
 have lp:=Za hm
 have hn:=hok.len
 have b1:=run_make_row' (P:=Tryz.prog) 120 125 (.slice none 0 0) 24 Tryz.underlying120 Tryz.info125 rfl .i64 .i64 D.arr.length (by omega) (by omega)
 have HD:=V hD;have HO:=V hok;have HN:=V hn
 clear hD hok hn hF hm
 go_enter Tryz.func38,Tryz.ntmps38
 go_upto_region 5 with fail
 clear b1
 go_wp2
 clear m0 m1 m2 m3 m4 m5 lp
 go_loopg [23] D.arr.length (fun gk i wr=> ∃k:Nat,k≤D.arr.length∧gk=D.arr.length - k∧i=.int .i64 k∧ ∃g c,CopyAt w wr D k g c)
 case atStart=>exact⟨0,Nat.zero_le _,rfl,rfl,_,_,CopyAt.start w D⟩
 case round=>
  obtain⟨k,hk,rfl,rfl,g,c,hC⟩:=hrel
  have a2:=HD.o.kept (G:=fun _=>False) hC.upd n3Z
  have b2:k<D.arr.length→wr.cell? ⟨s,k,none⟩=some (.slice (some ⟨g0 k,0,none⟩) (D.vers k).length (c0 k)):=fun h=>by
   rw[Zr a2.sec];simp[h]
  have HC:=V hC;have a7:=V a2
  clear hC a2
  go_upto_region 8 with fail
  ·have a0:k<D.arr.length:=by assumption
   have b3:=Zas D k
   have b0:=HO.o.rowlen
   have a5:=Zqm wr.drew (a7.o.rows k a0) (List.length_pos_iff.2 (Zf4 D k)) (by omega) (by
    intro u hu
    obtain⟨v,_,hv⟩:=List.mem_flatMap.1 hu
    exact Zba v u hv)
   have a4:=V a5
   clear a5 b2 b3 b0
   have hA:wr.drew.cell? ⟨w.heap.size,0,none⟩=some (.slice (some ⟨w.heap.size+1,0,none⟩) D.arr.length D.arr.length):=(Z0 HC.o.main).1
   refine Zj 5 (fun W'=>W'.cell? ⟨w.heap.size,0,none⟩=some (.slice (some ⟨w.heap.size+1,0,none⟩) D.arr.length D.arr.length)) [false,false,false,false,false,false,false] rfl (by kernel_rfl) ?_
   refine wqZ 0 (.pointer (some ⟨w.heap.size,0,none⟩)) hA (fun w5 q1=>?_) ?_
   ·go_simp
   simp only[zz]
   refine wqZ 1 (.slice (some ⟨w.heap.size+1,0,none⟩) D.arr.length D.arr.length) hA (fun w5 q1=>?_) ?_
   ·go_simp
   simp only[zz]
   refine wqZ 2 (.int .i64 (k:Int)) hA (fun w5 q1=>?_) ?_
   ·go_simp
   simp only[zz]
   refine wqZ 3 (.slice (some ⟨g0 k,0,none⟩) (D.vers k).length (c0 k)) hA (fun w5 q1=>?_) ?_
   ·go_simp
   simp only[zz]
   refine Za0 (i:=4) rfl (by kernel_rfl) rfl (fun K hK=>?_)
   have HK:=V hK
   clear hK
   go_step
   refine a4.o.mono ?_
   rintro e w' ⟨g',a9,rfl,h1,h2,h3⟩
   have hu:U0 wr w':=h3.undrew
   have a3:w'.cell? ⟨w.heap.size,0,none⟩=some (.slice (some ⟨w.heap.size+1,0,none⟩) D.arr.length D.arr.length):=(Z0 (kb hu HC.o.main)).1
   have a1:=kb hu HC.o.sec
   have b4:w'.cell? ⟨w.heap.size+1,k,none⟩=some (.slice none 0 0):=by rw[Zr a1];simp[a0]
   have b5:w'.frozen? ⟨w.heap.size+1,k,none⟩=false:=Zb a1
   have a8:=V (HC.o.step a0 hu h1 h2)
   simp only[]
   refine HK.o _ _ a3 ?_
   clear HK h2 h3 hu a1 a3 hA a4
   simp only[zz]
   refine tlZ 5 ?_
   simp only[List.drop]
   go_wp2
   go_roundg (D.arr.length - (k+1))
   case measure=>omega
   case rel=>
    have:=HN.o.2
    exact⟨k+1,by omega,rfl,congrArg _ ((IntWalk.wrap64_in _ (by omega)).trans (by omega)),_,_,a8.o⟩
  ·have a6:k=D.arr.length:=by omega
   subst a6
   go_ret
   exact⟨rfl,g,c,HC.o⟩
end
end Go.Proofs.YtbimkhdiplnbfaaGreat
