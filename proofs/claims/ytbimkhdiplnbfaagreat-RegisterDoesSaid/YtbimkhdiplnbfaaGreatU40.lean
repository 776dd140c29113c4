/- Walks. -/
import Derived.Test.YtbimkhdiplnbfaaGreatU26
import Derived.Test.YtbimkhdiplnbfaaGreatU39
set_option linter.unusedVariables false
set_option linter.unusedSimpArgs false
namespace Go.Proofs.YtbimkhdiplnbfaaGreat
set_option maxRecDepth 1000000
set_option maxHeartbeats 16000000
variable {D:Dk} {K:Nat}
section
open Go.RowKit Go.Shelf
def heldF (D:Dk)(all:Bool):List (List Int):=(List.range D.arr.length).map fun i=>(D.crash (List.replicate D.row.length all)).shows i
theorem Zfw (D:Dk)(all:Bool):(heldF D all).length=D.arr.length:=by simp[heldF]
theorem Zp6 (h:D.Ok K)(all:Bool): ∀b∈heldF D all,b.length=64:=fun b hb=>by
 simp only[heldF,List.mem_map,List.mem_range] at hb
 obtain⟨i,hi,rfl⟩:=hb
 exact(Zdn (h.crash _) (by simp[Dk.crash,Dk.arrive];exact hi)).1
theorem Tryz.info4q:(Tryz.prog.info? 4).map (fun i=>(i.zero,i.size,i.bytes))=some (some (.bool false),1,1):=by kernel_rfl
theorem Tryz.info48z:(Tryz.prog.info? 48).map (fun i=>(i.zero,i.size,i.bytes))=some (some (.agg (bcells zblk).toArray),64,64):=by kernel_rfl
theorem Zga (cs:List Value)(w:World)(hc:cs.length=64):
  (Instr.buildSlice 201 1 #[(0,.agg cs.toArray)]).run Tryz.prog w=.ok (.slice (some ⟨w.heap.size,0,none⟩) 1 1) (w.alloc (.cells cs.toArray 48)):=by
 have hf: ∀Z:Array Value,Z.size=64→List.foldl (fun(cs:Array Value) (x:Value×Nat)=>cs.setIfInBounds x.snd x.fst) Z cs.zipIdx=cs.toArray:=fun Z hz=>by
  apply Array.toList_inj.1
  have h:=Zan cs 0 0 Z (by simp[hz,hc])
  simp only[Nat.zero_add] at h
  rw[h]
  have e:Z.toList.drop 64=[]:=by rw[List.drop_eq_nil_iff];simp[hz]
  simp[hc,e]
 simp[Instr.buildSlice,go_sem]
 rw[hf _ (by simp)]
 simp[hc]
def FillAt (w:World)(kb n:Nat)(all:Bool)(k:Nat)(W:World):Prop:=(∃cs:Array Value,cs.size=n∧(∀i,i<k→cs[i]?=some (.bool all))∧(∀i,i<n→ ∃b,cs[i]?=some (.bool b))∧W.heap[kb]?=some (.cells cs 4 (0,0)))∧Upd (fun j=>j=kb) w W
theorem FillAt.bools {w W:World}{kb n:Nat}{all:Bool}(h:FillAt w kb n all n W):BoolsAt W (some ⟨kb,0,none⟩) (List.replicate n all):=fun i b hb=>by
 obtain⟨⟨cs,h1,h2,h3,h4⟩,h5⟩:=h
 have hi:i<n:=by have:=(List.getElem?_eq_some_iff.1 hb).1;simpa using this
 refine⟨kb,0,rfl,Za h4,?_⟩
 rw[Zr h4,Nat.zero_add,h2 i hi]
 simp[hi] at hb
 rw[hb]
structure HeldAt (w:World) (p:Nat) (N K:Nat) (F:Nat→Prop) (S:Int→List Int) (L:List (List Int)) (k:Nat) (v:Value) (W:World):Prop where
 dsk: ∃D',Dsk W p D' F∧D'.Good N∧D'.S=S∧D'.Ok (K+k)
 own:W.ownsRow w.heap.size 48 64 v k ((L.take k).flatMap bcells)
 ne: ∀j,v.ownBlock=some j→ ¬F j
 upd:U0 w W
theorem Zlb {p:Nat}{F:Nat→Prop}(all:Bool)(w:World)(hD:Dsk w p D F)(hok:D.Ok K)(hK:K≤1000000000):
  Calls Tryz.prog 122 #[.pointer (some ⟨p,0,none⟩),.bool all] w fun e w'=> ∃a c,e=.returned (.slice a D.arr.length c)∧w'.ownsRow w.heap.size 48 64 (.slice a D.arr.length c) D.arr.length ((heldF D all).flatMap bcells)∧U0 w w':=by
 have HC:=V (Zr8 w hD (hok.mono (by omega)))
 have d3:=V hok;have HK:=V hK
 obtain⟨n,hn⟩: ∃n,n=D.row.length:=⟨_,rfl⟩
 obtain⟨N,hN⟩: ∃N,N=D.arr.length:=⟨_,rfl⟩
 have i3:n≤1000000000:=by have:=hok.rowlen;omega
 have e3:=hok.len
 have k6: ∀W:World,(Instr.makeSlice 40 (.int .i64 n) (.int .i64 n)).run Tryz.prog W=.ok (.slice (some ⟨W.heap.size,0,none⟩) n n) (W.alloc (.cells (madeCells #[.bool false] n) 4)):=fun W=>run_make_row' (P:=Tryz.prog) 40 4 (.bool false) 1 Tryz.underlying40 Tryz.info4q rfl .i64 .i64 n (by omega) (by omega) W
 rw[←hN] at e3 ⊢
 have HN:=V hN;have d6:=V e3;have i2:=V hn;have g5:=V i3
 clear hD hok hK hn hN e3 i3
 go_enter Tryz.func122,Tryz.ntmps122
 go_wp2_with (go_at_call 38;fail)
 refine HC.o.mono ?_
 rintro e w1 ⟨rfl,g,c,e6⟩
 obtain⟨F1,f8,g0,g9⟩:=e6.dsk
 have c0:=V f8;have f0:=V g0;have j1:=V g9
 obtain⟨p1,d8⟩: ∃p1,p1=w.heap.size:=⟨_,rfl⟩
 rw[←d8] at c0 ⊢
 have k8:=V d8
 clear f8 g0 g9 e6 HC d8
 simp only[]
 go_wp2_with (go_at_call 68;fail)
 refine(Zdy w1 c0.o (d3.o.mono (by have:=HK.o;omega))).mono ?_
 rintro e w2 ⟨u,rfl,b5,a1⟩
 obtain⟨sa,sc,rfl⟩:=rowV b5
 rw[←i2.o]
 have d1:=V (j1.o.trans a1);have c3:=V (c0.o.kept a1 n3Z)
 clear b5 a1 c0
 simp only[]
 go_upto_region 3 with fail
 obtain⟨w3,c1⟩: ∃w3,w3=w2.alloc (.cells (madeCells #[.bool false] n) 4):=⟨_,rfl⟩
 rw[←c1]
 obtain⟨kb,c5⟩: ∃kb,kb=w2.heap.size:=⟨_,rfl⟩
 have f1:w3.heap[kb]?=some (.cells (madeCells #[.bool false] n) 4 (0,0)):=by rw[c1,c5];exact Zc rfl
 have d4:U0 w2 w3:=by rw[c1];exact(Upd.refl _ w2).alloc _
 rw[←c5]
 have a3:FillAt w3 kb n all 0 w3:=⟨⟨_,by simp[madeCells],fun i hi=>by omega,fun i hi=>⟨false,by simp[madeCells,hi,Nat.mod_one]⟩,f1⟩,Upd.refl _ _⟩
 have g2:=V a3;have j7:=V (d1.o.trans d4);have f3:=V (c3.o.kept d4 n3Z)
 have f7:=V (show¬F1 kb∧w.heap.size≤kb from⟨fun e=>by have:=c3.o.lt _ e;omega,by have:=d1.o.size;omega⟩)
 clear c1 f1 d4 a3 c5 d1 c3
 go_upto_block 0 with fail
 go_upto_region 4 with fail
 go_loopg [20] n (fun gk i wr=> ∃k:Nat,k≤n∧gk=n - k∧i=.int .i64 k∧FillAt w3 kb n all k wr)
 case atStart=>exact⟨0,Nat.zero_le _,rfl,rfl,g2.o⟩
 case round=>
  obtain⟨k,hk,rfl,rfl,hf⟩:=hrel
  have HF:=V hf
  clear hf
  by_cases c2:k<n
  ·have j2:(k:Int)<n:=by omega
   obtain⟨⟨cs,h1,h2,h3,h4⟩,h5⟩:=HF.o
   obtain⟨b,hb⟩:=h3 k c2
   have hc:wr.cell? ⟨kb,k,none⟩=some (.bool b):=by rw[Zr h4];exact hb
   have k7:wr.frozen? ⟨kb,k,none⟩=false:=Zb h4
   clear h1 h2 h3 h4 h5 hb
   have e0:IntKind.i64.wrap ((k:Int)+1)=(k:Int)+1:=by rw[IntKind.wrap_i64];have:=g5.o;omega
   go_wp2
   go_roundg (n - (k+1))
   case measure=>omega
   case rel=>
    refine⟨k+1,by omega,rfl,by go_num,?_⟩
    obtain⟨⟨cs,h1,h2,h3,h4⟩,h5⟩:=HF.o
    refine⟨⟨cs.setIfInBounds k (.bool all),by simpa using h1,fun i hi=>?_,fun i hi=>?_,Ze h4⟩,h5.trans (Zd wr kb k _)⟩
    ·by_cases e:i=k
     ·subst e
      simp[h1,c2]
     ·rw[Array.getElem?_setIfInBounds_ne (fun e2=>e e2.symm)]
      exact h2 i (by omega)
    ·by_cases e:i=k
     ·subst e
      exact⟨all,by simp[h1,c2]⟩
     ·rw[Array.getElem?_setIfInBounds_ne (fun e2=>e e2.symm)]
      exact h3 i hi
  ·obtain rfl:n=k:=by omega
   have f5:=HF.o.bools
   have d7:Upd (fun j=>j=kb) w3 wr:=HF.o.2
   have g4:=f3.o.kept d7 (fun j hj e=>by subst e;exact f7.o.1 hj)
   have e5:=Zqk (kc:=n) wr (some ⟨kb,0,none⟩) (List.replicate n all) f5 (by rw[List.length_replicate];have:=g5.o;omega) g4 (d3.o.mono (by have:=HK.o;omega))
   rw[List.length_replicate] at e5
   have i6:=V e5
   have f6:=V (show U0 w wr from j7.o.step d7 (fun j hj e=>by have:=f7.o.2;omega))
   clear f5 d7 g4 e5 f3 g2
   go_wp2_with (go_at_call 16;fail)
   refine i6.o.mono ?_
   rintro e w5 ⟨rfl,F2,b9,i5,h8⟩
   have b0:=f6.o.step h8 (fun j hj e=>by have:=f0.o j e;omega)
   have a7: ∀j,F2 j→w.heap.size≤j:=fun j hj=>by
    rcases i5 j hj with e | e
    ·exact f0.o j e
    ·have:=f6.o.size;omega
   obtain⟨CD,b1⟩: ∃CD,CD=D.crash (List.replicate n all):=⟨_,rfl⟩
   have b8:CD.Good N:=by rw[b1,HN.o];exact⟨rfl,rfl,rfl,by simp[Dk.crash,Dk.arrive]⟩
   have c4:CD.Ok K:=by rw[b1];exact d3.o.crash _
   rw[←b1] at b9
   have g8:heldF D all=(List.range N).map fun i=>CD.shows i:=by rw[b1,HN.o,i2.o];rfl
   have a0:=Zin w5 b9
   rw[b8.len] at a0
   have a8:HeldAt w p1 N K F2 CD.S (heldF D all) 0 (.slice none 0 0) w5:=⟨⟨CD,b9,b8,rfl,c4⟩,World.ownsRow_nil _ _ _ _,fun j hj=>by simp[Value.ownBlock] at hj,b0⟩
   have j8:=V a0;have k4:=V a7;have k5:=V a8;have j3:=V g8;have k2:=V c4;have k0:=V b8
   clear b9 i5 h8 b0 a7 b8 c4 b1 g8 a0 a8 i6 HF
   simp only[]
   go_wp2_with (go_at_call 105;fail)
   refine j8.o.mono ?_
   rintro e w6 ⟨rfl,rfl⟩
   simp only[]
   go_upto_block 2 with fail
   go_upto_region 12 with fail
   go_loopg [8,34] N (fun gk v8 i wr=> ∃k:Nat,k≤N∧gk=N - k∧i=.int .i64 k∧(∃a c,v8=.slice a k c)∧HeldAt w p1 N K F2 CD.S (heldF D all) k v8 wr)
   case atStart=>exact⟨0,Nat.zero_le _,rfl,rfl,⟨none,0,rfl⟩,k5.o⟩
   case round=>
    obtain⟨k,hk,rfl,rfl,⟨va,vc,rfl⟩,hh⟩:=hrel
    have HH:=V hh
    clear hh
    obtain⟨wo,rfl⟩: ∃wo:World,wo=wr:=⟨_,rfl⟩
    by_cases j9:k<N
    ·have i7:(k:Int)<N:=by omega
     obtain⟨D',hd,hg,hs,e4⟩:=HH.o.dsk
     obtain⟨r1,r2,r3,r4⟩:=hg.callR (i:=(k:Int)) (by omega)
     obtain⟨x,hx⟩: ∃x,x=CD.shows k:=⟨_,rfl⟩
     have g6:D'.reads (k:Int)=x:=by rw[r3,hs,hx];rfl
     have f2:x.length=64:=by rw[hx];exact(Zdn k2.o (by have:=k0.o.len;omega)).1
     have e1:=Zg3 (k:Int) wo hd (e4.mono (by have:=HK.o;have:=d6.o;omega))
     rw[r1,g6] at e1
     have e9:(heldF D all)[k]?=some x:=by rw[j3.o,hx];simp[j9]
     have i4:=V e1;have i8:=V f2;have j6:=V e9
     have c6:=V (show(D'.callD (k:Int) false).Good N∧(D'.callD (k:Int) false).S=CD.S∧(D'.callD (k:Int) false).Ok (K+(k+1)) from⟨r2,r4.trans hs,by have:=e4.callD (k:Int) false;exact this.mono (by omega)⟩)
     have e0:IntKind.i64.wrap ((k:Int)+1)=(k:Int)+1:=by rw[IntKind.wrap_i64];have:=d6.o;omega
     clear hd hg hs e4 r1 r2 r3 r4 g6 f2 e1 e9 hx
     go_wp2_with (go_at_call 17;fail)
     refine i4.o.mono ?_
     rintro e w7 ⟨rfl,h9,c9⟩
     have f9:=V h9
     have b3:=HH.o.upd.step c9 (fun j hj e=>by have:=k4.o j e;omega)
     have a9:=Zy HH.o.own c9 (fun j hj e=>HH.o.ne j hj e)
     have e8:=V b3;have g3:=V a9
     clear h9 c9 b3 a9 i4
     have a6:=V (show(bcells x).length=64 by rw[Z3];exact i8.o)
     have j4:=V (all_oneCell_toArray (Z6 x));have j0:=V (Z6 x)
     have b4:=V (show(heldF D all).take (k+1)=(heldF D all).take k++[x] by rw[List.take_add_one,j6.o];rfl)
     have c8:=V (show((bcells zblk).length=64) from rfl)
     have k1:=V (show((heldF D all).take (k+1)).flatMap bcells=((heldF D all).take k).flatMap bcells++bcells x by rw[b4.o];simp)
     clear b4
     generalize bcells x=B at *
     simp only[]
     iterate 13 go_step
     refine(?_:wpList _ _ _ _ _ (w7.alloc (.cells (bcells zblk).toArray 48)))
     have a5:(w7.alloc (.cells (bcells zblk).toArray 48)).heap[w7.heap.size]?=some (.cells (bcells zblk).toArray 48 (0,0)):=Zc rfl
     have h6:(w7.alloc (.cells (bcells zblk).toArray 48)).there w7.heap.size 0 B.toArray.size:=by
      have:=Zq a5
      rwa [show(bcells zblk).toArray.size=B.toArray.size by simp[a6.o,c8.o]] at this
     refine wpList_store_mid rfl 48 (.tmp 10) (.tmp 41) rfl w7.heap.size 0 B.toArray rfl rfl h6 (by rw[Tryz.info56p];simp[a6.o]) j4.o ?_
     have d2:=Zi (vs:=B) a5 (by simp[a6.o,c8.o])
     have a1:U0 w7 ((w7.alloc (.cells (bcells zblk).toArray 48)).setCells w7.heap.size 0 B):=by
      have:=Upd.setCells (F:=fun j=>w7.heap.size≤j) (b:=w7.heap.size) (Nat.le_refl _) B 0 ((Upd.refl _ w7).alloc (.cells (bcells zblk).toArray 48))
      exact this.mono (fun j hj e=>by omega)
     have h0:=V (e8.o.trans a1);have a4:=V (Zy g3.o a1 n3Z);have e7:=V (f9.o.kept a1 n3Z)
     obtain⟨b2,b7⟩: ∃b2,b2=w7.heap.size:=⟨_,rfl⟩
     simp only[]
     clear h6 a5 a1 f9 g3 e8
     generalize (w7.alloc (.cells (bcells zblk).toArray 48)).setCells w7.heap.size 0 B=W2 at *
     rw[←b7] at d2 ⊢
     have j5:=V d2
     clear d2 b7
     go_upto_region 17 with fail
     iterate 4 go_step
     refine wpList_load_mid rfl 48 (.tmp 10) rfl b2 0 rfl B _ (Zh j5.o) Tryz.underlying48 rfl (by rw[Tryz.info56p,a6.o]) ?_
     refine Yv rfl (Yq (Zga B _ a6.o) rfl (by simp[Act.eval,Act.put])) ?_
     obtain⟨i0,g7,f4,i1,g1⟩:=info_parts Tryz.info48z
     have k3:=d6.o
     have i9:(((heldF D all).take k).flatMap bcells).length=k * 64:=a4.o.1
     refine wpList_append_lies _ rfl (.tmp 45) (.tmp 47) 201 rfl w.heap.size 48 i0 (.agg (bcells zblk).toArray) 64 64 Tryz.underlying201 g7 f4 i1 g1 (by simp[Value.cells,c8.o]) (by omega) (.slice va k vc) _ _ rfl (a4.o.alloc _) ⟨W2.heap.size,0,none⟩ 1 1 B rfl
      (by rw[a6.o]) (World.news_of_block (cs:=B.toArray) (t:=48) (fr:=(0,0)) (heap_alloc_new _ _)) j0.o (by omega) (by unfold maxLen;omega) (by omega) (by have:=h0.o.size;simp;omega) (W2.heap.size+1) (by simp) ?_
     intro gg d0 w4 b6 a2 h7 c7
     have d5:Upd (fun j=>(Value.slice va k vc).ownBlock=some j) W2 w4:=((Upd.refl _ W2).alloc _).trans (Upd.of_grown a2 (fun j hj=>hj))
     have a8:HeldAt w p1 N K F2 CD.S (heldF D all) (k+1) (.slice (some ⟨gg,0,none⟩) (k+1) d0) w4:=by
      refine⟨⟨_,e7.o.kept d5 (fun j hj e=>HH.o.ne j e hj),c6.o.1,c6.o.2.1,c6.o.2.2⟩,?_,fun j hj e=>?_,h0.o.step d5 (fun j hj e=>?_)⟩
      ·rw[k1.o];exact b6
      ·simp[Value.ownBlock] at hj
       subst hj
       rcases h7 with q | q
       ·exact HH.o.ne _ q e
       ·have:=e7.o.lt _ e;omega
      ·have:=(World.ownsRow.lt a4.o j e).1;omega
     have d9:=V a8
     clear b6 a2 h7 c7 d5 a8 g7 f4 i1 g1 k3 i9
     go_wp2
     go_roundg (N - (k+1))
     case measure=>omega
     case rel=>exact⟨k+1,by omega,rfl,by go_num,⟨_,_,rfl⟩,d9.o⟩
    ·obtain rfl:N=k:=by omega
     go_wp2
     go_ret
     have a9:=HH.o.own
     rw[List.take_of_length_le (by rw[Zfw];have:=HN.o;omega)] at a9
     exact⟨va,vc,rfl,a9,HH.o.upd⟩
theorem Zfh {w:World}{B0:Nat}{e:TypeId}{sz g n cap o len:Nat}{xs bs:List Value}(h:w.ownsRow B0 e sz (.slice (some ⟨g,0,none⟩) n cap) n xs)(hb:(xs.drop o).take len=bs):w.rangeAt g o bs:=by
 intro j v hv
 subst hb
 have hj:j<len:=by
  have:=(List.getElem?_eq_some_iff.1 hv).1
  simp at this;omega
 have:xs[o+j]?=some v:=by simpa [List.getElem?_take,List.getElem?_drop,hj] using hv
 have:=h.cells (g:=g) rfl (o+j) v this
 rwa [Addr.add_mid,Nat.zero_add] at this
theorem Zjs: ∀(L:List (List Int)) (j:Nat) (x:List Int),L[j]?=some x→(∀b∈L,b.length=64)→((L.flatMap bcells).drop (j * 64)).take 64=bcells x
 | [],j,v,h,_=>by simp at h
 |y :: L,0,v,h,hl=>by
  simp at h;subst h
  have:=hl y (by simp)
  rw[List.flatMap_cons,Nat.zero_mul,List.drop_zero,List.take_append_of_le_length (by rw[Z3];omega),List.take_of_length_le (by rw[Z3];omega)]
 |y :: L,j+1,v,h,hl=>by
  have h1:=hl y (by simp)
  rw[List.flatMap_cons,List.drop_append,List.drop_eq_nil_of_le (by rw[Z3];omega),List.nil_append,Z3,h1,show(j+1) * 64 - 64=j * 64 by omega]
  exact Zjs L j v (by simpa using h) (fun b hb=>hl b (List.mem_cons_of_mem _ hb))
theorem Zex {p q:Nat}{F G:Nat→Prop}(w:World)(hD:Dsk w p D F)(hE:Dsk w q D G)(hok:D.Ok K)(hK:K≤1000000000):
  Calls Tryz.prog 45 #[.pointer (some ⟨p,0,none⟩),.pointer (some ⟨q,0,none⟩)] w fun e w'=>e=.returned (.bool true)∧U0 w w':=by
 have HD:=V hD;have HE:=V hE;have f3:=V hok;have HK:=V hK
 have b8:=fun W (h:Dsk W p D F)=>Zdy W h (hok.mono (by omega))
 have b3:=fun W (h:Dsk W q D G)=>Zdy W h (hok.mono (by omega))
 have a8:=fun W (h:Dsk W p D F) all=>Zlb all W h hok hK
 have b9:=fun W (h:Dsk W q D G) all=>Zlb all W h hok hK
 have a5:=Zln w hD;have a7:=Zln w hE;have c0:=Zm2 w hD;have b0:=Zm2 w hE
 obtain⟨dd,a1⟩: ∃x,x=D.dead:=⟨_,rfl⟩
 obtain⟨oo,d0⟩: ∃x,x=D.ops:=⟨_,rfl⟩
 obtain⟨n,hn⟩: ∃x,x=D.row.length:=⟨_,rfl⟩
 obtain⟨N,hN⟩: ∃x,x=D.arr.length:=⟨_,rfl⟩
 have b4:=hok.len
 have b7:=fun all=>Zfw D all
 have c3:=fun all=>Zp6 hok all
 rw[←a1] at a5 a7
 rw[←d0] at c0 b0
 simp only[←hn] at b8 b3
 simp only[←hN] at a8 b9 b7
 rw[←hN] at b4
 have e5:=V b8;have e8:=V b3;have d6:=V a8;have d5:=V b9;have f0:=V a5;have e6:=V a7;have e0:=V c0;have d9:=V b0;have a2:=V b4;have d8:=V b7;have d3:=V c3
 clear hD hE hok hK b8 b3 a8 b9 a5 a7 c0 b0 a1 d0 hn hN b4 b7 c3
 go_enter Tryz.func45,Tryz.ntmps45
 go_wp2_with (go_at_call 66;fail)
 refine f0.o.mono ?_
 rintro e w1 ⟨rfl,rfl⟩
 simp only[]
 go_wp2_with (go_at_call 66;fail)
 refine e6.o.mono ?_
 rintro e w1 ⟨rfl,rfl⟩
 simp only[]
 go_wp2_with (go_at_call 65;fail)
 refine e0.o.mono ?_
 rintro e w1 ⟨rfl,rfl⟩
 simp only[]
 go_wp2_with (go_at_call 65;fail)
 refine d9.o.mono ?_
 rintro e w1 ⟨rfl,rfl⟩
 simp only[]
 go_wp2_with (go_at_call 68;fail)
 refine(e5.o w HD.o).mono ?_
 rintro e w1 ⟨u,rfl,a0,d1⟩
 obtain⟨sa,sc,rfl⟩:=rowV a0
 have a9:=V d1
 clear a0 d1
 simp only[]
 go_wp2_with (go_at_call 68;fail)
 refine(e8.o w1 (HE.o.kept a9.o n3Z)).mono ?_
 rintro e w2 ⟨u,rfl,a0,c2⟩
 obtain⟨f4,f7,rfl⟩:=rowV a0
 have f1:=V (a9.o.trans c2)
 clear a0 c2 a9
 simp only[]
 go_upto_region 3 with fail
 go_upto_block 0 with fail
 go_upto_region 4 with fail
 go_loopg [32] 2 (fun gk i wr=> ∃k:Nat,k≤2∧gk=2 - k∧i=.int .i64 k∧U0 w wr)
 case atStart=>exact⟨0,Nat.zero_le _,rfl,rfl,f1.o⟩
 case round=>
  obtain⟨k,hk,rfl,rfl,hu⟩:=hrel
  have HU:=V hu
  clear hu
  by_cases f6:k<2
  ·have d7:(k:Int)<2:=by omega
   obtain⟨al,f5⟩: ∃al:Bool,∀W:World,(Instr.index 200 (.agg #[.bool false,.bool true]) (.int .i64 k)).run Tryz.prog W=.ok (.bool al) W:=by
    have:k=0∨k=1:=by omega
    rcases this with rfl | rfl
    ·exact⟨false,fun W=>by kernel_rfl⟩
    ·exact⟨true,fun W=>by kernel_rfl⟩
   go_wp2_with (go_at_call 122;fail)
   refine(d6.o wr (HD.o.kept HU.o n3Z) al).mono ?_
   rintro e wa ⟨xa,xc,rfl,hx,c4⟩
   have HX:=V hx;have b5:=V (HU.o.trans c4)
   clear hx c4
   simp only[]
   go_wp2_with (go_at_call 122;fail)
   refine(d5.o wa (HE.o.kept b5.o n3Z) al).mono ?_
   rintro e wb ⟨ya,yc,rfl,hy,a6⟩
   have HY:=V hy;have e9:=V (b5.o.trans a6);have d4:=V (Zy HX.o a6 n3Z)
   clear hy a6 HX b5
   have e4: ¬(N:Int)=0:=by have:=a2.o;omega
   have f8:((N:Int) == 0)=false:=by simpa using e4
   obtain⟨gx,rfl⟩: ∃gx,xa=some ⟨gx,0,none⟩:=by
    rcases d4.o.2 with ⟨h1,_⟩ | ⟨g',b1,e1,h1,_⟩
    ·injection h1 with _ h1 _
     have:=a2.o
     omega
    ·injection h1 with h1 _ _
     exact⟨g',h1⟩
   obtain⟨gy,rfl⟩: ∃gy,ya=some ⟨gy,0,none⟩:=by
    rcases HY.o.2 with ⟨h1,_⟩ | ⟨g',b1,e1,h1,_⟩
    ·injection h1 with _ h1 _
     have:=a2.o
     omega
    ·injection h1 with h1 _ _
     exact⟨g',h1⟩
   simp only[]
   go_upto_region 9 with fail
   go_upto_block 2 with fail
   go_upto_region 10 with fail
   obtain⟨wo,rfl⟩: ∃wo:World,wo=wb:=⟨_,rfl⟩
   go_loopg [53] N (fun gk i wr=> ∃j:Nat,j≤N∧gk=N - j∧i=.int .i64 j∧U0 wo wr)
   case atStart=>exact⟨0,Nat.zero_le _,rfl,rfl,Upd.refl _ _⟩
   case round=>
    obtain⟨j,hj,rfl,rfl,c7⟩:=hrel
    have a3:=V c7
    clear c7
    by_cases f2:j<N
    ·have e2:(j:Int)<N:=by omega
     obtain⟨x,hx⟩: ∃x,(heldF D al)[j]?=some x:=⟨_,List.getElem?_eq_getElem (by rw[d8.o];exact f2)⟩
     have b6:=Zjs _ j x hx (d3.o al)
     have a4:=d3.o al x (List.mem_of_getElem? hx)
     have c9:=Zfh (Zy d4.o a3.o n3Z) b6
     have c8:=Zfh (Zy HY.o a3.o n3Z) b6
     have c1: ∀W:World,(binOp .neq 48 (.agg (bcells x).toArray) (.agg (bcells x).toArray)).run Tryz.prog W=.ok (.bool false) W:=fun W=>by
      rw[Zjb W a4 a4];simp
     have e3:=V c1;have d2:=V (show(bcells x).length=64 by rw[Z3];exact a4)
     have c5:=V c9;have c6:=V c8
     clear hx b6 a4 c9 c8 c1
     generalize bcells x=B at *
     go_upto_region 12 with fail
     have hA:wr.drew.rangeAt gx (j * 64) B∧wr.drew.rangeAt gy (j * 64) B:=⟨c5.o,c6.o⟩
     refine Zj 8 (fun W=>W.rangeAt gx (j * 64) B∧W.rangeAt gy (j * 64) B) [false,false,false,false,false,false,false,false,false] rfl (by kernel_rfl) ?_
     refine tpZ 0 (.slice (some ⟨gx,0,none⟩) N xc) hA ?_
     simp only[zz]
     refine tpZ 1 (.int .i64 j) hA ?_
     simp only[zz]
     refine tpZ 2 (.pointer (some ⟨gx,j * 64,none⟩)) hA ?_
     simp only[zz]
     refine tqZ 3 (.agg B.toArray) [] hA (fun w5 q1=>?_) ?_
     ·exact Zv rfl rfl B q1.1 Tryz.underlying48 rfl (by rw[Tryz.info56p,d2.o])
     simp only[zz]
     refine tpZ 4 (.slice (some ⟨gy,0,none⟩) N yc) hA ?_
     simp only[zz]
     refine tpZ 5 (.int .i64 j) hA ?_
     simp only[zz]
     refine tpZ 6 (.pointer (some ⟨gy,j * 64,none⟩)) hA ?_
     simp only[zz]
     refine tqZ 7 (.agg B.toArray) [] hA (fun w5 q1=>?_) ?_
     ·exact Zv rfl rfl B q1.2 Tryz.underlying48 rfl (by rw[Tryz.info56p,d2.o])
     simp only[zz]
     refine tlZ 8 ?_
     simp only[List.drop]
     refine Yv rfl (Zfa rfl rfl rfl (e3.o _)) ?_
     have b2:IntKind.i64.wrap ((j:Int)+1)=(j:Int)+1:=by rw[IntKind.wrap_i64];have:=a2.o;omega
     have e7:=V a3.o.drew
     clear hA c5 c6
     go_wp2
     go_roundg (N - (j+1))
     case measure=>omega
     case rel=>exact⟨j+1,by omega,rfl,by go_num,e7.o⟩
    ·obtain rfl:N=j:=by omega
     have b2:IntKind.i64.wrap ((k:Int)+1)=(k:Int)+1:=by rw[IntKind.wrap_i64];omega
     go_wp2
     go_roundg (2 - (k+1))
     case measure=>omega
     case rel=>exact⟨k+1,by omega,rfl,by go_num,e9.o.trans a3.o⟩
  ·obtain rfl:k=2:=by omega
   go_wp2
   go_ret
   exact⟨rfl,HU.o⟩
end
end Go.Proofs.YtbimkhdiplnbfaaGreat
