/- Walks. -/
import Derived.Test.YtbimkhdiplnbfaaGreatU14
import Derived.Sort.LoopGhostIn
import Derived.Sort.CutIn
set_option linter.unusedVariables false
set_option linter.unusedSimpArgs false
namespace Go.Proofs.YtbimkhdiplnbfaaGreat
set_option maxRecDepth 1000000
set_option maxHeartbeats 16000000
variable {k:Nat} {S:Nat→Prop} {W W' w w1:World}
section
open Go.RowKit Go.Shelf
attribute [local go_sem] Oper.semAt_some
theorem Tryz.size221:(Tryz.prog.info? 221).map (·.size)=some 66:=by kernel_rfl
theorem Tryz.zsize221:Tryz.zeroCells221.size=66:=by kernel_rfl
def Keep (S:Nat→Prop)(W W':World):Prop:= ∀k,S k→W'.heap[k]?=W.heap[k]?
theorem Keep.refl (S:Nat→Prop)(W:World):Keep S W W:=fun _ _=>rfl
theorem Keep.trans {A B C:World}(h:Keep S A B)(k:Keep S B C):Keep S A C:=fun j hj=>(k j hj).trans (h j hj)
theorem Keep.lt (h:Keep S W W')(hk:S k)(hl:k<W.heap.size):k<W'.heap.size:=by
 have:=h k hk
 rw[Array.getElem?_eq_getElem hl] at this
 exact(Array.getElem?_eq_some_iff.1 this).1
theorem Keep.cell (h:Keep S W W'){o:Nat}(hk:S k):W'.cell? ⟨k,o,none⟩=W.cell? ⟨k,o,none⟩:=by
 simp[World.cell?,h k hk]
theorem Keep.rangeAt (h:Keep S W W'){o:Nat}{cs:List Value}(hk:S k)(hr:W.rangeAt k o cs):W'.rangeAt k o cs:=fun j v hv=>(h.cell hk).trans (hr j v hv)
theorem Ztf (F:Fence)(n:Nat)(hf:F.fn 141)(hro:F.round=none)(hn:1≤n)(l b gg cap:Nat)(S:Nat→Prop)(R:List El)(hlen:R.length≤1099511627776)(hg:S gg)(J Jx:List El→World→Prop)
  (W:World) (hS: ∀k,S k→k<W.heap.size) (hJ:AbidesFrom W.heap.size J)
  (hY: ∀pre x W1,J pre W1→pre.length<R.length→YieldAt F (n - 1) Tryz.prog l #[.int .i64 x.1.1,.agg (vcells x.1.2).toArray] W1 fun e W'=>
   (e=.returned (.bool true)∧J (pre++[x]) W'∧Keep S W1 W')∨(e=.returned (.bool false)∧Jx (pre++[x]) W'))
  (hc:W.cell? ⟨b,0,none⟩=some (.slice (some ⟨gg,0,none⟩) R.length cap)) (hrows: ∀i x,R[i]?=some x→W.rangeAt gg (i * 66) (encE x)) (h0:J [] W):
  CallsIn F n Tryz.prog 141 #[.func (.yield l) #[] #[],.pointer (some ⟨b,0,none⟩)] W fun e W'=>(∃v,e=.returned v)∧((∃ys,ys=R∧J ys W')∨(∃pre,pre <+: R∧Jx pre W')):=by
 have c6:=V hrows
 have HJ:=V hJ
 clear hrows hJ
 refine callsIn_of_wp Tryz.func141 rfl hf ?_ hro
 simp only[Tryz.ntmps141,List.size_toArray,List.length_cons,List.length_nil,Nat.reduceAdd,Nat.reduceSub,Array.replicate_succ,Array.replicate_zero,List.push_toArray,List.append_toArray,List.nil_append,List.cons_append]
 gi_wp2
 clear hc
 gi_loopg [7] R.length (fun gi i wr=> ∃k:Nat,k≤R.length∧gi=R.length - k∧i=.int .i64 k∧J (R.take k) wr∧Keep S W wr)
 case atStart=>exact⟨0,Nat.zero_le _,rfl,rfl,h0,Keep.refl _ _⟩
 case round=>
  obtain⟨k,hk,rfl,rfl,b5,c1⟩:=hrel
  have c2:=V b5
  have a7:=V c1
  clear b5 c1
  gi_upto_region 2 with fail
  ·have d1:k<R.length:=by assumption
   have d4:(k:Int)<R.length:=by omega
   obtain⟨x,hx⟩: ∃x,R[k]?=some x:=⟨R[k],by simp[d1]⟩
   have a6:=Zbi x
   have hi:(Tryz.prog.info? 221).map (·.size)=some (encE x).length:=by rw[Tryz.size221,a6]
   have b8:wr.rangeAt gg (k * 66) (encE x):=a7.o.rangeAt hg (c6.o k x hx)
   have HX:=V hx;have b7:=V a6;have HI:=V hi;have c4:=V b8
   clear hx a6 hi b8
   iterate 4 gi_step
   refine Zcu rfl (fun _ h=>by cases h) rfl (Zv rfl rfl (encE x) c4.o Tryz.underlying221 rfl HI.o) ?_
   iterate 3 gi_step
   have a1:(wr.alloc (.cells Tryz.zeroCells221 221)).heap[wr.heap.size]?=some (.cells Tryz.zeroCells221 221 (0,0)):=Zc rfl
   have b4:(wr.alloc (.cells Tryz.zeroCells221 221)).there wr.heap.size 0 (encE x).toArray.size:=by
    have:=Zq a1
    rwa [show Tryz.zeroCells221.size=(encE x).toArray.size by rw[Tryz.zsize221];simp[b7.o]] at this
   refine Zag rfl (fun _ h=>by cases h) rfl (Zbc rfl rfl rfl b4 (by rw[HI.o];simp) (all_oneCell_toArray (Zll x))) ?_
   have a5:=Zi (vs:=encE x) a1 (by rw[Tryz.zsize221,b7.o])
   have a0:U0 wr ((wr.alloc (.cells Tryz.zeroCells221 221)).setCells wr.heap.size 0 (encE x)):=by
    have:=Upd.setCells (F:=fun j=>wr.heap.size≤j) (b:=wr.heap.size) (Nat.le_refl _) (encE x) 0 ((Upd.refl _ wr).alloc (.cells Tryz.zeroCells221 221))
    exact this.mono (fun j hj e=>by omega)
   have c8:=V (HJ.o (R.take k) wr _ none c2.o ⟨a0.os,a0.tape,a0.output,a0.size,fun j hj _=>a0.block j hj id⟩ (fun r e=>by cases e))
   have b3:RowKit.Hid (Keep S W ((wr.alloc (.cells Tryz.zeroCells221 221)).setCells wr.heap.size 0 (encE x))):=
    V (a7.o.trans (fun j hj=>a0.block j (a7.o.lt hj (hS j hj)) id))
   clear a1 b4 a0
   obtain⟨b2,a2⟩: ∃b2,b2=wr.heap.size:=⟨_,rfl⟩
   simp only[]
   generalize (wr.alloc (.cells Tryz.zeroCells221 221)).setCells wr.heap.size 0 (encE x)=W2 at *
   rw[←a2] at a5 ⊢
   have c0:W2.cell? ⟨b2,0,none⟩=some (.int .i64 x.1.1):=by rw[Zr a5];simp[encE,ecells]
   have a3:W2.rangeAt b2 1 (vcells x.1.2):=by
    intro j v hv
    rw[Zr a5]
    have e:(encE x).toArray[1+j]?=(vcells x.1.2)[j]?:=by rw[Nat.add_comm];simp[encE,ecells]
    rw[e];exact hv
   have b6:(Tryz.prog.info? 124).map (·.size)=some (vcells x.1.2).length:=by rw[Tryz.size124,Yi x.2.1]
   have b1:=V a3;have c5:=V b6
   clear a5 a2 a3 b6
   obtain⟨fn,d0,b0,c7,hy,hR⟩:=hY _ x W2 c8.o (by rw[List.length_take];omega)
   have d2:=V hR
   have c9:=V hy
   clear hR hy
   gi_upto_region 3 with fail
   iterate 13 gi_step
   refine Zcu rfl (fun _ h=>by cases h) rfl (Zv rfl rfl (vcells x.1.2) b1.o Tryz.underlying124 rfl c5.o) ?_
   have hy:=c9.o
   gi_wp2
   refine d2.o.mono ?_
   have a8:R.take k++[x]=R.take (k+1):=by rw[List.take_add_one,HX.o];simp
   rw[a8]
   rintro e W3 (⟨rfl,b9,c3⟩ | ⟨rfl,a4⟩)
   ·have a9:=V b9;have d3:=V c3
    clear b9 c3 a8 hy
    gi_wp2
    gi_roundg (R.length - (k+1))
    case measure=>omega
    case rel=>exact⟨k+1,by omega,rfl,by go_num,a9.o,b3.o.trans d3.o⟩
   ·have a9:=V a4
    clear a4 a8 hy
    gi_wp2
    refine bodyPost_ret (results_none rfl _ _ _) rfl ?_
    exact⟨⟨_,rfl⟩,.inr ⟨_,List.take_prefix _ _,a9.o⟩⟩
  ·obtain rfl:k=R.length:=by omega
   refine bodyPost_end (results_none rfl _ _ _) rfl ?_
   have:=c2.o
   rw[List.take_length] at this
   exact⟨⟨_,rfl⟩,.inl ⟨_,rfl,this⟩⟩
theorem Zml (F:Fence)(n:Nat)(hf:F.fn 141)(hro:F.round=none)(l b:Nat)(J:List El→World→Prop)(W:World)(hc:W.cell? ⟨b,0,none⟩=some (.slice none 0 0))(h0:J [] W):
  CallsIn F n Tryz.prog 141 #[.func (.yield l) #[] #[],.pointer (some ⟨b,0,none⟩)] W fun e W'=>(∃v,e=.returned v)∧J [] W':=by
 refine callsIn_of_wp Tryz.func141 rfl hf ?_ hro
 simp only[Tryz.ntmps141,List.size_toArray,List.length_cons,List.length_nil,Nat.reduceAdd,Nat.reduceSub,Array.replicate_succ,Array.replicate_zero,List.push_toArray,List.append_toArray,List.nil_append,List.cons_append]
 gi_wp2
 gi_loopg [7] 0 (fun gi i wr=>gi=0∧i=.int .i64 0∧J [] wr)
 case atStart=>exact⟨rfl,rfl,h0⟩
 case round=>
  obtain⟨rfl,rfl,a0⟩:=hrel
  have a1:=V a0
  clear a0 h0
  gi_wp2
  refine bodyPost_end (results_none rfl _ _ _) rfl ?_
  exact⟨⟨_,rfl⟩,a1.o⟩
theorem Zfc (F:Fence)(n:Nat)(hf:F.fn 141)(hro:F.round=none)(hn:1≤n)(b:Nat)(S:Nat→Prop)(v:Value)(R:List El)(hlen:R.length≤1099511627776)(w:World)(hS: ∀k,S k→k<w.heap.size)(hb:b<w.heap.size)(hc:w.cell? ⟨b,0,none⟩=some v)
  (hrow:(v=.slice none 0 0∧R=[])∨ ∃gg cap,v=.slice (some ⟨gg,0,none⟩) R.length cap∧S gg∧ ∀i x,R[i]?=some x→w.rangeAt gg (i * 66) (encE x)):
  SeqStopsK F n Tryz.prog 141 #[.pointer (some ⟨b,0,none⟩)] (fun x:El=>#[.int .i64 x.1.1,.agg (vcells x.1.2).toArray]) (Keep S) (fun ys=>ys=R) (fun pre=>pre <+: R) R.length w:=fun l J Jx W hW hJ _ hY h0=>by
 have hc':=(hW.cell (p:=⟨b,0,none⟩) hb).trans hc
 rcases hrow with ⟨rfl,rfl⟩ | ⟨gg,cap,rfl,hg,hrs⟩
 ·exact(Zml F n hf hro l b J W hc' h0).mono fun e W' ⟨he,hj⟩=>⟨he,.inl ⟨_,rfl,hj⟩⟩
 ·exact Ztf F n hf hro hn l b gg cap S R hlen hg J Jx W (fun k hk=>Nat.lt_of_lt_of_le (hS k hk) hW.size) hJ hY hc' (fun i x hx j v hv=>(hW.cell (p:=⟨gg,i * 66+j,none⟩) (hS gg hg)).trans (hrs i x hx j v hv)) h0
end
section
open Go.RowKit Go.Shelf
attribute [local go_sem] Oper.semAt_some
structure RowT (w0 w:World) (b:Nat) (R:List El) (v:Value):Prop where
 upd:U0 w0 w
 cell:w.heap[b]?=some (.cells #[v] 219 (0,0))
 row:(v=.slice none 0 0∧R=[])∨ ∃gg cap,v=.slice (some ⟨gg,0,none⟩) R.length cap∧w0.heap.size≤gg∧gg<w.heap.size∧ ∀i x,R[i]?=some x→w.rangeAt gg (i * 66) (encE x)
theorem Tryz.info3p:(Tryz.prog.info? 3).map (fun i=>(i.zero,i.size,i.bytes))=some (some (.int .i64 0),1,8):=by kernel_rfl
theorem Zri {B B':Nat}{e:TypeId}{size:Nat}{v:Value}{n:Nat}{xs:List Value}(h:w.ownsRow B e size v n xs)(hb:B'≤B):w.ownsRow B' e size v n xs:=by
 obtain⟨h1,h2⟩:=h
 refine⟨h1,?_⟩
 rcases h2 with h2 | ⟨g,a1,a0,a,b,r⟩
 ·exact .inl h2
 ·exact .inr ⟨g,a1,a0,a,Nat.le_trans hb b,r⟩
def atE (x:El):Value:=.int .i64 x.1.1
structure PendAt (w w1:World) (pre:List El) (W:World) (u:Value):Prop where
 upd:U0 w W
 size:w1.heap.size≤W.heap.size
 cell:W.heap[w.heap.size]?=some (.cells #[u] 33 (0,0))
 own:W.ownsRow w1.heap.size 3 1 u pre.length (pre.map atE)
theorem PendAt.start {b:Nat}{R:List El}{v:Value}(h:RowT (w.alloc (.cells #[.slice none 0 0] 33)) w1 b R v):PendAt w w1 [] w1 (.slice none 0 0):=
 ⟨((Upd.refl _ w).alloc _).trans h.upd,Nat.le_refl _,(h.upd.block _ (by simp) id).trans (Zc rfl),World.ownsRow_nil _ _ _ _⟩
theorem PendAt.kept {pre:List El}{u:Value}{row:Option Nat}(h:PendAt w w1 pre W u)(hw:w.heap.size<w1.heap.size)(hg:W.grownBy W' row)(hr: ∀r,row=some r→w1.heap.size≤r∧ ∃o:Obj,W.heap[r]?=some o∧o.isCells=false):PendAt w w1 pre W' u:=by
 refine⟨h.upd.step (Upd.of_grown (F:=fun j=>w1.heap.size≤j) hg (fun k hk=>(hr k hk).1)) (fun j hj e=>by omega),Nat.le_trans h.size hg.size,?_,?_⟩
 ·exact(hg.block _ (Za h.cell) (fun e=>by have:=(hr _ e.symm).1;omega)).trans h.cell
 ·refine h.own.kept hg ?_
  rcases h.own.2 with ⟨rfl,_⟩ | ⟨g,a2,a1,rfl,_,a0,_⟩
  ·exact .inl rfl
  ·refine .inr (fun e=>?_)
   obtain⟨_,o,ho,hc⟩:=hr g e.symm
   rw[a0] at ho
   cases ho
   cases hc
theorem PendAt.step {w4:World}{pre:List El}{u v':Value}{x:El}{o:Obj}(h:PendAt w w1 pre W u)(hw:w.heap.size<w1.heap.size)
  (hown:w4.ownsRow w1.heap.size 3 1 v' (pre.length+1) (pre.map atE++[atE x])) (hg:(W.alloc o).grownBy w4 u.ownBlock):
  PendAt w w1 (pre++[x]) (w4.setCell ⟨w.heap.size,0,none⟩ v') v':=by
 have a0:=h.own.lt
 have hb:=Za h.cell
 have a1:w4.heap[w.heap.size]?=some (.cells #[u] 33 (0,0)):=((hg.block _ (by simp;omega) (fun e=>by have:=(a0 _ e.symm).1;omega)).trans (Zm hb)).trans h.cell
 have a2:Upd (fun j=>w.heap.size≤j) w w4:=
  ((h.upd.mono (G:=fun j=>w.heap.size≤j) (fun _ _ e=>e.elim)).alloc o).step (Upd.of_grown (F:=fun j=>w1.heap.size≤j) hg (fun k hk=>(a0 k hk).1)) (fun j _ e=>by omega)
 refine⟨?_,?_,?_,?_⟩
 ·exact(a2.setCell (p:=⟨w.heap.size,0,none⟩) (.inl (Nat.le_refl _)) _).mono (fun j hj e=>by omega)
 ·have h1:=hg.size
  have h2:=h.size
  simp[World.setCell] at h1 ⊢;omega
 ·have:=Ze (i:=0) (v:=v') a1
  simpa using this
 ·have:=Zy hown (Zd w4 w.heap.size 0 v') (fun k hk e=>by have:=(hown.lt k hk).1;omega)
  simpa using this
theorem Zmc {p:Nat}(w:World)(R:List El)(hlen:R.length≤1099511627776)
  (hrow:Calls Tryz.prog 76 #[.pointer (some ⟨p,0,none⟩)] (w.alloc (.cells #[.slice none 0 0] 33)) fun e w'=>e=.returned (.func (.func 141) #[] #[.pointer (some ⟨w.heap.size+1,0,none⟩)])∧ ∃v,RowT (w.alloc (.cells #[.slice none 0 0] 33)) w' (w.heap.size+1) R v):
  Calls Tryz.prog 68 #[.pointer (some ⟨p,0,none⟩)] w fun e w'=> ∃u,e=.returned u∧w'.ownsRow w.heap.size 3 1 u R.length (R.map fun x=>.int .i64 x.1.1)∧U0 w w':=by
 have HR:=V hrow
 clear hrow
 refine(callsIn_wide (n:=3)).1 ?_
 refine callsIn_of_wp_marks Tryz.func68 rfl trivial ?_ rfl
 simp only[Tryz.ntmps68,List.size_toArray,List.length_cons,List.length_nil,Nat.reduceAdd,Nat.reduceSub,Array.replicate_succ,Array.replicate_zero,List.push_toArray,List.append_toArray,List.nil_append,List.cons_append]
 gi_wp2_with (refine⟨trivial,?_⟩;gi_at_call 76;refine(callsIn_wide.2 HR.o).mono ?_;rintro e w' ⟨rfl,v,hv⟩)
 have c1:w.heap.size+1<w'.heap.size:=Za hv.cell
 have HV:=V hv
 have hP:=PendAt.start hv
 have a6: ∀k,v.ownBlock=some k→k<w'.heap.size:=fun k hk=>by
  rcases hv.row with ⟨rfl,_⟩ | ⟨gg,a4,rfl,_,hg,_⟩
  ·simp[Value.ownBlock] at hk
  ·simp[Value.ownBlock] at hk;omega
 have hS: ∀k,(k=w.heap.size+1∨v.ownBlock=some k)→k<w'.heap.size:=fun k hk=>hk.elim (fun e=>by omega) (a6 k)
 have a1:(v=.slice none 0 0∧R=[])∨ ∃gg a4,v=.slice (some ⟨gg,0,none⟩) R.length a4∧(gg=w.heap.size+1∨v.ownBlock=some gg)∧ ∀i x,R[i]?=some x→w'.rangeAt gg (i * 66) (encE x):=by
  rcases hv.row with ⟨h1,h2⟩ | ⟨gg,a4,h1,_,_,h2⟩
  ·exact .inl ⟨h1,h2⟩
  ·exact .inr ⟨gg,a4,h1,.inr (by rw[h1];rfl),h2⟩
 have a7: ∀k,(k=w.heap.size+1∨v.ownBlock=some k)→k≠w.heap.size:=fun k hk=>by
  rcases hk with e | e
  ·omega
  ·rcases hv.row with ⟨rfl,_⟩ | ⟨gg,a4,rfl,h1,_,_⟩
   ·simp[Value.ownBlock] at e
   ·simp[Value.ownBlock] at e;simp at h1;omega
 refine wpIn_rangeFunc_ownG rfl (by omega) (gf:=141) (lb:=#[.pointer (some ⟨w.heap.size+1,0,none⟩)]) rfl trivial (enters_of Tryz.func141 (by kernel_rfl) rfl)
  (Zfc Fence.wide (3 - 1) trivial rfl (by omega) (w.heap.size+1) (fun k=>k=w.heap.size+1∨v.ownBlock=some k) v R hlen w' hS (by omega) (Zf hv.cell) a1)
  (fun h k=>h.trans k) (fun W l o o' hl _ _ _ k hk=>by
   have h1:=hS k hk
   have h2: ¬l=k:=by omega
   simp[World.putObj,h2]) (Below.refl _ _) (fun _=>rfl)
  (fun a3 W=> ∃u,PendAt w w' a3 W u) (fun _ _ _=>False) ?hI (fun _ _ _ _ _ hs _ _=>hs) ⟨_,hP⟩
  (fun x=>{tmps:=#[.pointer (some ⟨p,0,none⟩),undef,.slice none 0 0,.pointer (some ⟨w.heap.size,0,none⟩),.int .i64 x.1.1,.pointer (some ⟨p,0,none⟩),.bool false,.pointer (some ⟨p,0,none⟩),
   .func (.func 141) #[] #[.pointer (some ⟨w.heap.size+1,0,none⟩)],.int .i64 x.1.1,.agg (vcells x.1.2).toArray,undef,undef,undef,undef,undef],defers:=[]}) ?assign ?body ?done ?stop
 case hI=>
  rintro a3 W W' row ⟨u,hs⟩ hg hr
  exact⟨u,hs.kept (by omega) hg hr⟩
 case assign=>
  intro l x W K hK
  gi_wp2
  exact hK
 case body=>
  rintro l a3 x W ⟨u,hs⟩ b9
  have c0:=Zf hs.cell
  have HS:=V hs
  have HB:=V a7
  have b7:=V hS
  clear hs hP a1 hS a7 a6
  obtain⟨i0,b1,b0,b2,b3⟩:=info_parts Tryz.info3p
  gi_wp2_with (gi_at_builtin
               refine wpListIn_append_own _ rfl _ _ 33 rfl w'.heap.size 3 i0 (.int .i64 0) 1 8 Tryz.underlying33 b1 b0 b2 b3 rfl (by decide) _ _ _ rfl (HS.o.own.alloc _) ⟨W.heap.size,0,none⟩ 1 1 [atE x] rfl rfl (cell_one_new _ _ _) (by simp[atE,Value.oneCell']) (by unfold maxLen;omega) (by omega) (by have:=HS.o.size;simp;omega) ?_
               intro v' w4 a2 a0 _
               have a9:=a2.lt
               obtain⟨g4,a5,rfl⟩:=ownsRow_succ a2
               have b8:=V (HS.o.step (by omega) a2 a0)
               have a8:w4.heap[w.heap.size]?=some (.cells #[u] 33 (0,0)):=by
                have hb:=Za HS.o.cell
                exact((a0.block _ (by simp;omega) (fun e=>by have:=(HS.o.own.lt _ e.symm).1;omega)).trans (Zm hb)).trans HS.o.cell
               have c4:=Zf a8
               have f4:w4.frozen? ⟨w.heap.size,0,none⟩=false:=Zb a8
               have b5:RowKit.Hid (KeepsOthers W (w4.setCell ⟨w.heap.size,0,none⟩ (.slice (some ⟨g4,0,none⟩) (a3.length+1) a5))):=Lib.hid
                (((KeepsOthers.alloc W _).trans (KeepsOthers.of_grownBy a0 (fun j o e ho=>by
                 rcases HS.o.own.2 with ⟨rfl,_⟩ | ⟨g,a4,c2,rfl,_,b4,_⟩
                 ·cases e
                 ·cases e
                  have h1:=(Zm (w:=W) (o:=.cells #[atE x] 3) (Za b4)).trans b4
                  have h3:=h1.symm.trans ho
                  cases h3;rfl))).trans (KeepsOthers.setCell _ _ _))
               have b6:RowKit.Hid (Keep (fun k=>k=w.heap.size+1∨v.ownBlock=some k) W (w4.setCell ⟨w.heap.size,0,none⟩ (.slice (some ⟨g4,0,none⟩) (a3.length+1) a5))):=V (fun k hk=>by
                have h1:=b7.o k hk
                have h2:=HS.o.size
                rw[Yd (HB.o k hk),a0.block k (by simp;omega) (fun e=>by have:=(HS.o.own.lt _ e.symm).1;omega),Zm (by omega)])
               clear a2 a0 a9 a8 c0 b1 b0 b2 b3)
  exact⟨b5.o.from _,b6.o,_,b8.o⟩
 case done=>
  rintro D ys W hD rfl ⟨u,hs⟩ hK
  have c0:=Zf hs.cell
  have HS:=V hs
  clear hs hP a1 hS a7 a6
  gi_wp2
  refine⟨by simp,.inl ⟨_,_,rfl,run_takeDeferred hK,?_⟩⟩
  have h2:=HS.o.kept (W':=W.putObj D (.deferred none)) (row:=some D) (by omega) (grownBy_putObj' _ D _) (fun r e=>by cases e;exact⟨hD,_,hK,rfl⟩)
  exact⟨_,results_tmp rfl _ _ _,u,rfl,Zri h2.own (by omega),h2.upd⟩
 case stop=>
  rintro D c a3 W _ _ h _
  exact h.elim
end
end Go.Proofs.YtbimkhdiplnbfaaGreat
