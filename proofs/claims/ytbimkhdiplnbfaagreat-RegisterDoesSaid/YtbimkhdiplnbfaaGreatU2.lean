/- Walks. -/
import Derived.Test.YtbimkhdiplnbfaaGreatU1
import Derived.Test.YtbimkhdiplnbfaaGreatU3
import Derived.Deep.MidRow
import Derived.Deep.AppendLies
import Derived.ChangeKeysEq
set_option linter.unusedVariables false
set_option linter.unusedSimpArgs false
namespace Go.Proofs.YtbimkhdiplnbfaaGreat
set_option maxRecDepth 1000000
set_option maxHeartbeats 16000000
variable {a:Act} {ys:List Int} {bs xs:List Value} {b cap g k n p s:Nat} {x:Operand} {P:Program} {t ty:TypeId} {v:Value} {w w':World}
section
open Go.RowKit
theorem Zan (vs:List Value): ∀(off k:Nat) (cells:Array Value),off+k+vs.length≤cells.size→
  ((vs.zipIdx k).foldl (fun(cs:Array Value) (x:Value×Nat)=>cs.setIfInBounds (off+x.2) x.1) cells).toList=cells.toList.take (off+k)++vs++cells.toList.drop (off+k+vs.length):=by
 induction vs with
 |nil=>intro off k cells _;simp
 |cons v vs ih=>
  intro off k cells h
  simp only[List.length_cons] at h
  rw[List.zipIdx_cons,List.foldl_cons,ih off (k+1) _ (by simp;omega)]
  simp only[Array.toList_setIfInBounds,List.length_cons]
  apply List.ext_getElem?
  intro j
  simp only[List.getElem?_append,List.getElem?_take,List.length_take,List.length_set,Array.length_toList,List.getElem?_set,List.getElem?_drop,List.length_append,List.length_cons]
  by_cases h1:j<off+k
  ·simp[h1,show j<off+(k+1) by omega,show off+k≠j by omega,show j<min (off+(k+1)) cells.size by omega,show j<min (off+k) cells.size by omega,show j<min (off+(k+1)) cells.size+vs.length by omega,show j<min (off+k) cells.size+(vs.length+1) by omega]
  ·by_cases h2:j=off+k
   ·subst h2
    simp[show off+k<off+(k+1) by omega,show off+k<min (off+(k+1)) cells.size by omega,show off+k<min (off+(k+1)) cells.size+vs.length by omega,show min (off+k) cells.size=off+k by omega,show off+k<cells.size by omega]
   ·obtain⟨m,rfl⟩: ∃m,j=off+k+1+m:=⟨j - (off+k+1),by omega⟩
    have e1:min (off+(k+1)) cells.size=off+k+1:=by omega
    have e2:min (off+k) cells.size=off+k:=by omega
    have e3: ¬(off+k+1+m<off+k+1):=by omega
    have e4: ¬(off+k+1+m<off+k):=by omega
    have e5:off+k+1+m - (off+k+1)=m:=by omega
    have e6:off+k+1+m - (off+k)=m+1:=by omega
    have e7:(off+k+1+m<off+k+1+vs.length)=(m<vs.length):=by simp
    have e8:(off+k+1+m<off+k+(vs.length+1))=(m<vs.length):=by apply propext;omega
    simp only[e1,e2,e3,e4,e5,e6,e7,e8,if_false,List.getElem?_cons_succ]
    by_cases h3:m<vs.length
    ·simp[h3]
    ·simp[h3,show off+(k+1)+vs.length+(off+k+1+m - (off+k+1+vs.length))=off+k+(vs.length+1)+(off+k+1+m - (off+k+(vs.length+1))) by omega]
     intro hx;omega
def Z130:Array Value:=(List.replicate 64 (Value.int .u8 0)++[Value.int .i64 0]).toArray
theorem Z130_size:Z130.size=65:=by simp[Z130]
theorem Zie (w:World):(zeroValue 124).run Tryz.prog w=.ok (.agg Z130) w:=by kernel_rfl
theorem Znb (bs:List Value)(hb:bs.length=64):List.foldl (fun(cs:Array Value) (x:Value×Nat)=>cs.setIfInBounds x.snd x.fst) Z130 bs.zipIdx=(bs++[Value.int .i64 0]).toArray:=by
 apply Array.toList_inj.1
 have h:=Zan bs 0 0 Z130 (by simp[Z130_size,hb])
 simp only[Nat.zero_add] at h
 rw[h]
 have e:Z130.toList.drop 64=[Value.int .i64 0]:=rfl
 simp[hb,e]
theorem Zkx (bs:List Value)(m:Int)(w:World)(hb:bs.length=64):
  (Instr.build 124 #[(0,.agg bs.toArray),(1,.int .i64 m)]).run Tryz.prog w=.ok (.agg (bs++[Value.int .i64 m]).toArray) w:=by
 have hz:=Zie w
 have hf:=Znb bs hb
 have e:((bs++[Value.int .i64 0]).toArray).setIfInBounds 64 (Value.int .i64 m)=(bs++[Value.int .i64 m]).toArray:=by
  apply Array.toList_inj.1
  simp[←hb]
 simp[Instr.build,hz,go_sem]
 simp only[hf,Z130_size,hb,e]
 simp[hb]
theorem Zgc (w:World):(Instr.build 124 #[]).run Tryz.prog w=.ok (.agg Z130) w:=by
 have hz:=Zie w
 simp[Instr.build,hz,go_sem]
theorem Zc8 (bs:List Value)(w:World)(hb:bs.length=64):
  (Instr.build 124 #[(0,.agg bs.toArray)]).run Tryz.prog w=.ok (.agg (bs++[Value.int .i64 0]).toArray) w:=by
 have hz:=Zie w
 have hf:=Znb bs hb
 simp[Instr.build,hz,go_sem]
 simp only[hf,Z130_size,hb]
 simp
theorem Ztj (cs:List Value)(Z:Array Value)(hc:cs.length=65)(hz:Z.size=65):List.foldl (fun(cs:Array Value) (x:Value×Nat)=>cs.setIfInBounds x.snd x.fst) Z cs.zipIdx=cs.toArray:=by
 apply Array.toList_inj.1
 have h:=Zan cs 0 0 Z (by simp[hz,hc])
 simp only[Nat.zero_add] at h
 rw[h]
 have e:Z.toList.drop 65=[]:=by rw[List.drop_eq_nil_iff];simp[hz]
 simp[hc,e]
theorem Zap (cs:List Value)(w:World)(hc:cs.length=65):
  (Instr.buildSlice 125 1 #[(0,.agg cs.toArray)]).run Tryz.prog w=.ok (.slice (some ⟨w.heap.size,0,none⟩) 1 1) (w.alloc (.cells cs.toArray 124)):=by
 simp[Instr.buildSlice,go_sem]
 rw[Ztj cs _ hc (by simp)]
 simp[hc]
theorem Tryz.info130p:(Tryz.prog.info? 124).map (fun i=>(i.zero,i.size,i.bytes))=some (some (.agg Z130),65,72):=by kernel_rfl
theorem Tryz.info56p:(Tryz.prog.info? 48).map (·.size)=some 64:=by kernel_rfl
theorem Zh {cs:List Value}(h:w.heap[b]?=some (.cells cs.toArray t (0,0))):w.rangeAt b 0 cs:=by
 intro j v hv
 simp[World.cell?,h,hv]
theorem Zkv {o:Oper}{d:TypeDesc}(ho:o.op=.load ty x)(hx:a.eval x=.pointer (some ⟨b,0,none⟩))(cs:List Value)(hc:w.rangeAt b 0 cs)
  (hu:P.underlying ty=some d) (hd:d.isRow=true) (hi:(P.info? ty).map (·.size)=some cs.length):(execOp a.eval o).run P w=.ok (.value (.agg cs.toArray)) w:=by
 unfold execOp
 simp only[ho,hx,Instr.loadAt,Instr.sureAddr,Sem.run_bind,Sem.run_pure,Result.andThen_ok,run_loadVar_mid w b 0 ty cs d hc hu hd hi]
theorem Zau {o:Oper}{ps:Array (Nat×Value)}{qs:Array (Nat×Operand)}(h:(Instr.build ty ps).run P w=.ok v w)(ho:o.op=.build ty qs:=by rfl)(hq:qs.map (fun x=>(x.1,a.eval x.2))=ps:=by rfl):
  (execOp a.eval o).run P w=.ok (.value v) w:=by
 subst hq
 unfold execOp
 simp only[ho]
 simp[h]
theorem Yq {o:Oper}{ps:Array (Nat×Value)}{qs:Array (Nat×Operand)}(h:(Instr.buildSlice ty n ps).run P w=.ok v w')(ho:o.op=.buildSlice ty n qs)(hq:qs.map (fun x=>(x.1,a.eval x.2))=ps):
  (execOp a.eval o).run P w=.ok (.value v) w':=by
 subst hq
 unfold execOp
 simp only[ho]
 simp[h]
theorem Zhz {W:World}{a:Addr}{o:Obj}(h:W.cell? a=some v):(W.alloc o).cell? a=some v:=
 (World.cell?_alloc_lt _ _ _ (World.block_lt_of_cell? W a h)).trans h
theorem Zf3 {o:Oper}{K:Act→World→Prop}{Q:Exit→Act→World→Prop}(h:(execOp a.eval o).run P w=.ok (.value v) w')(hK:K (a.put o.dst v) w'):o.wp P a w K Q:=by
 unfold Oper.wp
 rw[h]
 exact hK
theorem Z130_cells:(Value.agg Z130).cells.size=65:=by simp[Value.cells,Z130_size]
theorem Upd.grown1 (h:Upd (fun k=>k=p) w w'):w.grownBy w' (some p):=
 ⟨h.os,h.tape,h.output,h.size,fun k hk hn=>h.block k hk (fun e=>hn (by rw[e]))⟩
theorem Zpd {bd bb m:Nat}{sent ops arm fail:Int}{dead:Bool}{secs:List Value}(w:World)
  (hm:w.heap[p]?=some (mainObj s n sent ops arm fail dead)) (hs:w.heap[s]?=some (.cells secs.toArray 125 (0,0))) (hsk:secs[k]?=some (.slice (some ⟨g,0,none⟩) m cap))
  (hr:w.ownsRow 0 124 65 (.slice (some ⟨g,0,none⟩) m cap) m xs)
  (hd:w.heap[bd]?=some (.cells #[.pointer (some ⟨p,0,none⟩)] 25 (0,0))) (hb:w.heap[bb]?=some (.cells bs.toArray 48 (0,0))) (hbl:bs.length=64) (h1b: ∀u∈bs,u.oneCell'=true)
  (hm1:m+1≤1099511627776) (hsent:0≤sent∧sent≤1099511627776)
  (h1:p≠s) (h2:g≠p) (h3:g≠s) (h4:bd≠p) (h5:bd≠s) (h6:bd≠g) (h7:bb≠p) (h8:bb≠s) (h9:bb≠g):
  Calls Tryz.prog 185 #[.pointer (some ⟨s,k,none⟩),.pointer (some ⟨bd,0,none⟩),.pointer (some ⟨bb,0,none⟩)] w fun e w'=>e=.returned (.tuple #[])∧
   ∃g' cap',w'.heap[p]?=some (mainObj s n (sent+1) ops arm fail dead)∧w'.heap[s]?=some (.cells (secs.set k (.slice (some ⟨g',0,none⟩) (m+1) cap')).toArray 125 (0,0))∧
    w'.ownsRow 0 124 65 (.slice (some ⟨g',0,none⟩) (m+1) cap') (m+1) (xs++(bs++[.int .i64 (sent+1)]))∧(g'=g∨w.heap.size≤g')∧Upd (fun k=>k=p∨k=s∨k=g) w w':=by
 obtain⟨a7,a9⟩:=hsent
 have lp:=Za hm
 have ls:=Za hs
 have ld:=Za hd
 have lb:=Za hb
 have cp:=Z0 hm
 have fp: ∀k,w.frozen? ⟨p,k,none⟩=false:=fun k=>Zb hm
 have cd:=Zf hd
 have H1:=V hm;have H2:=V hs;have H3:=V hd;have H4:=V hb;have H5:=V hr;have H6:=V hsk;have H7:=V hbl
 clear hm hs hd hb hr hsk hbl
 go_enter Tryz.func185,Tryz.ntmps185
 go_wp2_with fail
 have m1:(w.setCell ⟨p,1,none⟩ (.int .i64 (sent+1))).heap[p]?=some (mainObj s n (sent+1) ops arm fail dead):=Ze H1.o
 have U1:Upd (fun k=>k=p∨k=s∨k=g) w (w.setCell ⟨p,1,none⟩ (.int .i64 (sent+1))):=(Zd w p 1 _).mono (fun k _ hk=>.inl hk)
 have s1:=(Yd (w:=w) (a:=⟨p,1,none⟩) (u:=.int .i64 (sent+1)) (k:=s) (fun e=>h1 e.symm)).trans H2.o
 have d1:=(Yd (w:=w) (a:=⟨p,1,none⟩) (u:=.int .i64 (sent+1)) (k:=bd) h4).trans H3.o
 have b1:=(Yd (w:=w) (a:=⟨p,1,none⟩) (u:=.int .i64 (sent+1)) (k:=bb) h7).trans H4.o
 have r1:=H5.o.kept (Upd.grown1 (Zd w p 1 (.int .i64 (sent+1)))) (.inr (by simp[Value.ownBlock,h2]))
 have z1:w.heap.size=(w.setCell ⟨p,1,none⟩ (.int .i64 (sent+1))).heap.size:=by simp[World.setCell]
 generalize w.setCell ⟨p,1,none⟩ (.int .i64 (sent+1))=W at *
 have c0:W.cell? ⟨s,k,none⟩=some (.slice (some ⟨g,0,none⟩) m cap):=by rw[Zr s1];simp[H6.o]
 have c1:=Zf d1
 have c2:=(Z0 m1).2.1
 have f0:W.frozen? ⟨s,k,none⟩=false:=Zb s1
 have a3:W.drew.rangeAt bb 0 bs:=Zh (w:=W.drew) b1
 have a6:=Tryz.underlying48
 have a5:(Tryz.prog.info? 48).map (·.size)=some bs.length:=by rw[Tryz.info56p,H7.o]
 have M1:=V m1;have S1:=V s1;have D1:=V d1;have B1:=V b1;have R1:=V r1;have Z1:=V z1
 have c7:=Za m1;have c4:=Za s1;have b9:=Za d1
 clear m1 s1 d1 b1 r1 z1 cp fp cd
 have HB:=fun w=>Zkx bs (sent+1) w H7.o
 have HS:=fun w=>Zap (bs++[Value.int .i64 (sent+1)]) w (by simp[H7.o])
 obtain⟨i0,b6,b7,c3,b5⟩:=info_parts Tryz.info130p
 have hA:W.drew.cell? ⟨s,k,none⟩=some (.slice (some ⟨g,0,none⟩) m cap)∧W.drew.rangeAt bb 0 bs∧W.drew.cell? ⟨bd,0,none⟩=some (.pointer (some ⟨p,0,none⟩))∧W.drew.cell? ⟨p,1,none⟩=some (.int .i64 (sent+1)):=⟨c0,a3,c1,c2⟩
 refine Zj 12 (fun W'=>W'.cell? ⟨s,k,none⟩=some (.slice (some ⟨g,0,none⟩) m cap)∧W'.rangeAt bb 0 bs∧W'.cell? ⟨bd,0,none⟩=some (.pointer (some ⟨p,0,none⟩))∧W'.cell? ⟨p,1,none⟩=some (.int .i64 (sent+1))) [false,false,false,false,false,false,false,false,false,false,false,false,false,false] rfl (by kernel_rfl) ?_
 refine wqZ 0 (.pointer (some ⟨s,k,none⟩)) hA (fun w ⟨q1,q2,q3,q4⟩=>?_) ?_
 ·go_simp
 simp only[Act.put,List.setIfInBounds_toArray,List.set]
 refine wqZ 1 (.pointer (some ⟨s,k,none⟩)) hA (fun w ⟨q1,q2,q3,q4⟩=>?_) ?_
 ·go_simp
 simp only[Act.put,List.setIfInBounds_toArray,List.set]
 refine wqZ 2 (.pointer (some ⟨s,k,none⟩)) hA (fun w ⟨q1,q2,q3,q4⟩=>?_) ?_
 ·go_simp
 simp only[Act.put,List.setIfInBounds_toArray,List.set]
 refine wqZ 3 (.slice (some ⟨g,0,none⟩) m cap) hA (fun w ⟨q1,q2,q3,q4⟩=>?_) ?_
 ·go_simp
 simp only[Act.put,List.setIfInBounds_toArray,List.set]
 refine wqZ 4 (.agg bs.toArray) hA (fun w ⟨q1,q2,q3,q4⟩=>?_) ?_
 ·exact Zkv rfl rfl bs q2 a6 rfl a5
 simp only[Act.put,List.setIfInBounds_toArray,List.set]
 refine wqZ 5 (.pointer (some ⟨p,0,none⟩)) hA (fun w ⟨q1,q2,q3,q4⟩=>?_) ?_
 ·go_simp
 simp only[Act.put,List.setIfInBounds_toArray,List.set]
 refine wqZ 6 (.pointer (some ⟨p,0,none⟩)) hA (fun w ⟨q1,q2,q3,q4⟩=>?_) ?_
 ·go_simp
 simp only[Act.put,List.setIfInBounds_toArray,List.set]
 refine wqZ 7 (.pointer (some ⟨p,1,none⟩)) hA (fun w ⟨q1,q2,q3,q4⟩=>?_) ?_
 ·go_simp
 simp only[Act.put,List.setIfInBounds_toArray,List.set]
 refine wqZ 8 (.int .i64 (sent+1)) hA (fun w ⟨q1,q2,q3,q4⟩=>?_) ?_
 ·go_simp
 simp only[Act.put,List.setIfInBounds_toArray,List.set]
 refine wqZ 9 (.agg (bs++[Value.int .i64 (sent+1)]).toArray) hA (fun w ⟨q1,q2,q3,q4⟩=>?_) ?_
 ·exact Zau (HB w) rfl (by simp[Act.eval])
 simp only[Act.put,List.setIfInBounds_toArray,List.set]
 refine Za0 (i:=10) rfl (by kernel_rfl) rfl (fun K hK=>?_)
 refine Zf3 (v:=.slice (some ⟨W.heap.size,0,none⟩) 1 1) (w':=W.drew.alloc (.cells (bs++[Value.int .i64 (sent+1)]).toArray 124)) (Yq (HS W.drew) rfl (by simp[Act.eval])) ?_
 have b3:(W.drew.alloc (.cells (bs++[Value.int .i64 (sent+1)]).toArray 124)).cell? ⟨s,k,none⟩=some (.slice (some ⟨g,0,none⟩) m cap):=Zhz (W:=W.drew) c0
 refine hK _ _ ⟨b3,World.rangeAt_alloc a3 _,Zhz (W:=W.drew) c1,Zhz (W:=W.drew) c2⟩ ?_
 simp only[Act.put,List.setIfInBounds_toArray,List.set]
 refine Za0 (i:=11) rfl (by kernel_rfl) rfl (fun K hK=>?_)
 refine wp_append_lies _ (.tmp 14) (.tmp 21) 125 rfl 0 124 i0 (.agg Z130) 65 72 Tryz.underlying125 b6 b7 c3 b5 Z130_cells (by omega) (.slice (some ⟨g,0,none⟩) m cap) m xs rfl (R1.out.alloc _) ⟨W.heap.size,0,none⟩ 1 1 (bs++[Value.int .i64 (sent+1)]) rfl (by simp[H7.o]) (World.news_of_block (cs:=(bs++[Value.int .i64 (sent+1)]).toArray) (t:=124) (fr:=(0,0)) (heap_alloc_new _ _)) ?_ (by omega) (by unfold maxLen;omega) (by omega) (by simp) (W.heap.size+1) (by simp) ?_
 ·intro u hu
  rcases List.mem_append.1 hu with hu | hu
  ·exact h1b u hu
  ·simp at hu;subst hu;rfl
 intro gg cap' w1 a1 a0 a2 c8
 have hk: ∀b,b<W.heap.size→b≠g→w1.heap[b]?=W.heap[b]?:=fun b hb hn=>(a0.block b (by simp;omega) (by simp[Value.ownBlock,hn])).trans (Zm (w:=W.drew) hb)
 have a4:=(hk s c4 (fun e=>h3 e.symm)).trans S1.out
 have a8:=(hk p c7 (fun e=>h2 e.symm)).trans M1.out
 have b0:=(hk bd b9 h6).trans D1.out
 have b8:w1.cell? ⟨s,k,none⟩=some (.slice (some ⟨g,0,none⟩) m cap):=by rw[Zr a4];simp[H6.o]
 have c9:w1.frozen? ⟨s,k,none⟩=false:=Zb a4
 refine hK _ _ ⟨b8,Zh ((hk bb (Za B1.out) h9).trans B1.out),Zf b0,(Z0 a8).2.1⟩ ?_
 simp only[Act.put,List.setIfInBounds_toArray,List.set]
 refine tlZ 12 ?_
 have b4:=V a4;have c5:=V a8;have HO:=V a1;have HG:=V a0
 clear a4 a8 b0 hk a1 a0 HB HS
 simp only[List.drop]
 go_wp2
 go_end0
 have b2:gg=g∨gg=W.heap.size+1:=by
  rcases a2 with a2 | a2
  ·simp[Value.ownBlock] at a2;exact .inl a2.symm
  ·exact .inr a2
 have c6:gg≠s:=by rcases b2 with e | e<;> omega
 refine⟨rfl,gg,cap',(Yd h1).trans c5.o,?_,?_,?_,?_⟩
 ·have:=Ze (i:=k) (v:=.slice (some ⟨gg,0,none⟩) (m+1) cap') b4.o
  simpa using this
 ·exact HO.o.kept (Upd.grown1 (Zd w1 s k _)) (.inr (by simp[Value.ownBlock,c6]))
 ·rcases b2 with e | e
  ·exact .inl e
  ·right;rw[e,Z1.out];omega
 ·refine Upd.setCell ((((U1.drew).alloc _).step (Upd.of_grown (F:=fun k=>k=g) HG.o (fun k hk=>by simp[Value.ownBlock] at hk;exact hk.symm)) (fun k _ hk=>.inr (.inr hk)))) (.inl (.inr (.inl rfl))) _
theorem Zbm (b:Nat)(t:TypeId): ∀(vs:List Value) (o:Nat) (w:World) (old:Array Value),w.heap[b]?=some (.cells old t (0,0))→
  (w.setCells b o vs).heap[b]?=some (.cells ((vs.zipIdx o).foldl (fun(cs:Array Value) (x:Value×Nat)=>cs.setIfInBounds (0+x.2) x.1) old) t (0,0))
 | [],_,_,_,h=>h
 |v :: r,o,w,old,h=>by
  rw[World.setCells,List.zipIdx_cons,List.foldl_cons]
  exact Zbm b t r (o+1) _ _ (by simpa using Ze h)
theorem Zi {old:Array Value}{vs:List Value}(h:w.heap[b]?=some (.cells old t (0,0)))(hs:old.size=vs.length):
  (w.setCells b 0 vs).heap[b]?=some (.cells vs.toArray t (0,0)):=by
 rw[Zbm b t vs 0 w old h]
 have:=Zan vs 0 0 old (by omega)
 congr 2
 apply Array.toList_inj.1
 rw[this]
 have e:old.toList.drop (0+0+vs.length)=[]:=by rw[List.drop_eq_nil_iff];simp[hs]
 rw[e];simp
theorem Upd.setCells {F:Nat→Prop}(hb:F b): ∀(vs:List Value) (o:Nat) {a w:World},Upd F a w→Upd F a (w.setCells b o vs)
 | [],_,_,_,h=>h
 |v :: r,o,_,_,h=>Upd.setCells hb r (o+1) (h.setCell (p:=⟨b,o,none⟩) (.inl hb) v)
theorem Zq {cs:Array Value}(h:w.heap[b]?=some (.cells cs t (0,0))):w.there b 0 cs.size:=fun j hj=>
 ⟨by rw[Zr h];simp[hj],Zb h⟩
theorem Zcm {o len:Nat}(h:w.ownsRow 0 124 65 (.slice (some ⟨g,0,none⟩) n cap) n xs)(hb:(xs.drop o).take len=bs):w.rangeAt g o bs:=by
 intro j v hv
 subst hb
 have hj:j<len:=by
  have:=(List.getElem?_eq_some_iff.1 hv).1
  simp at this;omega
 have:xs[o+j]?=some v:=by simpa [List.getElem?_take,List.getElem?_drop,hj] using hv
 have:=h.cells (g:=g) rfl (o+j) v this
 rwa [Addr.add_mid,Nat.zero_add] at this
theorem Zv {o:Oper}{off:Nat}{d:TypeDesc}(ho:o.op=.load ty x)(hx:a.eval x=.pointer (some ⟨b,off,none⟩))(cs:List Value)(hc:w.rangeAt b off cs)
  (hu:P.underlying ty=some d) (hd:d.isRow=true) (hi:(P.info? ty).map (·.size)=some cs.length):(execOp a.eval o).run P w=.ok (.value (.agg cs.toArray)) w:=by
 unfold execOp
 simp only[ho,hx,Instr.loadAt,Instr.sureAddr,Sem.run_bind,Sem.run_pure,Result.andThen_ok,run_loadVar_mid w b off ty cs d hc hu hd hi]
theorem Zpj {bb j:Nat}{old secs:List Value}(w:World)
  (hs:w.heap[s]?=some (.cells secs.toArray 125 (0,0))) (hsk:secs[k]?=some (.slice (some ⟨g,0,none⟩) (j+1) cap))
  (hr:w.ownsRow 0 124 65 (.slice (some ⟨g,0,none⟩) (j+1) cap) (j+1) xs) (hx:(xs.drop (j * 65)).take 64=bs)
  (hb:w.heap[bb]?=some (.cells old.toArray 48 (0,0))) (hol:old.length=64) (hbl:bs.length=64) (h1b: ∀u∈bs,u.oneCell'=true) (hj:j+1≤1099511627776):
  Calls Tryz.prog 80 #[.pointer (some ⟨s,k,none⟩),.pointer (some ⟨bb,0,none⟩)] w fun e w'=>e=.returned (.tuple #[])∧
   w'.heap[bb]?=some (.cells bs.toArray 48 (0,0))∧Upd (fun k=>k=bb) w w':=by
 have c0:w.cell? ⟨s,k,none⟩=some (.slice (some ⟨g,0,none⟩) (j+1) cap):=by rw[Zr hs];simp[hsk]
 have a2:w.drew.rangeAt g (j * 65) bs:=Zcm (w:=w.drew) hr hx
 have a1:=Tryz.underlying48
 have a0:(Tryz.prog.info? 48).map (·.size)=some bs.length:=by rw[Tryz.info56p,hbl]
 have a3:w.drew.there bb 0 bs.toArray.size:=by
  have:=Zq (w:=w.drew) hb
  simpa [hol,hbl] using this
 have H1:=V hb;have H2:=V hbl;have H3:=V hol;have H4:=V a3
 have a4:(0:Int)≤(j:Int):=Int.natCast_nonneg _
 have a5:(j:Int)<((j+1:Nat):Int):=by omega
 have a6:IntKind.i64.wrap ((j:Int)+1 - 1)=j:=by rw[show(j:Int)+1 - 1=j by omega];exact IntWalk.i64_in _ (by omega)
 clear hs hsk hr hx hb hbl hol a3
 go_enter Tryz.func80,Tryz.ntmps80
 go_wp2_with fail
 have hA:w.drew.cell? ⟨s,k,none⟩=some (.slice (some ⟨g,0,none⟩) (j+1) cap)∧w.drew.rangeAt g (j * 65) bs:=⟨c0,a2⟩
 refine Zj 11 (fun W'=>W'.cell? ⟨s,k,none⟩=some (.slice (some ⟨g,0,none⟩) (j+1) cap)∧W'.rangeAt g (j * 65) bs) [false,false,false,false,false,false,false,false,false,false,false,false] rfl (by kernel_rfl) ?_
 refine wqZ 0 (.pointer (some ⟨s,k,none⟩)) hA (fun w ⟨q1,q2⟩=>?_) ?_
 ·go_simp
 simp only[Act.put,List.setIfInBounds_toArray,List.set]
 refine wqZ 1 (.pointer (some ⟨s,k,none⟩)) hA (fun w ⟨q1,q2⟩=>?_) ?_
 ·go_simp
 simp only[Act.put,List.setIfInBounds_toArray,List.set]
 refine wqZ 2 (.slice (some ⟨g,0,none⟩) (j+1) cap) hA (fun w ⟨q1,q2⟩=>?_) ?_
 ·go_simp
 simp only[Act.put,List.setIfInBounds_toArray,List.set]
 refine wqZ 3 (.pointer (some ⟨s,k,none⟩)) hA (fun w ⟨q1,q2⟩=>?_) ?_
 ·go_simp
 simp only[Act.put,List.setIfInBounds_toArray,List.set]
 refine wqZ 4 (.pointer (some ⟨s,k,none⟩)) hA (fun w ⟨q1,q2⟩=>?_) ?_
 ·go_simp
 simp only[Act.put,List.setIfInBounds_toArray,List.set]
 refine wqZ 5 (.slice (some ⟨g,0,none⟩) (j+1) cap) hA (fun w ⟨q1,q2⟩=>?_) ?_
 ·go_simp
 simp only[Act.put,List.setIfInBounds_toArray,List.set]
 refine wqZ 6 (.int .i64 ((j:Int)+1)) hA (fun w ⟨q1,q2⟩=>?_) ?_
 ·go_simp
 simp only[Act.put,List.setIfInBounds_toArray,List.set]
 refine wqZ 7 (.int .i64 (j:Int)) hA (fun w ⟨q1,q2⟩=>?_) ?_
 ·(go_simp;exact IntWalk.i64_in _ (by omega))
 simp only[Act.put,List.setIfInBounds_toArray,List.set]
 refine wqZ 8 (.pointer (some ⟨g,j * 65,none⟩)) hA (fun w ⟨q1,q2⟩=>?_) ?_
 ·(go_simp;intro hx;omega)
 simp only[Act.put,List.setIfInBounds_toArray,List.set]
 refine wqZ 9 (.pointer (some ⟨g,j * 65,none⟩)) hA (fun w ⟨q1,q2⟩=>?_) ?_
 ·go_simp
 simp only[Act.put,List.setIfInBounds_toArray,List.set]
 refine wqZ 10 (.agg bs.toArray) hA (fun w ⟨q1,q2⟩=>?_) ?_
 ·exact Zv rfl rfl bs q2 a1 rfl a0
 simp only[Act.put,List.setIfInBounds_toArray,List.set]
 refine tlZ 11 ?_
 simp only[List.drop]
 refine wpList_store_mid rfl 48 (.tmp 1) (.tmp 13) rfl bb 0 bs.toArray rfl rfl H4.o (by rw[a0];simp) (all_oneCell_toArray h1b) ?_
 go_wp2
 go_end0
 refine⟨rfl,?_,?_⟩
 ·exact Zi (w:=w.drew) H1.o (by simp[H2.o,H3.o])
 ·exact Upd.setCells (F:=fun k=>k=bb) rfl _ _ (Upd.refl _ w).drew
def Dk.callE (D:Dk)(i:Int)(wr:Bool):Int:=
 if D.dead then 9 else if i<0∨(D.arr.length:Int)≤i then 2 else if wr=true∧D.arm=0 then 9 else if D.fail=0 then 8 else 0
def Dk.callD (D:Dk)(i:Int)(wr:Bool):Dk:=
 if D.dead then D else if i<0∨(D.arr.length:Int)≤i then D else
 if wr=true∧D.arm=0 then {D with fail:=max (D.fail - 1) (-1),dead:=true} else
 if D.fail=0 then {D with fail:= -1} else
 {D with fail:=max (D.fail - 1) (-1),ops:=D.ops+1,arm:=if wr=true then max (D.arm - 1) (-1) else D.arm}
def Dk.callR (D:Dk)(i:Int)(wr:Bool):Bool:=
 !D.dead && decide (¬(i<0∨(D.arr.length:Int)≤i)) && (decide (wr=true∧D.arm=0) || decide (D.fail≠0))
def Dk.send (D:Dk)(i:Nat)(b:List Int):Dk:={D with row:=D.row++[(i,b,D.sent+1)],sent:=D.sent+1}
def Dk.write (D:Dk)(i:Int)(b:List Int):Dk:=if D.callR i true then(D.callD i true).send i.toNat b else D.callD i true
def bcells (b:List Int):List Value:=b.map (Value.int .u8)
theorem Z3 (b:List Int):(bcells b).length=b.length:=by simp[bcells]
theorem Z6 (b:List Int): ∀u∈bcells b,u.oneCell'=true:=by
 intro u hu;simp[bcells] at hu;obtain⟨x,_,rfl⟩:=hu;rfl
theorem Zdm (D:Dk)(i j:Nat)(b:List Int)(h:j≠i):(D.send i b).vers j=D.vers j:=by
 simp[Dk.send,Dk.vers,List.filter_append,Ne.symm h]
theorem Zd4 (D:Dk)(i:Nat)(b:List Int):(D.send i b).vers i=D.vers i++[(b,D.sent+1)]:=by
 simp[Dk.send,Dk.vers,List.filter_append]
theorem DiskAt.sent {D:Dk}{g c:Nat→Nat}(h:DiskAt w p D s g c)(hk:k<D.arr.length){b:List Int}{g' cap':Nat}
  (hp:w'.heap[p]?=some (mainObj s D.arr.length (D.sent+1) D.ops D.arm D.fail D.dead))
  (hs:w'.heap[s]?=some (.cells ((((List.range D.arr.length).map fun i=>Value.slice (some ⟨g i,0,none⟩) (D.vers i).length (c i)).set k (.slice (some ⟨g',0,none⟩) ((D.vers k).length+1) cap')).toArray) 125 (0,0)))
  (hr:w'.ownsRow 0 124 65 (.slice (some ⟨g',0,none⟩) ((D.vers k).length+1) cap') ((D.vers k).length+1) ((D.vers k).flatMap vcells++(bcells b++[.int .i64 (D.sent+1)])))
  (hg:g'=g k∨w.heap.size≤g') (hu:Upd (fun j=>j=p∨j=s∨j=g k) w w'):
  DiskAt w' p (D.send k b) s (fun j=>if j=k then g' else g j) (fun j=>if j=k then cap' else c j):=by
 have lg: ∀i,i<D.arr.length→g i<w.heap.size:=fun i hi=>by
  rcases(h.rows i hi).2 with ⟨h3,_⟩ | ⟨gg,a4,a3,hv,hb,hh,r⟩
  ·simp at h3
  ·simp at hv;rw[hv.1];exact Za hh
 have lp:=Za h.main
 have ls:=Za h.sec
 have a1:(D.send k b).arr.length=D.arr.length:=rfl
 refine⟨hp,?_,?_,h.ps,?_,?_,?_⟩
 ·rw[hs]
  congr 3
  apply List.ext_getElem
  ·simp[a1]
  ·intro j h1 h2
   simp at h1
   by_cases hj:j=k
   ·subst hj;simp[Zd4]
   ·simp[hj,Ne.symm hj,Zdm _ _ _ _ hj]
 ·intro i hi
  rw[a1] at hi
  by_cases a0:i=k
  ·subst a0
   rw[Zd4]
   simpa [vcells,bcells] using hr
  ·rw[Zdm _ _ _ _ a0]
   simp only[a0,if_false]
   obtain⟨h1,h2⟩:=h.rows i hi
   refine⟨h1,?_⟩
   rcases h2 with ⟨h2,_⟩ | ⟨gg,a4,a3,hv,hb,hh,r⟩
   ·simp at h2
   ·refine .inr ⟨gg,a4,a3,hv,hb,?_,r⟩
    simp at hv
    rw[←hv.1]
    rw[←hv.1] at hh
    refine(hu.block (g i) (Za hh) ?_).trans hh
    rintro(e | e | e)
    ·exact h.gp i hi e
    ·exact h.gs i hi e
    ·exact a0 (h.gg i k hi hk e)
 ·intro i hi
  by_cases a0:i=k
  ·subst a0;simp only[if_true]
   rcases hg with e | e
   ·rw[e];exact h.gp i hi
   ·omega
  ·simp only[a0,if_false];exact h.gp i hi
 ·intro i hi
  by_cases a0:i=k
  ·subst a0;simp only[if_true]
   rcases hg with e | e
   ·rw[e];exact h.gs i hi
   ·omega
  ·simp only[a0,if_false];exact h.gs i hi
 ·intro i j hi hj
  rw[a1] at hi hj
  have li:=lg i hi
  have lj:=lg j hj
  by_cases a0:i=k<;> by_cases a2:j=k
  ·intro _;omega
  ·simp only[a0,a2,if_true,if_false]
   intro e
   rcases hg with e' | e'
   ·have:=h.gg k j hk hj (by rw[←e',e]);omega
   ·omega
  ·simp only[a0,a2,if_true,if_false]
   intro e
   rcases hg with e' | e'
   ·have:=h.gg i k hi hk (by rw[e,e']);omega
   ·omega
  ·simp only[a0,a2,if_false];exact h.gg i j hi hj
theorem Zgm (w:World)(d:Nat)(xs ys:List Int): ∀(is:List Nat),(∀i∈is,i<xs.length∧i<ys.length)→
  (Op.eqItems (d+1) 5 1 (bcells xs).toArray (bcells ys).toArray is).run Tryz.prog w=.ok (is.all fun i=>xs.getD i 0 == ys.getD i 0) w
 | [],_=>by simp[Op.eqItems]
 |i :: is,hi=>by
  obtain⟨h1,h2⟩:=hi i List.mem_cons_self
  have ih:=Zgm w d xs ys is (fun j hj=>hi j (List.mem_cons_of_mem _ hj))
  have p1:(part 5 (bcells xs).toArray (i * 1)).run Tryz.prog w=.ok (.int .u8 (xs.getD i 0)) w:=run_part_plain w (by kernel_rfl) (by simp[bcells,h1,List.getD_eq_getElem?_getD])
  have p2:(part 5 (bcells ys).toArray (i * 1)).run Tryz.prog w=.ok (.int .u8 (ys.getD i 0)) w:=run_part_plain w (by kernel_rfl) (by simp[bcells,h2,List.getD_eq_getElem?_getD])
  have p3:=run_equalIn_int (P:=Tryz.prog) w d 5 .u8 .u8 (xs.getD i 0) (ys.getD i 0) Tryz.underlying5
  simp only[Op.eqItems,Sem.run_bind,p1,p2,p3,Result.andThen_ok,List.all_cons]
  cases hb:(xs.getD i 0 == ys.getD i 0)
  ·simp
  ·simpa using ih
theorem Zud {xs:List Int}(hx:xs.length=n)(hy:ys.length=n):((List.range n).all fun i=>xs.getD i 0 == ys.getD i 0)=(xs == ys):=by
 rw[Bool.eq_iff_iff]
 simp only[List.all_eq_true,List.mem_range,beq_iff_eq]
 constructor
 ·intro h
  apply List.ext_getElem (by rw[hx,hy])
  intro i h1 h2
  have:=h i (by omega)
  simpa [List.getD_eq_getElem?_getD,h1,h2] using this
 ·rintro rfl i _;rfl
theorem Zlj (w:World){xs:List Int}(hx:xs.length=64)(hy:ys.length=64):(Op.equalIn 10000 48 (.agg (bcells xs).toArray) (.agg (bcells ys).toArray)).run Tryz.prog w=.ok (xs == ys) w:=by
 obtain⟨i,hi⟩: ∃i,Tryz.prog.info? 5=some i:=Option.isSome_iff_exists.1 (by kernel_rfl)
 rw[run_equalIn_array (P:=Tryz.prog) w 9999 (n:=64) (e:=5) _ _ Tryz.underlying48 hi,show Tryz.prog.cellsOf 5=1 by kernel_rfl,Zgm w 9998 xs ys _ (fun j hj=>by have:=List.mem_range.1 hj;omega),Zud hx hy]
theorem Zjb (w:World){xs:List Int}(hx:xs.length=64)(hy:ys.length=64):(binOp .neq 48 (.agg (bcells xs).toArray) (.agg (bcells ys).toArray)).run Tryz.prog w=.ok (.bool (!(xs == ys))) w:=by
 rw[run_neq_struct,Zlj w hx hy]
 rfl
theorem Zfa {o:Oper}{y:Operand}{rt:TypeId}{xs ys:Array Value}(ho:o.op=.binOp .neq 48 x y rt)(hx:a.eval x=.agg xs)(hy:a.eval y=.agg ys)
  (hr:(binOp .neq 48 (.agg xs) (.agg ys)).run Tryz.prog w=.ok v w):(execOp a.eval o).run Tryz.prog w=.ok (.value v) w:=by
 have hg:=run_eqGuard_agg (P:=Tryz.prog) w .neq 48 x y xs ys (by kernel_rfl)
 simp[execOp,ho,hx,hy,hg,hr,Result.andThen]
end
end Go.Proofs.YtbimkhdiplnbfaaGreat
