/- Walks. -/
import Derived.Test.YtbimkhdiplnbfaaGreatU15
import Derived.Maps.OwnIn
set_option linter.unusedVariables false
set_option linter.unusedSimpArgs false
namespace Go.Proofs.YtbimkhdiplnbfaaGreat
set_option maxRecDepth 1000000
set_option maxHeartbeats 16000000
variable {keep:List Bool} {F:Nat→Prop} {kv:Value} {w w':World}
section
open Go.RowKit Go.Shelf
structure CrAt (w w1:World) (kv:Value) (keep:List Bool) (pre:List El) (W:World):Prop where
 upd:U0 w W
 size:w1.heap.size≤W.heap.size
 ck:W.heap[w.heap.size]?=some (.cells #[kv] 40 (0,0))
 map:W.ownsMap Tryz.prog 3 (plainElem Tryz.prog 4) (w.heap.size+1) pre.length (kmap keep 0 (.map []) pre)
 cm:W.heap[w.heap.size+2]?=some (.cells #[.map (some (w.heap.size+1))] 138 (0,0))
 cn:W.heap[w.heap.size+3]?=some (.cells #[.int .i64 pre.length] 3 (0,0))
theorem CrAt.kept {w1 W W':World}{pre:List El}{row:Option Nat}(h:CrAt w w1 kv keep pre W)(hw:w.heap.size+3<w1.heap.size)(hg:W.grownBy W' row)(hr: ∀r,row=some r→w1.heap.size≤r):CrAt w w1 kv keep pre W':=by
 have hb: ∀k,k<w.heap.size+4→W'.heap[k]?=W.heap[k]?:=fun k hk=>
  hg.block k (Nat.lt_of_lt_of_le (by omega) h.size) (fun e=>by have:=hr _ e.symm;omega)
 refine⟨h.upd.step (Upd.of_grown (F:=fun j=>w1.heap.size≤j) hg (fun k hk=>hr k hk)) (fun j hj e=>by omega),Nat.le_trans h.size hg.size,(hb _ (by omega)).trans h.ck,h.map.kept hg (fun e=>by have:=hr _ e.symm;omega),(hb _ (by omega)).trans h.cm,(hb _ (by omega)).trans h.cn⟩
theorem CrAt.step {w1 W W4:World}{pre:List El}{x:El}(h:CrAt w w1 kv keep pre W)(hw:w.heap.size+3<w1.heap.size)
  (hm:W4.ownsMap Tryz.prog 3 (plainElem Tryz.prog 4) (w.heap.size+1) (pre.length+1) ((kmap keep 0 (.map []) pre).put (.int .i64 x.1.2.2) (.lit (.bool (keep.getD pre.length false))))) (hg:W.grownBy W4 (some (w.heap.size+1))):
  CrAt w w1 kv keep (pre++[x]) (W4.setCell ⟨w.heap.size+3,0,none⟩ (.int .i64 (pre.length+1:Nat))):=by
 have hb: ∀k,k<w.heap.size+4→k≠w.heap.size+1→W4.heap[k]?=W.heap[k]?:=fun k hk hne=>
  hg.block k (Nat.lt_of_lt_of_le (by omega) h.size) (fun e=>hne (Option.some.inj e))
 have hu:Upd (fun j=>w.heap.size≤j) w W4:=(h.upd.mono (G:=fun j=>w.heap.size≤j) (fun _ _ e=>e.elim)).step (Upd.of_grown (F:=fun j=>w.heap.size≤j) hg (fun k hk=>by have:=Option.some.inj hk;omega)) n3Z
 refine⟨?_,?_,?_,?_,?_,?_⟩
 ·exact(hu.setCell (p:=⟨w.heap.size+3,0,none⟩) (.inl (by show w.heap.size≤w.heap.size+3;omega)) _).mono (fun j hj e=>by omega)
 ·have h1:=hg.size
  have h2:=h.size
  simp[World.setCell];omega
 ·rw[Yd (by simp)];exact(hb _ (by omega) (by omega)).trans h.ck
 ·have:=hm.kept (Upd.grown1 (Zd W4 (w.heap.size+3) 0 (.int .i64 (pre.length+1:Nat)))) (by simp)
  rw[Zjh]
  simpa using this
 ·rw[Yd (by simp)];exact(hb _ (by omega) (by omega)).trans h.cm
 ·have:=Ze (i:=0) (v:=.int .i64 (pre.length+1:Nat)) ((hb (w.heap.size+3) (by omega) (by omega)).trans h.cn)
  simpa using this
attribute [local go_sem] Oper.semAt_some
def BoolsAt (w:World)(ka:Option Addr)(keep:List Bool):Prop:= ∀i b,keep[i]?=some b→ ∃kb ko,ka=some ⟨kb,ko,none⟩∧kb<w.heap.size∧w.cell? ⟨kb,ko+i,none⟩=some (.bool b)
theorem BoolsAt.kept {ka:Option Addr}(h:BoolsAt w ka keep)(hu:Upd F w w')(hF: ∀a,ka=some a→ ¬F a.block):BoolsAt w' ka keep:=fun i b hb=>by
 obtain⟨kb,ko,h1,h2,h3⟩:=h i b hb
 refine⟨kb,ko,h1,Nat.lt_of_lt_of_le h2 hu.size,?_⟩
 rw[←h3]
 simp only[World.cell?]
 rw[hu.block kb h2 (hF _ h1)]
theorem Zmz {S:Nat→Prop}(hS: ∀k,S k→k<w.heap.size)(W:World)(l:Nat)(o o':Obj)(hl:w.heap.size≤l)(_:W.heap[l]?=some o)(_:o.isCells=false)(_:o.isWalk=false):Keep S W (W.putObj l o'):=fun k hk=>by
 have h1:=hS k hk
 have h2: ¬l=k:=by omega
 simp[World.putObj,h2]
theorem Zdo {P:Program}{o:Oper}{a:Act}{t:TypeId}{m x v:Operand}{mv xv vv:Value}(ho:o.op=.mapUpdate t m x v)(hm:a.eval m=mv)(hx:a.eval x=xv)(hv:a.eval v=vv)(hr:(Instr.mapUpdate t mv xv vv).run P w=.ok () w'):
  (execOp a.eval o).run P w=.ok .skip w':=by
 subst hm hx hv
 simp[execOp,ho,hr,Result.andThen]
theorem CrAt.start (hu:U0 ((((w.alloc (.cells #[kv] 40)).alloc (.map #[] 0)).alloc (.cells #[.map (some (w.heap.size+1))] 138)).alloc (.cells #[.int .i64 0] 3)) w'):CrAt w w' kv keep [] w':=by
 have hm:=World.ownsMap_made (H:=Empty) (w.alloc (.cells #[kv] 40)) Tryz.prog 3 (plainElem Tryz.prog 4)
 rw[World.size_alloc] at hm
 have a0:=(hm.alloc (.cells #[.map (some (w.heap.size+1))] 138)).alloc (.cells #[.int .i64 0] 3)
 refine⟨((((((Upd.refl _ w).alloc _).alloc _).alloc _).alloc _)).trans hu,Nat.le_refl _,?_,a0.kept (row:=none) ⟨hu.os,hu.tape,hu.output,hu.size,fun j hj _=>hu.block j hj id⟩ (by simp),?_,?_⟩
 ·refine(hu.block _ (by simp;omega) id).trans ?_
  exact(Zm (by simp;omega)).trans ((Zm (by simp;omega)).trans ((Zm (by simp)).trans (Zc rfl)))
 ·refine(hu.block _ (by simp) id).trans ?_
  exact(Zm (by simp)).trans (Zc (by simp))
 ·refine(hu.block _ (by simp) id).trans ?_
  exact Zc (by simp)
theorem Zqi {p:Nat}{D:Dk}(w:World)(ka:Option Addr)(kc:Nat)(keep:List Bool)(R:List El)(hk:BoolsAt w ka keep)(hkl:keep.length≤1099511627776)(h:Dsk w p D F)(hok:D.Ok 1099511627774)(hR:R.map (·.1)=D.row)
  (hlen:R.length≤1099511627774)
  (hrow: ∀W,U0 w W→Calls Tryz.prog 76 #[.pointer (some ⟨p,0,none⟩)] W fun e w'=>e=.returned (.func (.func 141) #[] #[.pointer (some ⟨W.heap.size,0,none⟩)])∧ ∃v,RowT W w' W.heap.size R v):
  Calls Tryz.prog 16 #[.pointer (some ⟨p,0,none⟩),.slice ka keep.length kc] w fun e w'=>e=.returned (.int .i64 0)∧Left w p (D.crash keep) F w':=by
 have HR:=V hrow
 have HK:=V hk
 have HD:=V h
 have HO:=V hok
 clear hrow hk h hok
 have g4: ∀w,(Instr.makeMap 138 none).run Tryz.prog w=.ok (.map (some w.heap.size)) (w.alloc (.map #[] 0)):=fun _=>rfl
 refine(callsIn_wide (n:=3)).1 ?_
 refine callsIn_of_wp_marks Tryz.func16 rfl trivial ?_ rfl
 simp only[Tryz.ntmps16,List.size_toArray,List.length_cons,List.length_nil,Nat.reduceAdd,Nat.reduceSub,Array.replicate_succ,Array.replicate_zero,List.push_toArray,List.append_toArray,List.nil_append,List.cons_append]
 gi_wp2_with (refine⟨trivial,?_⟩;gi_at_call 76;refine(callsIn_wide.2 (HR.o _ (((((Upd.refl _ w).alloc _).alloc _).alloc _).alloc _))).mono ?_;rintro e w' ⟨rfl,v,hv⟩)
 clear g4
 have h5:w.heap.size+4<w'.heap.size:=by have:=Za hv.cell;simp at this;omega
 have e5:=CrAt.start (kv:=.slice ka keep.length kc) (keep:=keep) hv.upd
 have HV:=V hv
 have f4:=V e5
 have a3: ∀k,v.ownBlock=some k→w.heap.size+4≤k∧k<w'.heap.size:=fun k hk=>by
  rcases hv.row with ⟨rfl,_⟩ | ⟨gg,b9,rfl,h1,hg,_⟩
  ·simp[Value.ownBlock] at hk
  ·simp[Value.ownBlock] at hk;simp at h1;omega
 have hS: ∀k,(k=w.heap.size+4∨v.ownBlock=some k)→w.heap.size+4≤k∧k<w'.heap.size:=fun k hk=>hk.elim (fun e=>by omega) (a3 k)
 have a2:(v=.slice none 0 0∧R=[])∨ ∃gg b9,v=.slice (some ⟨gg,0,none⟩) R.length b9∧(gg=w.heap.size+4∨v.ownBlock=some gg)∧ ∀i x,R[i]?=some x→w'.rangeAt gg (i * 66) (encE x):=by
  rcases hv.row with ⟨h1,h2⟩ | ⟨gg,b9,h1,_,_,h2⟩
  ·exact .inl ⟨h1,h2⟩
  ·exact .inr ⟨gg,b9,h1,.inr (by rw[h1];rfl),h2⟩
 have a1:w'.cell? ⟨w.heap.size+4,0,none⟩=some v:=by
  have:=hv.cell
  simp only[World.size_alloc] at this
  exact Zf this
 have HS:=V hS
 clear hv e5 a3
 refine wpIn_rangeFunc_ownH rfl (by omega) (gf:=141) (lb:=#[.pointer (some ⟨w.heap.size+4,0,none⟩)]) rfl trivial (enters_of Tryz.func141 (by kernel_rfl) rfl)
  (Zfc Fence.wide (3 - 1) trivial rfl (by omega) (w.heap.size+4) (fun k=>k=w.heap.size+4∨v.ownBlock=some k) v R (by omega) w' (fun k hk=>(hS k hk).2) (by omega) a1 a2)
  (fun h k=>h.trans k) (Zmz (fun k hk=>(hS k hk).2)) (Below.refl _ _) (fun _=>rfl)
  (fun a0 W=>CrAt w w' (.slice ka keep.length kc) keep a0 W) (fun _ _ _=>False) ?hI (fun _ _ _ _ _ hs _ _=>hs) f4.o
  (fun x a' W=> ∃Bx,w'.heap.size≤Bx∧W.heap[Bx]?=some (.cells (vcells x.1.2).toArray 124 (0,0))∧a'={tmps:=#[.pointer (some ⟨p,0,none⟩),.slice ka keep.length kc,undef,.pointer (some ⟨w.heap.size,0,none⟩),.int .i64 0,.pointer (some ⟨w.heap.size+1+1,0,none⟩),.pointer (some ⟨w.heap.size+1+1+1,0,none⟩),undef,.pointer (some ⟨Bx,0,none⟩),.pointer (some ⟨p,0,none⟩),.bool false,.map (some (w.heap.size+1)),.pointer (some ⟨p,0,none⟩),.func (.func 141) #[] #[.pointer (some ⟨w.heap.size+1+1+1+1,0,none⟩)],.int .i64 x.1.1,.agg (vcells x.1.2).toArray,undef,undef,undef,undef,undef,undef,undef,undef,undef,undef,undef,undef,undef,undef,undef,undef,undef,undef,undef,undef,undef,undef,undef,undef,undef,undef,undef],defers:=[]}) ?hAx ?assign ?body ?done ?stop
 case hI=>
  rintro a0 W W' row hs hg hr
  exact hs.kept (by omega) hg (fun r e=>(hr r e).1)
 case hAx=>
  rintro x a' _ W W' row ⟨Bx,h1,h2,h3⟩ hg hr
  refine⟨Bx,h1,(hg.block Bx (Za h2) (fun e=>?_)).trans h2,h3⟩
  obtain⟨_,o,ho,hc⟩:=hr Bx e.symm
  rw[h2] at ho
  cases ho
  cases hc
 case assign=>
  intro l a0 x W K hs hK
  clear a2 a1 hS
  have a4:=Yi x.2.1
  have d1:=V a4
  have c6:=V hs
  have f2:=V hK
  have hi:(Tryz.prog.info? 124).map (·.size)=some (vcells x.1.2).length:=by rw[Tryz.size124,a4]
  have HI:=V hi
  clear a4 hs hK hi
  iterate 5 gi_step
  have a9:(W.alloc (.cells Tryz.zeroCells124 124)).heap[W.heap.size]?=some (.cells Tryz.zeroCells124 124 (0,0)):=Zc rfl
  have g6:(W.alloc (.cells Tryz.zeroCells124 124)).there W.heap.size 0 (vcells x.1.2).toArray.size:=by
   have:=Zq a9
   rwa [show Tryz.zeroCells124.size=(vcells x.1.2).toArray.size by rw[Tryz.zsize124];simp[d1.o]] at this
  refine Zag rfl (fun _ h=>by cases h) rfl (Zbc rfl rfl rfl g6 (by rw[HI.o];simp) (all_oneCell_toArray (Zba x.1.2))) ?_
  have f9:=Zi (vs:=vcells x.1.2) a9 (by rw[Tryz.zsize124,d1.o])
  have a5:U0 W ((W.alloc (.cells Tryz.zeroCells124 124)).setCells W.heap.size 0 (vcells x.1.2)):=by
   have:=Upd.setCells (F:=fun j=>W.heap.size≤j) (b:=W.heap.size) (Nat.le_refl _) (vcells x.1.2) 0 ((Upd.refl _ W).alloc (.cells Tryz.zeroCells124 124))
   exact this.mono (fun j hj e=>by omega)
  have e7:W.grownBy ((W.alloc (.cells Tryz.zeroCells124 124)).setCells W.heap.size 0 (vcells x.1.2)) none:=⟨a5.os,a5.tape,a5.output,a5.size,fun j hj _=>a5.block j hj id⟩
  gi_step
  refine f2.o _ _ (KeepsFrom.of_grownBy e7 (fun j e=>by cases e)) (fun k hk=>a5.block k (Nat.lt_of_lt_of_le (HS.o k hk).2 c6.o.size) id) (c6.o.kept (by omega) e7 (fun r e=>by cases e)) ⟨W.heap.size,c6.o.size,f9,rfl⟩
 case body=>
  rintro l a0 x a' W hl f3 hs ⟨Bx,h4,d7,rfl⟩ g1
  have a4:=x.2.1
  obtain⟨kx,b5⟩: ∃kx,kx=keep.getD a0.length false:=⟨_,rfl⟩
  have g0:=V b5
  have d5:W.drew.cell? ⟨w.heap.size+1+1,0,none⟩=some (.map (some (w.heap.size+1))):=Zf hs.cm
  have d4:W.drew.cell? ⟨Bx,64,none⟩=some (.int .i64 x.1.2.2):=by rw[Zr (w:=W.drew) d7];simp[vcells,a4]
  have e2:W.drew.cell? ⟨w.heap.size+1+1+1,0,none⟩=some (.int .i64 a0.length):=Zf hs.cn
  have f1:W.drew.cell? ⟨w.heap.size,0,none⟩=some (.slice ka keep.length kc):=Zf hs.ck
  obtain⟨W4,b0,b2,a6⟩:=hs.map.drew.update (Maps.int_keyed Tryz.underlying3) Tryz.underlying138 (by unfold maxLen;omega) (key:=.int .i64 x.1.2.2) (kl:=.int .i64 x.1.2.2) (by
   refine Maps.keyOf_int_mk Tryz.underlying3 ?_
   have:=x.2.2
   simp[Lit.wf,IntKind.min,IntKind.max,IntKind.signed,IntKind.bits];omega) (plainElem_bool Tryz.underlying4 kx)
  have b3:W.grownBy W4 (some (w.heap.size+1)):=⟨a6.os,a6.tape,a6.output,a6.size,a6.block⟩
  have f0:=V (hs.step (by omega) (by rw[←b5];exact b2) b3)
  have c7:W4.heap[w.heap.size+3]?=some (.cells #[.int .i64 a0.length] 3 (0,0)):=(b3.block _ (Za hs.cn) (fun e=>by have:=Option.some.inj e;omega)).trans hs.cn
  have h0:W4.cell? ⟨w.heap.size+1+1+1,0,none⟩=some (.int .i64 a0.length):=Zf c7
  have h7:W4.frozen? ⟨w.heap.size+1+1+1,0,none⟩=false:=Zb c7
  have e4:=V ((KeepsFrom.of_grownBy b3 (B:=w'.heap.size) (fun j e=>by have:=Option.some.inj e;omega)).trans ((KeepsOthers.setCell W4 ⟨w.heap.size+3,0,none⟩ (.int .i64 (a0.length+1:Nat))).from _))
  have e1:RowKit.Hid (Keep (fun k=>k=w.heap.size+4∨v.ownBlock=some k) W (W4.setCell ⟨w.heap.size+3,0,none⟩ (.int .i64 (a0.length+1:Nat)))):=V (fun k hk=>by
   have h1:=HS.o k hk
   have h2:=hs.size
   rw[Yd (by show k≠w.heap.size+3;omega),b3.block k (by omega) (fun e=>by have:=Option.some.inj e;omega)])
  have d2:a0.length<keep.length→ ∃kb ko,ka=some ⟨kb,ko,none⟩∧W.drew.cell? ⟨kb,ko+a0.length,none⟩=some (.bool kx):=fun a3=>by
   obtain⟨kb,ko,h1,h2,h3⟩:=HK.o.kept hs.upd n3Z a0.length kx (by rw[b5];simp[List.getD_eq_getElem?_getD,a3])
   exact⟨kb,ko,h1,h3⟩
  have b4:=V b0
  have c3:=V d2
  clear b0 b2 a6 b3 c7 d2 a2 a1 hS hs f3 d7 a4 b5
  by_cases a3:a0.length<keep.length
  ·obtain⟨kb,ko,rfl,h6⟩:=c3.o a3
   have c8:(a0.length:Int)<keep.length:=by omega
   clear c3
   gi_upto_region 7 with fail
   refine Zbk (n:=13) (fun W'=>W'=W.drew) [false,false,false,false,false,false,false,false,false,false,false,false,false,false] rfl (by kernel_rfl) ?_
   refine wsZ 0 (.map (some (w.heap.size+1))) rfl (fun w5 q1=>?_) ?_
   ·subst q1;go_simp
   simp only[zz]
   refine wsZ 1 (.pointer (some ⟨Bx,64,none⟩)) rfl (fun w5 q1=>?_) ?_
   ·subst q1;go_simp
   simp only[zz]
   refine wsZ 2 (.int .i64 x.1.2.2) rfl (fun w5 q1=>?_) ?_
   ·subst q1;go_simp
   simp only[zz]
   refine wsZ 3 (.int .i64 (a0.length:Int)) rfl (fun w5 q1=>?_) ?_
   ·subst q1;go_simp
   simp only[zz]
   refine wsZ 4 (.slice (some ⟨kb,ko,none⟩) keep.length kc) rfl (fun w5 q1=>?_) ?_
   ·subst q1;go_simp
   simp only[zz]
   refine wsZ 5 (.int .i64 (keep.length:Int)) rfl (fun w5 q1=>?_) ?_
   ·subst q1;go_simp
   simp only[zz]
   refine wsZ 6 (.bool true) rfl (fun w5 q1=>?_) ?_
   ·subst q1;go_simp
   simp only[zz]
   refine wsZ 7 (.bool true) rfl (fun w5 q1=>?_) ?_
   ·subst q1;go_simp
   simp only[zz]
   refine wsZ 8 (.slice (some ⟨kb,ko,none⟩) keep.length kc) rfl (fun w5 q1=>?_) ?_
   ·subst q1;go_simp
   simp only[zz]
   refine wsZ 9 (.int .i64 (a0.length:Int)) rfl (fun w5 q1=>?_) ?_
   ·subst q1;go_simp
   simp only[zz]
   refine wsZ 10 (.pointer (some ⟨kb,ko+a0.length,none⟩)) rfl (fun w5 q1=>?_) ?_
   ·subst q1;go_simp
   simp only[zz]
   refine wsZ 11 (.bool kx) rfl (fun w5 q1=>?_) ?_
   ·subst q1;go_simp
   simp only[zz]
   refine wsZ 12 (.bool kx) rfl (fun w5 q1=>?_) ?_
   ·subst q1;go_simp
   simp only[zz]
   clear d5 d4 e2 f1
   refine Zeb (i:=13) (w':=W4) (u:=undef) rfl (by kernel_rfl) rfl (fun _ h=>by cases h) rfl (.inr ⟨?_,rfl⟩) (by kernel_rfl) (by kernel_rfl) ?_
   ·exact Zdo rfl rfl rfl rfl b4.o
   simp only[Act.put]
   gi_wp2
   exact⟨e4.o,e1.o,f0.o⟩
  ·have c8: ¬(a0.length:Int)<keep.length:=by omega
   have g3:kx=false:=by rw[g0.o];simp[List.getD_eq_getElem?_getD,Nat.le_of_not_lt a3]
   subst g3
   clear c3
   gi_upto_region 7 with fail
   refine Zbk (n:=13) (fun W'=>W'=W.drew) [false,false,false,false,false,false,false,false,false,false,false,false,false,false] rfl (by kernel_rfl) ?_
   refine wsZ 0 (.map (some (w.heap.size+1))) rfl (fun w5 q1=>?_) ?_
   ·subst q1;go_simp
   simp only[zz]
   refine wsZ 1 (.pointer (some ⟨Bx,64,none⟩)) rfl (fun w5 q1=>?_) ?_
   ·subst q1;go_simp
   simp only[zz]
   refine wsZ 2 (.int .i64 x.1.2.2) rfl (fun w5 q1=>?_) ?_
   ·subst q1;go_simp
   simp only[zz]
   refine wsZ 3 (.int .i64 (a0.length:Int)) rfl (fun w5 q1=>?_) ?_
   ·subst q1;go_simp
   simp only[zz]
   refine wsZ 4 (.slice ka keep.length kc) rfl (fun w5 q1=>?_) ?_
   ·subst q1;go_simp
   simp only[zz]
   refine wsZ 5 (.int .i64 (keep.length:Int)) rfl (fun w5 q1=>?_) ?_
   ·subst q1;go_simp
   simp only[zz]
   refine wsZ 6 (.bool false) rfl (fun w5 q1=>?_) ?_
   ·subst q1;go_simp
   simp only[zz]
   refine wsZ 7 (.bool false) rfl (fun w5 q1=>?_) ?_
   ·subst q1;go_simp
   simp only[zz]
   refine Zax (i:=8) (v:=undef) rfl (by kernel_rfl) (fun _ h=>by cases h) (fun _ _=>rfl) rfl (.inr ⟨rfl,rfl⟩) ?_
   simp only[zz]
   refine Zax (i:=9) (v:=undef) rfl (by kernel_rfl) (fun _ h=>by cases h) (fun _ _=>rfl) rfl (.inr ⟨rfl,rfl⟩) ?_
   simp only[zz]
   refine Zax (i:=10) (v:=undef) rfl (by kernel_rfl) (fun _ h=>by cases h) (fun _ _=>rfl) rfl (.inr ⟨rfl,rfl⟩) ?_
   simp only[zz]
   refine Zax (i:=11) (v:=undef) rfl (by kernel_rfl) (fun _ h=>by cases h) (fun _ _=>rfl) rfl (.inr ⟨rfl,rfl⟩) ?_
   simp only[zz]
   refine wsZ 12 (.bool false) rfl (fun w5 q1=>?_) ?_
   ·subst q1;go_simp
   simp only[zz]
   clear d5 d4 e2 f1
   refine Zeb (i:=13) (w':=W4) (u:=undef) rfl (by kernel_rfl) rfl (fun _ h=>by cases h) rfl (.inr ⟨?_,rfl⟩) (by kernel_rfl) (by kernel_rfl) ?_
   ·exact Zdo rfl rfl rfl rfl b4.o
   simp only[Act.put]
   gi_wp2
   exact⟨e4.o,e1.o,f0.o⟩
 case done=>
  rintro Dd ys W i0 e0 hs c9
  rw[e0] at hs
  have d9:R.Pairwise (fun x y=>x.1.2.2<y.1.2.2):=by
   have:=HO.o.sorted
   rw[←hR,List.pairwise_map] at this
   exact this
  have b6: ∀k,w.heap.size≤k→ ¬F k:=fun k hk hf=>by have:=HD.o.lt k hf;omega
  have b1:Dsk W p D F:=HD.o.kept hs.upd n3Z
  have e9: ∀W1,Upd F W W1→ ∀v:List Int×Int,okBlk v.1→(0≤v.2∧v.2≤1099511627774)→Calls Tryz.prog 78 (#[.agg (vcells v).toArray]++#[.pointer (some ⟨w.heap.size+1+1,0,none⟩)]) W1 fun e w'=>e=.returned (.bool ((fun n=>!D.keepsAt keep n) v.2))∧U0 W1 w':=fun W1 hu v hv hn=>by
   have g9:=(hu.block _ (Za hs.cm) (b6 _ (by omega))).trans hs.cm
   have g8:W1.ownsMap Tryz.prog 3 (plainElem Tryz.prog 4) (w.heap.size+1) R.length (kmap keep 0 (.map []) R):=by
    obtain⟨es,a7,h1,h2⟩:=hs.map
    exact⟨es,a7,(hu.block _ (Za h1) (b6 _ (by omega))).trans h1,h2⟩
   refine(Zk8 v W1 hv hn g9 g8).mono ?_
   rintro e w2 ⟨rfl,h2⟩
   refine⟨?_,h2⟩
   rw[Zg8 keep v.2 R 0 (.map []) Maps.isMap_empty d9 rfl,hR]
   rfl
  have HA:=V (Zew (lost:=fun n=>!D.keepsAt keep n) 78 #[.pointer (some ⟨w.heap.size+1+1,0,none⟩)] W b1 HO.o Zd9 e9)
  have HU:=V hs.upd
  have d8:=V b6
  have c2:=Za c9
  have g7:=V c9
  clear d9 b1 e9 hs c9 a2 a1 hS e0 b6
  gi_wp2_with (refine⟨trivial,?_⟩;gi_at_call 77;refine(callsIn_wide.2 HA.o).mono ?_;rintro e w5 ⟨rfl,F5,⟨s5,g5,c5,b8,a8⟩,d0,e6⟩;have m5:=Z0 b8.main;have f5: ∀k,w5.frozen? ⟨p,k,none⟩=false:=fun k=>Zb b8.main;have d3:=V b8;have f6:=V a8;have e3:=V d0;have c1:=V e6;clear b8 a8 d0 e6 HA)
  obtain⟨W6,c0⟩: ∃W6,W6=(((w5.setCell ⟨p,5,none⟩ (.bool false)).setCell ⟨p,3,none⟩ (.int .i64 (-1))).setCell ⟨p,4,none⟩ (.int .i64 (-1))):=⟨_,rfl⟩
  rw[←c0]
  have b7:Upd (fun k=>k=p) w5 W6:=by
   rw[c0]
   exact((Zd _ p 5 _).trans (Zd _ p 3 _)).trans (Zd _ p 4 _)
  have c4:=Ze (i:=4) (v:=.int .i64 (-1)) (Ze (i:=3) (v:=.int .i64 (-1)) (Ze (i:=5) (v:=.bool false) d3.o.main))
  rw[←c0] at c4
  have f7:DiskAt W6 p (D.crash keep) s5 g5 c5:=d3.o.withMain rfl rfl (by simp at c4;exact c4) b7
  have g2:Dsk W6 p (D.crash keep) F5:=⟨s5,g5,c5,f7,f6.o⟩
  have e8:F p:=HD.o.mem
  have g1:=HD.o.lt p e8
  have h8:=b7.size
  have h9:=c1.o.size
  have hz:=HU.o.size
  have f8:W6.heap[Dd]?=some (.deferred (some [])):=by
   rw[b7.block Dd (by omega) (by omega),c1.o.block Dd c2 (d8.o Dd (by omega)),g7.o]
  refine⟨by simp,.inl ⟨_,_,rfl,run_takeDeferred f8,?_⟩⟩
  have d6:Upd (fun k=>k=Dd) W6 (W6.putObj Dd (.deferred none)):=Upd.of_grown (grownBy_putObj' _ Dd _) (fun k hk=>(Option.some.inj hk).symm)
  refine⟨_,results_tmp rfl _ _ _,rfl,F5,g2.kept d6 (fun k hk e=>?_),fun k hk=>(e3.o k hk).imp id (fun e=>by omega),?_⟩
  ·rcases e3.o k hk with h1 | h1
   ·exact d8.o k (by omega) h1
   ·omega
  ·refine Upd.step (G:=fun k=>k=Dd) ((((HU.o.mono (fun _ _ e=>e.elim)).trans c1.o).trans (b7.mono (fun k _ e=>e ▸ e8)))) d6 (fun k hk e=>by omega)
 case stop=>
  rintro D c a0 W _ _ h _
  exact h.elim
end
section
open Go.RowKit Go.Shelf
attribute [local go_sem] Oper.semAt_some
theorem Zoj {p:Nat}{D:Dk}(w:World)(ka:Option Addr)(kc:Nat)(keep:List Bool)(R:List El)(hk:BoolsAt w ka keep)(hkl:keep.length≤140737488355328)(h:Dsk w p D F)(hok:D.Ok 1099511627774)(hR:R.map (·.1)=D.row)
  (hlen:R.length≤1099511627774)
  (hrow: ∀W,U0 w W→Calls Tryz.prog 76 #[.pointer (some ⟨p,0,none⟩)] W fun e w'=>e=.returned (.func (.func 141) #[] #[.pointer (some ⟨W.heap.size,0,none⟩)])∧ ∃v,RowT W w' W.heap.size R v):
  Calls Tryz.prog 16 #[.pointer (some ⟨p,0,none⟩),.slice ka keep.length kc] w fun e w'=>e=.returned (.int .i64 0)∧Left w p (D.crash keep) F w':=by
 have HR:=V hrow
 have HK:=V hk
 have HD:=V h
 have HO:=V hok
 clear hrow hk h hok
 have g4: ∀w,(Instr.makeMap 138 none).run Tryz.prog w=.ok (.map (some w.heap.size)) (w.alloc (.map #[] 0)):=fun _=>rfl
 refine(callsIn_wide (n:=3)).1 ?_
 refine callsIn_of_wp_marks Tryz.func16 rfl trivial ?_ rfl
 simp only[Tryz.ntmps16,List.size_toArray,List.length_cons,List.length_nil,Nat.reduceAdd,Nat.reduceSub,Array.replicate_succ,Array.replicate_zero,List.push_toArray,List.append_toArray,List.nil_append,List.cons_append]
 gi_wp2_with (refine⟨trivial,?_⟩;gi_at_call 76;refine(callsIn_wide.2 (HR.o _ (((((Upd.refl _ w).alloc _).alloc _).alloc _).alloc _))).mono ?_;rintro e w' ⟨rfl,v,hv⟩)
 clear g4
 have h5:w.heap.size+4<w'.heap.size:=by have:=Za hv.cell;simp at this;omega
 have e5:=CrAt.start (kv:=.slice ka keep.length kc) (keep:=keep) hv.upd
 have HV:=V hv
 have f4:=V e5
 have a3: ∀k,v.ownBlock=some k→w.heap.size+4≤k∧k<w'.heap.size:=fun k hk=>by
  rcases hv.row with ⟨rfl,_⟩ | ⟨gg,b9,rfl,h1,hg,_⟩
  ·simp[Value.ownBlock] at hk
  ·simp[Value.ownBlock] at hk;simp at h1;omega
 have hS: ∀k,(k=w.heap.size+4∨v.ownBlock=some k)→w.heap.size+4≤k∧k<w'.heap.size:=fun k hk=>hk.elim (fun e=>by omega) (a3 k)
 have a2:(v=.slice none 0 0∧R=[])∨ ∃gg b9,v=.slice (some ⟨gg,0,none⟩) R.length b9∧(gg=w.heap.size+4∨v.ownBlock=some gg)∧ ∀i x,R[i]?=some x→w'.rangeAt gg (i * 66) (encE x):=by
  rcases hv.row with ⟨h1,h2⟩ | ⟨gg,b9,h1,_,_,h2⟩
  ·exact .inl ⟨h1,h2⟩
  ·exact .inr ⟨gg,b9,h1,.inr (by rw[h1];rfl),h2⟩
 have a1:w'.cell? ⟨w.heap.size+4,0,none⟩=some v:=by
  have:=hv.cell
  simp only[World.size_alloc] at this
  exact Zf this
 have HS:=V hS
 clear hv e5 a3
 refine wpIn_rangeFunc_ownH rfl (by omega) (gf:=141) (lb:=#[.pointer (some ⟨w.heap.size+4,0,none⟩)]) rfl trivial (enters_of Tryz.func141 (by kernel_rfl) rfl)
  (Zfc Fence.wide (3 - 1) trivial rfl (by omega) (w.heap.size+4) (fun k=>k=w.heap.size+4∨v.ownBlock=some k) v R (by omega) w' (fun k hk=>(hS k hk).2) (by omega) a1 a2)
  (fun h k=>h.trans k) (Zmz (fun k hk=>(hS k hk).2)) (Below.refl _ _) (fun _=>rfl)
  (fun a0 W=>CrAt w w' (.slice ka keep.length kc) keep a0 W) (fun _ _ _=>False) ?hI (fun _ _ _ _ _ hs _ _=>hs) f4.o
  (fun x a' W=> ∃Bx,w'.heap.size≤Bx∧W.heap[Bx]?=some (.cells (vcells x.1.2).toArray 124 (0,0))∧a'={tmps:=#[.pointer (some ⟨p,0,none⟩),.slice ka keep.length kc,undef,.pointer (some ⟨w.heap.size,0,none⟩),.int .i64 0,.pointer (some ⟨w.heap.size+1+1,0,none⟩),.pointer (some ⟨w.heap.size+1+1+1,0,none⟩),undef,.pointer (some ⟨Bx,0,none⟩),.pointer (some ⟨p,0,none⟩),.bool false,.map (some (w.heap.size+1)),.pointer (some ⟨p,0,none⟩),.func (.func 141) #[] #[.pointer (some ⟨w.heap.size+1+1+1+1,0,none⟩)],.int .i64 x.1.1,.agg (vcells x.1.2).toArray,undef,undef,undef,undef,undef,undef,undef,undef,undef,undef,undef,undef,undef,undef,undef,undef,undef,undef,undef,undef,undef,undef,undef,undef,undef,undef,undef],defers:=[]}) ?hAx ?assign ?body ?done ?stop
 case hI=>
  rintro a0 W W' row hs hg hr
  exact hs.kept (by omega) hg (fun r e=>(hr r e).1)
 case hAx=>
  rintro x a' _ W W' row ⟨Bx,h1,h2,h3⟩ hg hr
  refine⟨Bx,h1,(hg.block Bx (Za h2) (fun e=>?_)).trans h2,h3⟩
  obtain⟨_,o,ho,hc⟩:=hr Bx e.symm
  rw[h2] at ho
  cases ho
  cases hc
 case assign=>
  intro l a0 x W K hs hK
  clear a2 a1 hS
  have a4:=Yi x.2.1
  have d1:=V a4
  have c6:=V hs
  have f2:=V hK
  have hi:(Tryz.prog.info? 124).map (·.size)=some (vcells x.1.2).length:=by rw[Tryz.size124,a4]
  have HI:=V hi
  clear a4 hs hK hi
  iterate 5 gi_step
  have a9:(W.alloc (.cells Tryz.zeroCells124 124)).heap[W.heap.size]?=some (.cells Tryz.zeroCells124 124 (0,0)):=Zc rfl
  have g6:(W.alloc (.cells Tryz.zeroCells124 124)).there W.heap.size 0 (vcells x.1.2).toArray.size:=by
   have:=Zq a9
   rwa [show Tryz.zeroCells124.size=(vcells x.1.2).toArray.size by rw[Tryz.zsize124];simp[d1.o]] at this
  refine Zag rfl (fun _ h=>by cases h) rfl (Zbc rfl rfl rfl g6 (by rw[HI.o];simp) (all_oneCell_toArray (Zba x.1.2))) ?_
  have f9:=Zi (vs:=vcells x.1.2) a9 (by rw[Tryz.zsize124,d1.o])
  have a5:U0 W ((W.alloc (.cells Tryz.zeroCells124 124)).setCells W.heap.size 0 (vcells x.1.2)):=by
   have:=Upd.setCells (F:=fun j=>W.heap.size≤j) (b:=W.heap.size) (Nat.le_refl _) (vcells x.1.2) 0 ((Upd.refl _ W).alloc (.cells Tryz.zeroCells124 124))
   exact this.mono (fun j hj e=>by omega)
  have e7:W.grownBy ((W.alloc (.cells Tryz.zeroCells124 124)).setCells W.heap.size 0 (vcells x.1.2)) none:=⟨a5.os,a5.tape,a5.output,a5.size,fun j hj _=>a5.block j hj id⟩
  gi_step
  refine f2.o _ _ (KeepsFrom.of_grownBy e7 (fun j e=>by cases e)) (fun k hk=>a5.block k (Nat.lt_of_lt_of_le (HS.o k hk).2 c6.o.size) id) (c6.o.kept (by omega) e7 (fun r e=>by cases e)) ⟨W.heap.size,c6.o.size,f9,rfl⟩
 case body=>
  rintro l a0 x a' W hl f3 hs ⟨Bx,h4,d7,rfl⟩ g1
  have a4:=x.2.1
  obtain⟨kx,b5⟩: ∃kx,kx=keep.getD a0.length false:=⟨_,rfl⟩
  have g0:=V b5
  have d5:W.drew.cell? ⟨w.heap.size+1+1,0,none⟩=some (.map (some (w.heap.size+1))):=Zf hs.cm
  have d4:W.drew.cell? ⟨Bx,64,none⟩=some (.int .i64 x.1.2.2):=by rw[Zr (w:=W.drew) d7];simp[vcells,a4]
  have e2:W.drew.cell? ⟨w.heap.size+1+1+1,0,none⟩=some (.int .i64 a0.length):=Zf hs.cn
  have f1:W.drew.cell? ⟨w.heap.size,0,none⟩=some (.slice ka keep.length kc):=Zf hs.ck
  obtain⟨W4,b0,b2,a6⟩:=hs.map.drew.update (Maps.int_keyed Tryz.underlying3) Tryz.underlying138 (by unfold maxLen;omega) (key:=.int .i64 x.1.2.2) (kl:=.int .i64 x.1.2.2) (by
   refine Maps.keyOf_int_mk Tryz.underlying3 ?_
   have:=x.2.2
   simp[Lit.wf,IntKind.min,IntKind.max,IntKind.signed,IntKind.bits];omega) (plainElem_bool Tryz.underlying4 kx)
  have b3:W.grownBy W4 (some (w.heap.size+1)):=⟨a6.os,a6.tape,a6.output,a6.size,a6.block⟩
  have f0:=V (hs.step (by omega) (by rw[←b5];exact b2) b3)
  have c7:W4.heap[w.heap.size+3]?=some (.cells #[.int .i64 a0.length] 3 (0,0)):=(b3.block _ (Za hs.cn) (fun e=>by have:=Option.some.inj e;omega)).trans hs.cn
  have h0:W4.cell? ⟨w.heap.size+1+1+1,0,none⟩=some (.int .i64 a0.length):=Zf c7
  have h7:W4.frozen? ⟨w.heap.size+1+1+1,0,none⟩=false:=Zb c7
  have e4:=V ((KeepsFrom.of_grownBy b3 (B:=w'.heap.size) (fun j e=>by have:=Option.some.inj e;omega)).trans ((KeepsOthers.setCell W4 ⟨w.heap.size+3,0,none⟩ (.int .i64 (a0.length+1:Nat))).from _))
  have e1:RowKit.Hid (Keep (fun k=>k=w.heap.size+4∨v.ownBlock=some k) W (W4.setCell ⟨w.heap.size+3,0,none⟩ (.int .i64 (a0.length+1:Nat)))):=V (fun k hk=>by
   have h1:=HS.o k hk
   have h2:=hs.size
   rw[Yd (by show k≠w.heap.size+3;omega),b3.block k (by omega) (fun e=>by have:=Option.some.inj e;omega)])
  have d2:a0.length<keep.length→ ∃kb ko,ka=some ⟨kb,ko,none⟩∧W.drew.cell? ⟨kb,ko+a0.length,none⟩=some (.bool kx):=fun a3=>by
   obtain⟨kb,ko,h1,h2,h3⟩:=HK.o.kept hs.upd n3Z a0.length kx (by rw[b5];simp[List.getD_eq_getElem?_getD,a3])
   exact⟨kb,ko,h1,h3⟩
  have b4:=V b0
  have c3:=V d2
  clear b0 b2 a6 b3 c7 d2 a2 a1 hS hs f3 d7 a4 b5
  by_cases a3:a0.length<keep.length
  ·obtain⟨kb,ko,rfl,h6⟩:=c3.o a3
   have c8:(a0.length:Int)<keep.length:=by omega
   clear c3
   gi_upto_region 7 with fail
   refine Zbk (n:=13) (fun W'=>W'=W.drew) [false,false,false,false,false,false,false,false,false,false,false,false,false,false] rfl (by kernel_rfl) ?_
   refine wsZ 0 (.map (some (w.heap.size+1))) rfl (fun w5 q1=>?_) ?_
   ·subst q1;go_simp
   simp only[zz]
   refine wsZ 1 (.pointer (some ⟨Bx,64,none⟩)) rfl (fun w5 q1=>?_) ?_
   ·subst q1;go_simp
   simp only[zz]
   refine wsZ 2 (.int .i64 x.1.2.2) rfl (fun w5 q1=>?_) ?_
   ·subst q1;go_simp
   simp only[zz]
   refine wsZ 3 (.int .i64 (a0.length:Int)) rfl (fun w5 q1=>?_) ?_
   ·subst q1;go_simp
   simp only[zz]
   refine wsZ 4 (.slice (some ⟨kb,ko,none⟩) keep.length kc) rfl (fun w5 q1=>?_) ?_
   ·subst q1;go_simp
   simp only[zz]
   refine wsZ 5 (.int .i64 (keep.length:Int)) rfl (fun w5 q1=>?_) ?_
   ·subst q1;go_simp
   simp only[zz]
   refine wsZ 6 (.bool true) rfl (fun w5 q1=>?_) ?_
   ·subst q1;go_simp
   simp only[zz]
   refine wsZ 7 (.bool true) rfl (fun w5 q1=>?_) ?_
   ·subst q1;go_simp
   simp only[zz]
   refine wsZ 8 (.slice (some ⟨kb,ko,none⟩) keep.length kc) rfl (fun w5 q1=>?_) ?_
   ·subst q1;go_simp
   simp only[zz]
   refine wsZ 9 (.int .i64 (a0.length:Int)) rfl (fun w5 q1=>?_) ?_
   ·subst q1;go_simp
   simp only[zz]
   refine wsZ 10 (.pointer (some ⟨kb,ko+a0.length,none⟩)) rfl (fun w5 q1=>?_) ?_
   ·subst q1;go_simp
   simp only[zz]
   refine wsZ 11 (.bool kx) rfl (fun w5 q1=>?_) ?_
   ·subst q1;go_simp
   simp only[zz]
   refine wsZ 12 (.bool kx) rfl (fun w5 q1=>?_) ?_
   ·subst q1;go_simp
   simp only[zz]
   clear d5 d4 e2 f1
   refine Zeb (i:=13) (w':=W4) (u:=undef) rfl (by kernel_rfl) rfl (fun _ h=>by cases h) rfl (.inr ⟨?_,rfl⟩) (by kernel_rfl) (by kernel_rfl) ?_
   ·exact Zdo rfl rfl rfl rfl b4.o
   simp only[Act.put]
   gi_wp2
   exact⟨e4.o,e1.o,f0.o⟩
  ·have c8: ¬(a0.length:Int)<keep.length:=by omega
   have g3:kx=false:=by rw[g0.o];simp[List.getD_eq_getElem?_getD,Nat.le_of_not_lt a3]
   subst g3
   clear c3
   gi_upto_region 7 with fail
   refine Zbk (n:=13) (fun W'=>W'=W.drew) [false,false,false,false,false,false,false,false,false,false,false,false,false,false] rfl (by kernel_rfl) ?_
   refine wsZ 0 (.map (some (w.heap.size+1))) rfl (fun w5 q1=>?_) ?_
   ·subst q1;go_simp
   simp only[zz]
   refine wsZ 1 (.pointer (some ⟨Bx,64,none⟩)) rfl (fun w5 q1=>?_) ?_
   ·subst q1;go_simp
   simp only[zz]
   refine wsZ 2 (.int .i64 x.1.2.2) rfl (fun w5 q1=>?_) ?_
   ·subst q1;go_simp
   simp only[zz]
   refine wsZ 3 (.int .i64 (a0.length:Int)) rfl (fun w5 q1=>?_) ?_
   ·subst q1;go_simp
   simp only[zz]
   refine wsZ 4 (.slice ka keep.length kc) rfl (fun w5 q1=>?_) ?_
   ·subst q1;go_simp
   simp only[zz]
   refine wsZ 5 (.int .i64 (keep.length:Int)) rfl (fun w5 q1=>?_) ?_
   ·subst q1;go_simp
   simp only[zz]
   refine wsZ 6 (.bool false) rfl (fun w5 q1=>?_) ?_
   ·subst q1;go_simp
   simp only[zz]
   refine wsZ 7 (.bool false) rfl (fun w5 q1=>?_) ?_
   ·subst q1;go_simp
   simp only[zz]
   refine Zax (i:=8) (v:=undef) rfl (by kernel_rfl) (fun _ h=>by cases h) (fun _ _=>rfl) rfl (.inr ⟨rfl,rfl⟩) ?_
   simp only[zz]
   refine Zax (i:=9) (v:=undef) rfl (by kernel_rfl) (fun _ h=>by cases h) (fun _ _=>rfl) rfl (.inr ⟨rfl,rfl⟩) ?_
   simp only[zz]
   refine Zax (i:=10) (v:=undef) rfl (by kernel_rfl) (fun _ h=>by cases h) (fun _ _=>rfl) rfl (.inr ⟨rfl,rfl⟩) ?_
   simp only[zz]
   refine Zax (i:=11) (v:=undef) rfl (by kernel_rfl) (fun _ h=>by cases h) (fun _ _=>rfl) rfl (.inr ⟨rfl,rfl⟩) ?_
   simp only[zz]
   refine wsZ 12 (.bool false) rfl (fun w5 q1=>?_) ?_
   ·subst q1;go_simp
   simp only[zz]
   clear d5 d4 e2 f1
   refine Zeb (i:=13) (w':=W4) (u:=undef) rfl (by kernel_rfl) rfl (fun _ h=>by cases h) rfl (.inr ⟨?_,rfl⟩) (by kernel_rfl) (by kernel_rfl) ?_
   ·exact Zdo rfl rfl rfl rfl b4.o
   simp only[Act.put]
   gi_wp2
   exact⟨e4.o,e1.o,f0.o⟩
 case done=>
  rintro Dd ys W i0 e0 hs c9
  rw[e0] at hs
  have d9:R.Pairwise (fun x y=>x.1.2.2<y.1.2.2):=by
   have:=HO.o.sorted
   rw[←hR,List.pairwise_map] at this
   exact this
  have b6: ∀k,w.heap.size≤k→ ¬F k:=fun k hk hf=>by have:=HD.o.lt k hf;omega
  have b1:Dsk W p D F:=HD.o.kept hs.upd n3Z
  have e9: ∀W1,Upd F W W1→ ∀v:List Int×Int,okBlk v.1→(0≤v.2∧v.2≤1099511627774)→Calls Tryz.prog 78 (#[.agg (vcells v).toArray]++#[.pointer (some ⟨w.heap.size+1+1,0,none⟩)]) W1 fun e w'=>e=.returned (.bool ((fun n=>!D.keepsAt keep n) v.2))∧U0 W1 w':=fun W1 hu v hv hn=>by
   have g9:=(hu.block _ (Za hs.cm) (b6 _ (by omega))).trans hs.cm
   have g8:W1.ownsMap Tryz.prog 3 (plainElem Tryz.prog 4) (w.heap.size+1) R.length (kmap keep 0 (.map []) R):=by
    obtain⟨es,a7,h1,h2⟩:=hs.map
    exact⟨es,a7,(hu.block _ (Za h1) (b6 _ (by omega))).trans h1,h2⟩
   refine(Zk8 v W1 hv hn g9 g8).mono ?_
   rintro e w2 ⟨rfl,h2⟩
   refine⟨?_,h2⟩
   rw[Zg8 keep v.2 R 0 (.map []) Maps.isMap_empty d9 rfl,hR]
   rfl
  have HA:=V (Zew (lost:=fun n=>!D.keepsAt keep n) 78 #[.pointer (some ⟨w.heap.size+1+1,0,none⟩)] W b1 HO.o Zd9 e9)
  have HU:=V hs.upd
  have d8:=V b6
  have c2:=Za c9
  have g7:=V c9
  clear d9 b1 e9 hs c9 a2 a1 hS e0 b6
  gi_wp2_with (refine⟨trivial,?_⟩;gi_at_call 77;refine(callsIn_wide.2 HA.o).mono ?_;rintro e w5 ⟨rfl,F5,⟨s5,g5,c5,b8,a8⟩,d0,e6⟩;have m5:=Z0 b8.main;have f5: ∀k,w5.frozen? ⟨p,k,none⟩=false:=fun k=>Zb b8.main;have d3:=V b8;have f6:=V a8;have e3:=V d0;have c1:=V e6;clear b8 a8 d0 e6 HA)
  obtain⟨W6,c0⟩: ∃W6,W6=(((w5.setCell ⟨p,5,none⟩ (.bool false)).setCell ⟨p,3,none⟩ (.int .i64 (-1))).setCell ⟨p,4,none⟩ (.int .i64 (-1))):=⟨_,rfl⟩
  rw[←c0]
  have b7:Upd (fun k=>k=p) w5 W6:=by
   rw[c0]
   exact((Zd _ p 5 _).trans (Zd _ p 3 _)).trans (Zd _ p 4 _)
  have c4:=Ze (i:=4) (v:=.int .i64 (-1)) (Ze (i:=3) (v:=.int .i64 (-1)) (Ze (i:=5) (v:=.bool false) d3.o.main))
  rw[←c0] at c4
  have f7:DiskAt W6 p (D.crash keep) s5 g5 c5:=d3.o.withMain rfl rfl (by simp at c4;exact c4) b7
  have g2:Dsk W6 p (D.crash keep) F5:=⟨s5,g5,c5,f7,f6.o⟩
  have e8:F p:=HD.o.mem
  have g1:=HD.o.lt p e8
  have h8:=b7.size
  have h9:=c1.o.size
  have hz:=HU.o.size
  have f8:W6.heap[Dd]?=some (.deferred (some [])):=by
   rw[b7.block Dd (by omega) (by omega),c1.o.block Dd c2 (d8.o Dd (by omega)),g7.o]
  refine⟨by simp,.inl ⟨_,_,rfl,run_takeDeferred f8,?_⟩⟩
  have d6:Upd (fun k=>k=Dd) W6 (W6.putObj Dd (.deferred none)):=Upd.of_grown (grownBy_putObj' _ Dd _) (fun k hk=>(Option.some.inj hk).symm)
  refine⟨_,results_tmp rfl _ _ _,rfl,F5,g2.kept d6 (fun k hk e=>?_),fun k hk=>(e3.o k hk).imp id (fun e=>by omega),?_⟩
  ·rcases e3.o k hk with h1 | h1
   ·exact d8.o k (by omega) h1
   ·omega
  ·refine Upd.step (G:=fun k=>k=Dd) ((((HU.o.mono (fun _ _ e=>e.elim)).trans c1.o).trans (b7.mono (fun k _ e=>e ▸ e8)))) d6 (fun k hk e=>by omega)
 case stop=>
  rintro D c a0 W _ _ h _
  exact h.elim
end
end Go.Proofs.YtbimkhdiplnbfaaGreat
