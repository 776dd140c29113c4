/- Walks. -/
import Derived.Test.YtbimkhdiplnbfaaGreatU28
set_option linter.unusedVariables false
set_option linter.unusedSimpArgs false
namespace Go.Proofs.YtbimkhdiplnbfaaGreat
set_option maxRecDepth 1000000
set_option maxHeartbeats 16000000
section
open Go.RowKit Go.Shelf
attribute [local go_sem] Oper.semAt_some
section
variable {F:Fence} {m:Nat} {P:Program} {md:Region.Mode} {Q:Exit→Act→World→Prop} {n:Nat} {A:World→Prop}
theorem Zgx {l:List Oper}{i j:Nat}{oi oj:Oper}{f:Nat}{L:Array Bool}{a:Act}{w:World}(hi':l[i]?=some oi)(hj':l[j]?=some oj)(hr:Region.ready md l.toArray L=[i,j])(hgi:Region.wanted oi (yielded l.toArray a.tmps)=true)(hgj:Region.wanted oj (yielded l.toArray a.tmps)=true)
  (h1: ∀K:Act→World→Prop,(∀a' w',(((L.setIfInBounds i true).getD n true=false→A w')∧wpGI F m P md l.toArray Q n A f (L.setIfInBounds i true) a' w')→K a' w')→oi.wpIn F m P a w K Q)
  (h2: ∀K:Act→World→Prop,(∀a' w',(((L.setIfInBounds j true).getD n true=false→A w')∧wpGI F m P md l.toArray Q n A f (L.setIfInBounds j true) a' w')→K a' w')→oj.wpIn F m P a w K Q):wpGI F m P md l.toArray Q n A (f+1) L a w:=by
 have hi:l.toArray[i]?=some oi:=by simpa using hi'
 have hj:l.toArray[j]?=some oj:=by simpa using hj'
 refine⟨fun h0=>(by rw[hr] at h0;cases h0),fun k hk=>?_⟩
 rw[hr] at hk
 simp only[List.mem_cons,List.not_mem_nil,or_false] at hk
 rcases hk with rfl | rfl
 ·unfold wpOpIn
  simp only[hi,hgi,if_true]
  exact h1 _ (fun a' w' h=>h)
 ·unfold wpOpIn
  simp only[hj,hgj,if_true]
  exact h2 _ (fun a' w' h=>h)
end
structure ModAt (w:World) (m q p:Nat) (s:Int×KV) (area:Int) (X:Lg) (D:Dk) (C T:Nat→Prop) (G F:Nat→Prop):Prop where
 cells: ∃(a:Option Addr) (c:Nat),w.heap[m]?=some (.cells #[.pointer (some ⟨q,0,none⟩),.int .u64 s.1,.slice a s.2.length c,.int .i64 area] 108 (0,0))∧ValsAt w C a s.2∧ ∀g o,a=some ⟨g,o,none⟩→T g
 sub: ∀k,C k→T k
 apart: ∀k,T k→ ¬G k∧ ¬F k∧k≠m∧k<w.heap.size
 nm: ¬G m∧ ¬F m
 gf: ∀k,G k→ ¬F k
 row:RowC w C
 log:Log w q p X G
 disk:Dsk w p D F
 fine:s.2.Fine
def FineB (B:Nat)(C:Nat→Prop)(a:Option Addr)(l:KV):Prop:=l.Fine∧(∀k,C k→B≤k)∧ ∀g o,a=some ⟨g,o,none⟩→B≤g
def LOpenAns (w:World)(p K:Nat)(F:Nat→Prop)(R:Option Lg×Int×Dk)(e:Ending)(w':World):Prop:=
 ∃F',Dsk w' p R.2.2 F'∧(∀k,F' k→F k∨w.heap.size≤k)∧Upd F w w'∧R.2.2.Ok (K+1002000)∧match R.1 with
 |none=>e=.returned (.tuple #[.pointer none,.int .i64 R.2.1])
 |some X=>X.Ok∧X.broken=false∧ ∃p0 txs,X.parts=p0 :: txs∧(((foundN p0 txs).2=false∧e=.returned (.tuple #[.pointer none,.int .i64 302]))∨
   ((foundN p0 txs).2=true∧ ∃m q C T G',e=.returned (.tuple #[.pointer (some ⟨m,0,none⟩),.int .i64 0])∧ModAt w' m q p (foundN p0 txs).1 (areaN (X.h.area - X.used) X.parts) X R.2.2 C T G' F'∧w.heap.size≤m∧(∀k,G' k→w.heap.size≤k)∧ ∀k,T k→w.heap.size≤k))
theorem Zdx {va la:Option Addr}{vc lc:Nat}{p0:List Int}{txs:List (List Int)}(w0:World)(hp:BytesIn w0 (.slice va p0.length vc) p0)(hl:TxRows w0 la txs)(hb: ∀x,x=p0∨x∈txs→Bytes x∧x.length≤40000)(hn:txs.length≤1000000)(hf:(foundN p0 txs).2=false):
  Calls Tryz.prog 121 #[.slice va p0.length vc,.slice la txs.length lc] w0 fun e w'=>e=.returned (.tuple #[.agg #[.int .u64 0,.slice none 0 0],.bool false])∧U0 w0 w':=
 (Zff w0 hp hl hb hn).mono fun e w' ⟨h1,h2⟩=>by
  rcases h2 with ⟨_,h2⟩ | ⟨h2,_⟩
  ·exact⟨h2,h1⟩
  ·rw[hf] at h2;cases h2
theorem Zda {va la:Option Addr}{vc lc:Nat}{p0:List Int}{txs:List (List Int)}{ev:Int}{l:KV}(w0:World)(hp:BytesIn w0 (.slice va p0.length vc) p0)(hl:TxRows w0 la txs)(hb: ∀x,x=p0∨x∈txs→Bytes x∧x.length≤40000)(hn:txs.length≤1000000)(hf:foundN p0 txs=((ev,l),true)){B:Nat}(hB:B≤w0.heap.size):
  Calls Tryz.prog 121 #[.slice va p0.length vc,.slice la txs.length lc] w0 fun e w'=> ∃(C:Nat→Prop) (a:Option Addr) (c:Nat),e=.returned (.tuple #[.agg #[.int .u64 ev,.slice a l.length c],.bool true])∧ValsAt w' C a l∧RowC w' C∧(∀g o,a=some ⟨g,o,none⟩→ ∃ds,w'.heap[g]?=some (.cells ds 164 (0,0)))∧FineB B C a l∧U0 w0 w':=
 (Zff w0 hp hl hb hn).mono fun e w' ⟨h1,h2⟩=>by
  rw[hf] at h2
  rcases h2 with ⟨h2,_⟩ | ⟨_,h3,C,a,c,h4,h5,h6,h7,h8,h9⟩
  ·cases h2
  ·exact⟨C,a,c,h4,h5,h6,h7,⟨h3,fun k hk=>Nat.le_trans hB (h8 k hk),fun g o e=>Nat.le_trans hB (h9 g o e)⟩,h1⟩
structure FoAt (w1:World) (lb ab:Nat) (X:Lg) (a1:Int) (pre:List (Nat×Value)) (W:World):Prop where
 row: ∃(a:Option Addr) (c:Nat),W.heap[lb]?=some (.cells #[.slice a pre.length c] 32 (0,0))∧ ∃vs,W.ownsRow w1.heap.size 39 1 (.slice a pre.length c) pre.length vs∧ ∃C:Nat→Prop,RowC W C∧ ∀(i:Nat) u b,vs[i]?=some u→X.parts.tail[i]?=some b→BytesAt W C u b
 area:W.heap[ab]?=some (.cells #[.int .i64 (areaN a1 (X.parts.tail.take pre.length))] 3 (0,0))
 upd:Upd (fun k=>k=lb∨k=ab) w1 W
 len:pre.length+1≤X.parts.length
theorem FoAt.upd0 {w1 W W':World}{lb ab:Nat}{X:Lg}{a1:Int}{pre:List (Nat×Value)}(h:FoAt w1 lb ab X a1 pre W)(hu:U0 W W'):FoAt w1 lb ab X a1 pre W':=by
 obtain⟨⟨a,c,h1,vs,h2,C,h3,h4⟩,h5,h6,h7⟩:=h
 exact⟨⟨a,c,kb hu h1,vs,Zy h2 hu n3Z,C,h3.kept hu n3Z,fun i u b hu' hb=>(h4 i u b hu' hb).kept hu n3Z⟩,kb hu h5,h6.trans (hu.mono (F:=fun _=>False) (fun _ _ e=>e.elim)),h7⟩
theorem Zcz {w:World}{B:Nat}{t:TypeId}{n k:Nat}{v:Value}{m:Nat}{vs:List Value}(h:w.ownsRow B t n v m vs)(hk:v.ownBlock=some k): ∃ds,w.heap[k]?=some (.cells ds t (0,0)):=by
 rcases h.2 with ⟨h1,_⟩ | ⟨g,a1,a0,h1,_,hg,_⟩
 ·rw[h1] at hk;simp[Value.ownBlock] at hk
 ·rw[h1] at hk
  simp only[Value.ownBlock,Option.some.injEq] at hk
  subst hk
  exact⟨_,hg⟩
theorem FoAt.put {w1 W:World}{lb ab lr:Nat}{X:Lg}{a1:Int}{pre:List (Nat×Value)}{o:Loop}(o':Obj)(h:FoAt w1 lb ab X a1 pre W)(hl:w1.heap.size≤lr)(ho:W.heap[lr]?=some (.loop o)):FoAt w1 lb ab X a1 pre (W.putObj lr o'):=by
 obtain⟨⟨a,c,h1,vs,h2,C,h3,h4⟩,h5,h6,h7⟩:=h
 have hF: ∀{k:Nat} {ds:Array Value} {t:TypeId},W.heap[k]?=some (.cells ds t (0,0))→ ¬k=lr:=by
  rintro k ds t hp rfl
  rw[ho] at hp
  injection hp with hp
  cases hp
 have hu:Upd (fun k=>k=lr) W (W.putObj lr o'):=(Zd5 (W:=W) (l:=lr) o').mono (F:=fun k=>k=lr) (G:=fun k=>k=lr) n3Z
 have hC: ∀k,C k→ ¬k=lr:=fun k hk=>by
  obtain⟨ds,q⟩:=h3 k hk
  exact hF q
 exact⟨⟨a,c,(hu.block _ (Za h1) (hF h1)).trans h1,vs,Zy h2 hu (fun k hk=>by
  obtain⟨ds,q⟩:=Zcz h2 hk
  exact hF q),C,h3.kept hu hC,fun i u b hu' hb=>(h4 i u b hu' hb).kept hu hC⟩,(hu.block _ (Za h5) (hF h5)).trans h5,h6.step hu (fun k hk e=>by omega),h7⟩
theorem Zp0 {p K:Nat}{D:Dk}{F:Nat→Prop}(w:World)(hD:Dsk w p D F)(hok:D.Ok K)(hK:K≤1000000000):
  Calls Tryz.prog 44 #[.pointer (some ⟨p,0,none⟩)] w (LOpenAns w p K F (openD D)):=by
 have o4:=Zg5 w hD hok (by omega)
 have h1:=Zfn (D:=D)
 have h2:=fun X=>Zhp (D:=D) (X:=X)
 obtain⟨R,hR⟩: ∃R,R=openD D:=⟨_,rfl⟩
 rw[←hR] at o4 h1 ⊢
 simp only[←hR] at h2
 obtain⟨o,E,D'⟩:=R
 clear hR hD hok hK
 have HC:=V o4
 clear o4
 cases o with
 |none=>
  have hE:E≠0:=h1 rfl
  clear h1 h2
  go_enter Tryz.func44,Tryz.ntmps44
  go_wp2_with (go_at_call 61;fail)
  refine HC.o.mono ?_
  rintro e w1 ⟨F',k1,k2,k3,k4,rfl⟩
  have HK:=V (show LOpenAns w p K F (none,E,D') (.returned (.tuple #[.pointer none,.int .i64 E])) w1 from⟨F',k1,k2,k3,k4,rfl⟩)
  clear k1 k2 k3 k4 HC
  simp only[]
  go_wp2
  go_returns
  exact HK.o
 |some X=>
  obtain⟨c6,i9⟩:=h2 X rfl
  obtain⟨p0,a7,hp⟩: ∃p0 a7,X.parts=p0 :: a7:=by
   cases e:X.parts with
   |nil=>exact absurd e c6
   |cons a b=>exact⟨a,b,rfl⟩
  clear h1 h2 c6
  have f8:=V i9;have HP:=V hp
  clear i9 hp
  refine(callsIn_wide (n:=5)).1 ?_
  refine callsIn_of_wp_marks Tryz.func44 rfl trivial ?_ rfl
  simp only[Tryz.ntmps44,List.size_toArray,List.length_cons,List.length_nil,Nat.reduceAdd,Nat.reduceSub,Array.replicate_succ,Array.replicate_zero,List.push_toArray,List.append_toArray,List.nil_append,List.cons_append]
  refine wpIn_mono ?_ Zhr
  refine wpIn_wide.2 ?_
  go_wp2_with (go_at_call 61;fail)
  refine HC.o.mono ?_
  rintro e w1 ⟨F',k1,k2,k3,k4,q,G',rfl,k5,k6,k7,k8⟩
  have H1:=V k1;have H2:=V k2;have H3:=V k3;have H4:=V k4;have b5:=V k5;have H6:=V k6;have H7:=V k7;have a8:=V k8
  have s4:=k8.bytes p0 (by rw[HP.o];simp)
  have t6:=V s4
  have t3:=V (show -1000000000≤X.h.area - X.used∧X.h.area - X.used≤1000000 by have:=k8.area;have:=k8.used;omega)
  clear k1 k2 k3 k4 k5 k6 k7 k8 HC s4
  simp only[]
  go_wp2_with (go_at_call 54;fail)
  obtain⟨wl,q7,s0,m8⟩:=nb w1 (.cells #[.slice none 0 0] 32)
  rw[←q7]
  obtain⟨lb,l6⟩: ∃lb,lb=w1.heap.size:=⟨_,rfl⟩
  rw[←l6] at m8 ⊢
  have s5:=V m8;have p6:=V s0;have u6:=V (show w.heap.size≤lb from by rw[l6];exact H3.o.size);have n5:=V (show w1.heap.size≤lb from by rw[l6];omega)
  clear q7 s0 m8 l6
  refine(Zem wl (b5.o.kept' p6.o) a8.o).mono ?_
  rintro e w2 ⟨rfl,f6⟩
  have j0:=V (p6.o.trans f6)
  have h8:=V (kb f6 s5.o)
  clear f6
  simp only[]
  go_wp2_with (go_at_call 71;fail)
  refine(Zcf w2 (b5.o.kept' j0.o) a8.o (b:=p0) (by rw[HP.o];rfl)).mono ?_
  rintro e w3 ⟨u,rfl,a2,b6⟩
  obtain⟨ua,uc,rfl,_⟩:=a2.bytesAt.1.slice
  have o1:=V (j0.o.trans b6)
  have i1:=V (kb b6 h8.o)
  clear a2 b6 h8
  simp only[]
  go_wp2_with (go_at_call 119;fail)
  refine(Y1 p0.length w3 (by have:=t6.o.2;omega)).mono ?_
  rintro e w4 ⟨rfl,rfl⟩
  obtain⟨a1,j9⟩: ∃a1,a1=X.h.area - X.used+secsI p0.length:=⟨_,rfl⟩
  have s6:=V j9
  have n9:0≤secsI p0.length∧secsI p0.length≤1000:=Zdv _
  have j6:=V (show -1000000≤a1∧a1≤1000000 by rw[j9];have:=a8.o.area;have:=a8.o.used;omega)
  have r0:IntKind.i64.wrap (X.h.area - X.used+secsI p0.length)=a1:=by rw[←j9,IntKind.wrap_i64];have:=j6.o;omega
  clear j9 n9
  simp only[]
  go_wp2_with (go_at_call 120;fail)
  have i3:=i1.o
  obtain⟨ab,m1⟩: ∃ab,ab=w4.heap.size:=⟨_,rfl⟩
  obtain⟨w5,l3⟩: ∃w5,w5=w4.alloc (.cells #[.int .i64 a1] 3):=⟨_,rfl⟩
  rw[←l3,←m1]
  have m3:U0 w4 w5:=by rw[l3];exact(Upd.refl _ w4).alloc _
  have o7:w5.heap[ab]?=some (.cells #[.int .i64 a1] 3 (0,0)):=by rw[l3,m1];exact Zc rfl
  refine(Zhg q w5).mono ?_
  rintro e w9 ⟨rfl,m5⟩
  have l5:U0 w5 w9:=by rw[m5];exact(Upd.refl _ w5).alloc _
  have p4:w9.heap[w5.heap.size]?=some (.cells #[.pointer (some ⟨q,0,none⟩)] 38 (0,0)):=by rw[m5];exact Zc rfl
  have d4:=V (kb (m3.trans l5) i3)
  have d5:=V (kb l5 o7)
  have a4:=V (o1.o.trans (m3.trans l5));have j3:=V p4
  obtain⟨bp,n0⟩: ∃bp,bp=w5.heap.size:=⟨_,rfl⟩
  rw[←n0] at j3 ⊢
  have e8:=V (show w1.heap.size≤lb∧w1.heap.size≤ab∧w1.heap.size≤bp∧ab≠lb∧bp≠lb∧bp≠ab∧lb<w9.heap.size∧ab<w9.heap.size∧bp<w9.heap.size from⟨n5.o,by rw[m1];exact o1.o.size,by rw[n0];exact Nat.le_trans o1.o.size m3.size,Zs d5.o d4.o (by decide),Zs j3.o d4.o (by decide),Zs j3.o d5.o (by decide),Za d4.o,Za d5.o,Za j3.o⟩)
  clear i3 m1 l3 m3 o7 m5 l5 p4 n0 i1 r0
  simp only[]
  go_wp2
  have m2:FoAt w9 lb ab X a1 [] w9:=⟨⟨none,0,d4.o,[],⟨by simp,.inl ⟨rfl,rfl⟩⟩,fun _=>False,fun k hk=>hk.elim,fun i u b hu=>by simp at hu⟩,d5.o,Upd.refl _ _,by rw[HP.o];simp⟩
  have s8:=V m2
  clear m2
  have l7:=V (show X.parts.length≤1000 from a8.o.len)
  refine(wpIn_wide (n:=5)).1 ?_
  refine Zbw (α:=Nat×Value) (encs:=fun x=>#[.int .i64 x.1,x.2]) rfl (by omega) (gf:=165) (lb:=#[.pointer (some ⟨bp,0,none⟩)]) rfl trivial (enters_of Tryz.func165 (by kernel_rfl) rfl) (fun _=>rfl)
   (fun a3 x W0 W1=>x.1=a3.length∧ ∃b,X.parts[a3.length+1]?=some b∧OwnB W1 W0.heap.size x.2 b) (fun xs=>xs.length+1=X.parts.length) (FoAt w9 lb ab X a1) (fun k=>G' k∨k=bp) ?hKp (fun _ _ _ h hu=>h.upd0 hu) (fun a3 W l o o' h hl ho=>h.put o' hl ho) s8.o ?hseq
   (fun x=>{tmps:=#[.pointer (some ⟨p,0,none⟩),undef,.pointer none,.int .i64 0,.pointer (some ⟨q,0,none⟩),.int .i64 0,.pointer (some ⟨lb,0,none⟩),.pointer (some ⟨ab,0,none⟩),undef,x.2,undef,undef,.tuple #[.pointer (some ⟨q,0,none⟩),.int .i64 0],.pointer (some ⟨p,0,none⟩),.tuple #[.pointer (some ⟨q,0,none⟩),.int .i64 0],.pointer (some ⟨q,0,none⟩),.int .i64 0,.int .i64 0,.bool false,undef,.pointer (some ⟨q,0,none⟩),.int .i64 (X.h.area - X.used),.pointer (some ⟨q,0,none⟩),.slice ua p0.length uc,.int .i64 p0.length,.int .i64 (secsI p0.length),.int .i64 a1,.pointer (some ⟨q,0,none⟩),.func (.func 165) #[] #[.pointer (some ⟨bp,0,none⟩)],.int .i64 x.1,x.2,undef,undef,undef,undef,undef,undef,undef,undef,undef,undef,undef,undef,undef,undef,undef,undef,undef,undef,undef,undef,undef,undef,undef],defers:=[]}) ?hassign ?hbody ?hdone
  case hKp=>
   rintro k (hk | hk)
   ·have:=b5.o.lt k hk;have:=a4.o.size;omega
   ·have:=e8.o;omega
  case hseq=>
   intro l J W h0 hW u4 hY
   refine Zkh 4 (by omega) l a8.o (by rw[HP.o];simp) J W ((b5.o.kept' a4.o).keep (fun k hk=>hW k (by have:=b5.o.lt k hk;have:=a4.o.size;omega))) ((hW _ (by have:=e8.o;omega)).trans j3.o) (fun a3 x W0 W1 b hj hu hx hb ho=>hY a3 x W0 W1 hj hu ⟨hx,b,hb,ho⟩) h0 u4
  case hassign=>
   intro l x W K hK
   have a0:=V hK
   clear hK
   gi_wp2
   exact a0.o
  case hbody=>
   rintro l a3 x W0 W1 W r r' hl e9 hu ⟨q9,b,hb,a2⟩ m7 rfl
   obtain⟨W,hW⟩: ∃W,W=W1.putObj l (.loop r'):=⟨_,rfl⟩
   rw[←hW]
   have m2:FoAt w9 lb ab X a1 a3 W:=by rw[hW];exact(e9.upd0 hu).put _ hl m7
   have b8:OwnB W W0.heap.size x.2 b:=by
    rw[hW]
    refine Zb6 a2 (fun k hk=>?_)
    refine World.putObj_heap_other (fun e=>?_)
    subst e
    rcases a2.2 with ⟨h,_⟩ | ⟨g,u8,u5,h,_,hg,_⟩
    ·rw[h] at hk;simp[Value.ownBlock] at hk
    ·rw[h] at hk
     simp only[Value.ownBlock,Option.some.injEq] at hk
     subst hk
     rw[m7] at hg
     injection hg with hg
     cases hg
   obtain⟨xk,u⟩:=x
   simp only at q9 b8
   subst q9
   obtain⟨n3,i9,_⟩:=b8.bytesAt
   obtain⟨l2,l8,rfl,_⟩:=n3.slice
   obtain⟨⟨ra,rc,f4,vs,c9,C,hC,f7⟩,c7,g1,m6⟩:=m2
   have j2:a3.length+1<X.parts.length:=(List.getElem?_eq_some_iff.1 hb).1
   have q8:=a8.o.bytes b (List.mem_of_getElem? hb)
   have j5:=Zd2 (X.parts.tail.take a3.length) a1
   have l4:(X.parts.tail.take a3.length).length≤1000:=by
    have:=l7.o
    simp only[List.length_take,List.length_tail]
    omega
   have n7:X.parts.tail[a3.length]?=some b:=by rw[List.getElem?_tail];exact hb
   have e6:X.parts.tail.take (a3.length+1)=X.parts.tail.take a3.length++[b]:=by
    obtain⟨h1,h2⟩:=List.getElem?_eq_some_iff.1 n7
    rw[List.take_succ_eq_append_getElem h1,h2]
   obtain⟨an,n6⟩: ∃an,an=areaN a1 (X.parts.tail.take a3.length):=⟨_,rfl⟩
   have n1:RowKit.Hid (areaN a1 (X.parts.tail.take (a3.length+1))=an+secsI b.length):=V (by rw[e6,Zid,n6])
   rw[←n6] at c7 j5
   have n4:=V (show -1100000≤an∧an≤2100000 by have:=j6.o;omega)
   have n9:=Zdv b.length
   have r0:IntKind.i64.wrap (an+secsI b.length)=an+secsI b.length:=by rw[IntKind.wrap_i64];have:=n4.o;omega
   have r5:=c9.lt
   have h6: ∀k,(Value.slice ra a3.length rc).ownBlock=some k→w9.heap.size≤k∧ ∃ds,W.heap[k]?=some (.cells ds 39 (0,0)):=fun k hk=>⟨(r5 k hk).1,Zcz c9 hk⟩
   have c4:=Zf f4
   have i4:=V f4;have o3:=V c9;have HC:=V hC;have o5:=V f7;have h4:=V c7;have i7:=V g1;have r2:=V n3;have f8:=V i9;have k9:=V q8;have q6:=V n7;have d3:=V j2;have b4:=V h6
   clear a2 b8 f4 c9 hC f7 c7 g1 m6 n3 i9 q8 n7 j5 l4 e6 j2 hb e9 hu m7 hW n6 n9 r5 h6
   gi_upto_region 8 with fail
   iterate 10 gi_step
   obtain⟨i0,e9,r4,s3,p8⟩:=info_parts Tryz.info28p
   refine wpListIn_append_own _ rfl (.tmp 31) (.tmp 33) 32 rfl w9.heap.size 39 i0 (.slice none 0 0) 1 24 Tryz.underlying32 e9 r4 s3 p8 rfl (by omega) _ _ _ rfl (o3.o.alloc _) ⟨W.heap.size,0,none⟩ 1 1 [.slice l2 b.length l8] rfl rfl (cell_one_new _ _ _) (by simp[Value.oneCell']) (by unfold maxLen;have:=d3.o;have:=l7.o;omega) (by have:=d3.o;have:=l7.o;omega) (by have:=i7.o.size;simp;omega) ?_
   intro v' j4 a9 e0 _
   obtain⟨g4,d0,rfl⟩:=ownsRow_succ a9
   have c8:Upd (fun k'=>(Value.slice ra a3.length rc).ownBlock=some k') W j4:=((Upd.refl _ W).alloc _).trans (Upd.of_grown e0 (fun k hk=>hk))
   have c6: ∀{j:Nat} {ds:Array Value} {t:TypeId},W.heap[j]?=some (.cells ds t (0,0))→t≠39→ ¬(Value.slice ra a3.length rc).ownBlock=some j:=fun h1 h2 e=>by
    obtain⟨ds,q⟩:=(b4.o _ e).2
    exact Zs h1 q h2 rfl
   have b3:=(c8.block _ (Za i4.o) (c6 i4.o (by decide))).trans i4.o
   have d2:=(c8.block _ (Za h4.o) (c6 h4.o (by decide))).trans h4.o
   have s7:=Zf b3
   have t4:j4.frozen? ⟨lb,0,none⟩=false:=Zb b3
   obtain⟨c2,d6⟩: ∃c2,c2=j4.setCell ⟨lb,0,none⟩ (.slice (some ⟨g4,0,none⟩) (a3.length+1) d0):=⟨_,rfl⟩
   have d1:Upd (fun k=>k=lb) j4 c2:=by rw[d6];exact Zd j4 lb 0 _
   have g7:c2.heap[lb]?=some (.cells #[.slice (some ⟨g4,0,none⟩) (a3.length+1) d0] 32 (0,0)):=by
    rw[d6]
    have:=Ze (i:=0) (v:=.slice (some ⟨g4,0,none⟩) (a3.length+1) d0) b3
    simpa using this
   have h5:=(d1.block _ (Za d2) (Zs d2 b3 (by decide))).trans d2
   have f6:Upd (fun k=>(Value.slice ra a3.length rc).ownBlock=some k∨k=lb) W c2:=(c8.mono (F:=fun k'=>(Value.slice ra a3.length rc).ownBlock=some k') (G:=fun k=>(Value.slice ra a3.length rc).ownBlock=some k∨k=lb) (fun _ _ e=>.inl e)).trans (d1.mono (F:=fun k=>k=lb) (fun _ _ e=>.inr e))
   have u3:g4≠lb:=by
    rintro rfl
    obtain⟨ds,q⟩:=Zcz a9 (k:=g4) rfl
    exact Zs q b3 (by decide) rfl
   have c1:=Zy a9 d1 (fun k hk e=>by simp[Value.ownBlock] at hk;omega)
   have g8:=V d6;have j7:=V g7;have d8:=V h5;have j0:=V f6;have b9:=V c1
   clear a9 e0 c8 c6 b3 d2 d6 d1 g7 h5 f6 u3 c1 e9 r4 s3 p8 c4
   gi_upto_region 9 with fail
   rw[←g8.o]
   have j1:=Zf d8.o
   have i6:c2.frozen? ⟨ab,0,none⟩=false:=Zb d8.o
   clear s7 t4
   have g3:=V (show c2.drew.heap[ab]?=some (.cells #[.int .i64 an] 3 (0,0)) from d8.o)
   have i5:=V (show U0 c2 c2.drew from(Upd.refl _ c2).drew)
   refine Zcd 5 (fun _=>True) [false,false,false,false,false,false] rfl (by kernel_rfl) ?_
   generalize c2.drew=wd at g3 i5 ⊢
   have j1:=Zf g3.o
   have i6:wd.frozen? ⟨ab,0,none⟩=false:=Zb g3.o
   have h7:FoAt w9 lb ab X a1 (a3++[(a3.length,.slice l2 b.length l8)]) (wd.setCell ⟨ab,0,none⟩ (.int .i64 (an+secsI b.length)))∧KeepsFrom w9.heap.size W (wd.setCell ⟨ab,0,none⟩ (.int .i64 (an+secsI b.length)))∧ ∀k,(G' k∨k=bp)→(wd.setCell ⟨ab,0,none⟩ (.int .i64 (an+secsI b.length))).heap[k]?=W.heap[k]?:=by
    obtain⟨wx,o2⟩: ∃wx,wx=wd.setCell ⟨ab,0,none⟩ (.int .i64 (an+secsI b.length)):=⟨_,rfl⟩
    rw[←o2]
    have c3:Upd (fun k=>k=ab) wd wx:=by rw[o2];exact Zd wd ab 0 _
    have t1:wx.heap[ab]?=some (.cells #[.int .i64 (an+secsI b.length)] 3 (0,0)):=by
     rw[o2]
     have:=Ze (i:=0) (v:=.int .i64 (an+secsI b.length)) g3.o
     simpa using this
    have m4:=kb i5.o j7.o
    have u0:=(c3.block _ (Za m4) (Zs m4 g3.o (by decide))).trans m4
    have hT:Upd (fun k=>(Value.slice ra a3.length rc).ownBlock=some k∨k=lb∨k=ab) W wx:=((j0.o.mono (F:=fun k=>(Value.slice ra a3.length rc).ownBlock=some k∨k=lb) (G:=fun k=>(Value.slice ra a3.length rc).ownBlock=some k∨k=lb∨k=ab) (fun _ _ e=>e.elim .inl (fun e=>.inr (.inl e)))).trans (i5.o.mono (F:=fun _=>False) (fun _ _ e=>e.elim))).trans (c3.mono (F:=fun k=>k=ab) (fun _ _ e=>.inr (.inr e)))
    have r8: ∀k,((Value.slice ra a3.length rc).ownBlock=some k∨k=lb∨k=ab)→ ∃ds t,W.heap[k]?=some (.cells ds t (0,0))∧t≠5:=by
     rintro k (e | rfl | rfl)
     ·obtain⟨ds,q⟩:=(b4.o k e).2
      exact⟨ds,39,q,by decide⟩
     ·exact⟨_,_,i4.o,by decide⟩
     ·exact⟨_,_,h4.o,by decide⟩
    have k0: ∀{k:Nat} {ds:Array Value},W.heap[k]?=some (.cells ds 5 (0,0))→ ¬((Value.slice ra a3.length rc).ownBlock=some k∨k=lb∨k=ab):=fun h1 h2=>by
     obtain⟨ds,t,q,ht⟩:=r8 _ h2
     exact Zs h1 q (fun e=>ht e.symm) rfl
    have n2:vs.length=a3.length:=by have:=o3.o.1;simpa using this
    refine⟨⟨⟨_,d0,by simpa using u0,vs++[.slice l2 b.length l8],?_,fun k=>C k∨(Value.slice l2 b.length l8).ownBlock=some k,?_,fun i u b' hi hb'=>?_⟩,?_,i7.o.step hT (fun k hk e=>?_),by have:=d3.o;simp;omega⟩,⟨hT.size,fun k o hk ho hc=>?_⟩,fun k hk=>?_⟩
    ·have h1:=Zy (Zy b9.o i5.o n3Z) c3 (fun k hk e=>by
      have:=Zcz (Zy b9.o i5.o n3Z) hk
      obtain⟨ds,q⟩:=this
      rw[e] at q
      exact Zs q g3.o (by decide) rfl)
     simpa using h1
    ·rintro k (hk | hk)
     ·obtain⟨ds,q⟩:=HC.o k hk
      exact⟨ds,(hT.block _ (Za q) (k0 q)).trans q⟩
     ·obtain⟨ds,q⟩:=f8.o k hk
      exact⟨ds,(hT.block _ (Za q) (k0 q)).trans q⟩
    ·rcases Nat.lt_or_ge i vs.length with h | h
     ·rw[List.getElem?_append_left h] at hi
      exact((o5.o i u b' hi hb').kept hT (fun k hk=>by
       obtain⟨ds,q⟩:=HC.o k hk
       exact k0 q)).mono (fun _ e=>.inl e)
     ·have e9:i=a3.length:=by
       have:=(List.getElem?_eq_some_iff.1 hi).1
       simp at this
       omega
      subst e9
      rw[List.getElem?_append_right (by omega),n2,Nat.sub_self] at hi
      simp only[List.getElem?_cons_zero,Option.some.injEq] at hi
      subst hi
      rw[q6.o] at hb'
      injection hb' with hb'
      subst hb'
      exact(r2.o.kept hT (fun k hk=>by
       obtain⟨ds,q⟩:=f8.o k hk
       exact k0 q)).mono (fun _ e=>.inr e)
    ·rw[List.length_append,List.length_cons,List.length_nil,Nat.zero_add,n1.o]
     exact t1
    ·rcases e with e | e
     ·have:=(b4.o k e).1
      omega
     ·exact e
    ·refine(hT.block k (Za ho) (fun e=>?_)).trans ho
     obtain⟨ds,t,q,_⟩:=r8 k e
     rw[ho] at q
     injection q with q
     subst q
     cases hc
    ·refine hT.block k ?_ (fun e=>?_)
     ·rcases hk with hk | hk
      ·have:=b5.o.lt k hk;have:=a4.o.size;have:=i7.o.size;omega
      ·have:=e8.o;have:=i7.o.size;omega
     ·rcases hk with hk | hk
      ·have h1:=b5.o.lt k hk;have h2:=e8.o;have h3:=a4.o.size
       rcases e with e | e | e
       ·have:=(b4.o k e).1;omega
       ·omega
       ·omega
      ·have h2:=e8.o
       rcases e with e | e | e
       ·have:=(b4.o k e).1;omega
       ·omega
       ·omega
   have d7:=V (show(Exit.normal=Exit.normal)∧_∧_∧_ from⟨rfl,h7⟩)
   clear h7 i4 o3 HC o5 h4 i7 r2 f8 q6 d3 b4 j7 d8 j0 b9 g8
   refine Zgx (i:=0) (j:=1) rfl rfl (by kernel_rfl) rfl rfl (fun K hK=>?_) (fun K hK=>?_)
   ·have a0:=V hK
    clear hK
    gi_step
    refine a0.o _ _ ⟨fun _=>trivial,?_⟩
    clear a0
    simp only[zz]
    refine Z5 (i:=1) rfl (by kernel_rfl) rfl (fun K hK=>?_)
    have a0:=V hK
    clear hK
    gi_step
    refine a0.o _ _ ⟨fun _=>trivial,?_⟩
    clear a0
    simp only[zz]
    refine Z5 (i:=2) rfl (by kernel_rfl) rfl (fun K hK=>?_)
    have a0:=V hK
    clear hK
    gi_step
    refine a0.o _ _ ⟨fun _=>trivial,?_⟩
    clear a0
    simp only[zz]
    refine Z5 (i:=3) rfl (by kernel_rfl) rfl (fun K hK=>?_)
    have a0:=V hK
    clear hK
    gi_step
    refine⟨trivial,?_⟩
    refine(CallsIn.inRound l (callsIn_wide.2 (Y1 b.length wd k9.o.2))).mono ?_
    rintro e w' ⟨rfl,rfl⟩
    simp only[]
    refine a0.o _ _ ⟨fun _=>trivial,?_⟩
    clear a0
    simp only[zz]
    refine Z5 (i:=4) rfl (by kernel_rfl) rfl (fun K hK=>?_)
    have a0:=V hK
    clear hK
    gi_step
    refine a0.o _ _ ⟨fun _=>trivial,?_⟩
    clear a0
    simp only[zz]
    refine Z5 (i:=5) rfl (by kernel_rfl) rfl (fun K hK=>?_)
    have a0:=V hK
    clear hK
    gi_step
    refine a0.o _ _ ⟨fun _=>trivial,?_⟩
    clear a0
    simp only[zz]
    refine Zah (by kernel_rfl) ?_
    clear j1 i6
    exact d7.o
   ·have a0:=V hK
    clear hK
    gi_step
    refine a0.o _ _ ⟨fun _=>trivial,?_⟩
    clear a0
    simp only[zz]
    refine Zgx (i:=0) (j:=2) rfl rfl (by kernel_rfl) rfl rfl (fun K hK=>?_) (fun K hK=>?_)
    ·have a0:=V hK
     clear hK
     gi_step
     refine a0.o _ _ ⟨fun _=>trivial,?_⟩
     clear a0
     simp only[zz]
     refine Z5 (i:=2) rfl (by kernel_rfl) rfl (fun K hK=>?_)
     have a0:=V hK
     clear hK
     gi_step
     refine a0.o _ _ ⟨fun _=>trivial,?_⟩
     clear a0
     simp only[zz]
     refine Z5 (i:=3) rfl (by kernel_rfl) rfl (fun K hK=>?_)
     have a0:=V hK
     clear hK
     gi_step
     refine⟨trivial,?_⟩
     refine(CallsIn.inRound l (callsIn_wide.2 (Y1 b.length wd k9.o.2))).mono ?_
     rintro e w' ⟨rfl,rfl⟩
     simp only[]
     refine a0.o _ _ ⟨fun _=>trivial,?_⟩
     clear a0
     simp only[zz]
     refine Z5 (i:=4) rfl (by kernel_rfl) rfl (fun K hK=>?_)
     have a0:=V hK
     clear hK
     gi_step
     refine a0.o _ _ ⟨fun _=>trivial,?_⟩
     clear a0
     simp only[zz]
     refine Z5 (i:=5) rfl (by kernel_rfl) rfl (fun K hK=>?_)
     have a0:=V hK
     clear hK
     gi_step
     refine a0.o _ _ ⟨fun _=>trivial,?_⟩
     clear a0
     simp only[zz]
     refine Zah (by kernel_rfl) ?_
     clear j1 i6
     exact d7.o
    ·have a0:=V hK
     clear hK
     gi_step
     refine a0.o _ _ ⟨fun _=>trivial,?_⟩
     clear a0
     simp only[zz]
     refine Zgx (i:=0) (j:=3) rfl rfl (by kernel_rfl) rfl rfl (fun K hK=>?_) (fun K hK=>?_)
     ·have a0:=V hK
      clear hK
      gi_step
      refine a0.o _ _ ⟨fun _=>trivial,?_⟩
      clear a0
      simp only[zz]
      refine Z5 (i:=3) rfl (by kernel_rfl) rfl (fun K hK=>?_)
      have a0:=V hK
      clear hK
      gi_step
      refine⟨trivial,?_⟩
      refine(CallsIn.inRound l (callsIn_wide.2 (Y1 b.length wd k9.o.2))).mono ?_
      rintro e w' ⟨rfl,rfl⟩
      simp only[]
      refine a0.o _ _ ⟨fun _=>trivial,?_⟩
      clear a0
      simp only[zz]
      refine Z5 (i:=4) rfl (by kernel_rfl) rfl (fun K hK=>?_)
      have a0:=V hK
      clear hK
      gi_step
      refine a0.o _ _ ⟨fun _=>trivial,?_⟩
      clear a0
      simp only[zz]
      refine Z5 (i:=5) rfl (by kernel_rfl) rfl (fun K hK=>?_)
      have a0:=V hK
      clear hK
      gi_step
      refine a0.o _ _ ⟨fun _=>trivial,?_⟩
      clear a0
      simp only[zz]
      refine Zah (by kernel_rfl) ?_
      clear j1 i6
      exact d7.o
     ·have a0:=V hK
      clear hK
      gi_step
      refine⟨trivial,?_⟩
      refine(CallsIn.inRound l (callsIn_wide.2 (Y1 b.length wd k9.o.2))).mono ?_
      rintro e w' ⟨rfl,rfl⟩
      simp only[]
      refine a0.o _ _ ⟨fun _=>trivial,?_⟩
      clear a0
      simp only[zz]
      refine Z5 (i:=0) rfl (by kernel_rfl) rfl (fun K hK=>?_)
      have a0:=V hK
      clear hK
      gi_step
      refine a0.o _ _ ⟨fun _=>trivial,?_⟩
      clear a0
      simp only[zz]
      refine Z5 (i:=4) rfl (by kernel_rfl) rfl (fun K hK=>?_)
      have a0:=V hK
      clear hK
      gi_step
      refine a0.o _ _ ⟨fun _=>trivial,?_⟩
      clear a0
      simp only[zz]
      refine Z5 (i:=5) rfl (by kernel_rfl) rfl (fun K hK=>?_)
      have a0:=V hK
      clear hK
      gi_step
      refine a0.o _ _ ⟨fun _=>trivial,?_⟩
      clear a0
      simp only[zz]
      refine Zah (by kernel_rfl) ?_
      clear j1 i6
      exact d7.o
  case hdone=>
   rintro xs Wd hS hs hK
   obtain⟨⟨ra,rc,f4,vs,c9,C,hC,f7⟩,c7,g1,m6⟩:=hs
   have l0:X.parts.tail=a7:=by rw[HP.o];rfl
   have l4:xs.length=a7.length:=by rw[←l0,List.length_tail];omega
   rw[l0,l4,List.take_length] at c7
   rw[l0] at f7
   rw[l4] at f4 c9
   have n2:vs.length=a7.length:=by have:=c9.1;simpa using this
   have o6:TxRows Wd ra a7:=fun i x hx=>by
    have u7:=(List.getElem?_eq_some_iff.1 hx).1
    obtain⟨u,hu⟩: ∃u,vs[i]?=some u:=⟨_,List.getElem?_eq_getElem (by omega)⟩
    obtain⟨g,e1,e2⟩:=Zg2 c9 hu
    exact⟨g,u,e1,e2,(f7 i u x hu hx).bytesIn⟩
   have i2:areaN a1 a7=areaN (X.h.area - X.used) X.parts:=by rw[HP.o,s6.o];rfl
   rw[i2] at c7
   obtain⟨t0,f5⟩: ∃x,x=areaN (X.h.area - X.used) X.parts:=⟨_,rfl⟩
   rw[←f5] at c7
   have m9:=V f5
   have b7:=V ((b5.o.kept' a4.o).kept' (Upd.refl (fun _=>False) w9))
   have p3:Log Wd q p X G':=(b5.o.kept' a4.o).keep (fun k hk=>g1.block k (by have:=b5.o.lt k hk;have:=a4.o.size;omega) (fun e=>by have:=b5.o.lt k hk;have:=e8.o;omega))
   have b7:=V p3
   have j8:=V f4;have n8:=V c7;have f9:=V o6;have s2:=V hK
   have l1:=V (show U0 w1 Wd from a4.o.step g1 (fun k hk e=>by have:=e8.o;omega))
   have g5:=V (show∀x,x=p0∨x∈a7→Bytes x∧x.length≤40000 from fun x hx=>a8.o.bytes x (by rw[HP.o];simpa using hx))
   have g0:=V (show a7.length≤1000000 by have:=l7.o;rw[HP.o] at this;simp at this;omega)
   have r3:=V (show w9.heap.size<Wd.heap.size from Za hK)
   clear f4 c9 hC f7 c7 g1 m6 l0 n2 o6 i2 f5 p3 hK hS
   go_wp2_with (fail)
   obtain⟨s9,s1⟩: ∃s,s=foundN p0 a7:=⟨_,rfl⟩
   have g6:=V s1
   obtain⟨⟨ev,l⟩,ok⟩:=s9
   clear s1
   cases ok with
   |false=>
    have e5:=V (show(foundN p0 a7).2=false by rw[←g6.o])
    go_cut [10,11] from 40 to 47 (fun v10 v11 wx=> ∃bo,v10=.pointer (some ⟨bo,0,none⟩)∧v11=.bool false∧U0 Wd wx)
    case first=>
     have hA:U0 Wd Wd.drew:=(Upd.refl _ Wd).drew
     have HU:=V hA
     refine Zj 9 (fun W=>U0 Wd W) [false,false,false,false,false,false,false,false,false,false] rfl (by kernel_rfl) ?_
     generalize Wd.drew=wd at hA HU ⊢
     refine tpZ 0 (.pointer (some ⟨q,0,none⟩)) hA ?_
     simp only[zz]
     refine tqZ 2 (.slice ra a7.length rc) [] hA (fun w5 q1=>?_) ?_
     ·have c0:=Zf (kb q1 j8.o)
      go_simp
     simp only[zz]
     refine Ya (i:=1) (j:=7) rfl rfl (by kernel_rfl) rfl rfl (fun K hK=>?_) (fun K hK=>?_)
     ·have a0:=V hK
      clear hK
      go_step
      refine(Zcf wd (b7.o.kept' hA) a8.o (b:=p0) (by rw[HP.o];rfl)).mono ?_
      rintro e WA ⟨u1,rfl,a2,g2⟩
      have hA:=hA.trans g2
      have HU:=V hA
      obtain⟨pa,pc,rfl,_⟩:=a2.bytesAt.1.slice
      have HO:=V a2.bytesAt.1.bytesIn
      clear a2 g2
      simp only[]
      refine a0.o _ _ hA ?_
      clear a0
      simp only[zz]
      refine Ya (i:=3) (j:=7) rfl rfl (by kernel_rfl) rfl rfl (fun K hK=>?_) (fun K hK=>?_)
      ·have a0:=V hK
       clear hK
       go_step
       refine(Zdx WA HO.o (f9.o.kept0 hA) g5.o g0.o e5.o).mono ?_
       rintro e WB ⟨rfl,g2⟩
       have hA:=hA.trans g2
       have HU:=V hA
       clear g2 HO
       simp only[]
       refine a0.o _ _ hA ?_
       clear a0
       simp only[zz]
       refine tpZ 4 (.tuple #[.agg #[.int .u64 0,.slice none 0 0],.bool false]) hA ?_
       simp only[zz]
       refine tpZ 5 (.agg #[.int .u64 0,.slice none 0 0]) hA ?_
       simp only[zz]
       refine tpZ 6 (.bool false) hA ?_
       simp only[zz]
       refine doZ 7 (fun K a0=>?_)
       go_step
       have ua:U0 WB (WB.alloc (.cells #[.int .u64 0,.slice none 0 0] 62)):=(Upd.refl _ _).alloc _
       have a6:=V HU.o.size
       have HX:=V (Zc (w:=WB) (o:=.cells #[.int .u64 0,.slice none 0 0] 62) rfl)
       have hA:=hA.trans ua
       have HU:=V (HU.o.trans ua)
       clear ua
       refine a0.o _ _ hA ?_
       clear a0
       simp only[zz]
       generalize WB.alloc (.cells #[.int .u64 0,.slice none 0 0] 62)=WBX at HX hA HU ⊢
       generalize WB.heap.size=bo at HX a6 ⊢
       have f0:WBX.frozen? ⟨bo,0,none⟩=false:=Zb HX.o
       have f1:WBX.frozen? ⟨bo,1,none⟩=false:=Zb HX.o
       obtain⟨b0,b1⟩:=Zg HX.o
       refine doZ 8 (fun K a0=>?_)
       go_step
       obtain⟨p1,p2⟩:=put2 (u:=.int .u64 0) (v:=.slice none 0 0) HX.o
       have hA:=hA.step p2 (fun k hk e=>by have:=a6.o;omega)
       have HU:=V hA
       refine a0.o _ _ hA ?_
       clear a0 f0 f1 b0 b1
       have e7:=V p1;have d9:=V p2
       clear p1 p2
       simp only[zz]
       refine tlZ 9 ?_
       simp only[List.drop]
       go_wp2
       go_meet
       case rel=>
        exact⟨bo,rfl,rfl,HU.o⟩
      ·have a0:=V hK
       clear hK
       go_step
       have ua:U0 WA (WA.alloc (.cells #[.int .u64 0,.slice none 0 0] 62)):=(Upd.refl _ _).alloc _
       have a6:=V HU.o.size
       have HX:=V (Zc (w:=WA) (o:=.cells #[.int .u64 0,.slice none 0 0] 62) rfl)
       have hA:=hA.trans ua
       have HU:=V (HU.o.trans ua)
       have HO:=V (HO.o.kept ua)
       clear ua
       refine a0.o _ _ hA ?_
       clear a0
       simp only[zz]
       generalize WA.alloc (.cells #[.int .u64 0,.slice none 0 0] 62)=WAX at HX hA HU HO ⊢
       generalize WA.heap.size=bo at HX a6 ⊢
       refine doZ 3 (fun K a0=>?_)
       go_step
       refine(Zdx WAX HO.o (f9.o.kept0 hA) g5.o g0.o e5.o).mono ?_
       rintro e WB ⟨rfl,g2⟩
       have hA:=hA.trans g2
       have HU:=V hA
       have HX:=V (kb g2 HX.o)
       clear g2 HO
       simp only[]
       refine a0.o _ _ hA ?_
       clear a0
       simp only[zz]
       refine tpZ 4 (.tuple #[.agg #[.int .u64 0,.slice none 0 0],.bool false]) hA ?_
       simp only[zz]
       refine tpZ 5 (.agg #[.int .u64 0,.slice none 0 0]) hA ?_
       simp only[zz]
       refine tpZ 6 (.bool false) hA ?_
       simp only[zz]
       have f0:WB.frozen? ⟨bo,0,none⟩=false:=Zb HX.o
       have f1:WB.frozen? ⟨bo,1,none⟩=false:=Zb HX.o
       obtain⟨b0,b1⟩:=Zg HX.o
       refine doZ 8 (fun K a0=>?_)
       go_step
       obtain⟨p1,p2⟩:=put2 (u:=.int .u64 0) (v:=.slice none 0 0) HX.o
       have hA:=hA.step p2 (fun k hk e=>by have:=a6.o;omega)
       have HU:=V hA
       refine a0.o _ _ hA ?_
       clear a0 f0 f1 b0 b1
       have e7:=V p1;have d9:=V p2
       clear p1 p2
       simp only[zz]
       refine tlZ 9 ?_
       simp only[List.drop]
       go_wp2
       go_meet
       case rel=>
        exact⟨bo,rfl,rfl,HU.o⟩
     ·have a0:=V hK
      clear hK
      go_step
      have ua:U0 wd (wd.alloc (.cells #[.int .u64 0,.slice none 0 0] 62)):=(Upd.refl _ _).alloc _
      have a6:=V HU.o.size
      have HX:=V (Zc (w:=wd) (o:=.cells #[.int .u64 0,.slice none 0 0] 62) rfl)
      have hA:=hA.trans ua
      have HU:=V (HU.o.trans ua)
      clear ua
      refine a0.o _ _ hA ?_
      clear a0
      simp only[zz]
      generalize wd.alloc (.cells #[.int .u64 0,.slice none 0 0] 62)=wdX at HX hA HU ⊢
      generalize wd.heap.size=bo at HX a6 ⊢
      refine doZ 1 (fun K a0=>?_)
      go_step
      refine(Zcf wdX (b7.o.kept' hA) a8.o (b:=p0) (by rw[HP.o];rfl)).mono ?_
      rintro e WA ⟨u1,rfl,a2,g2⟩
      have hA:=hA.trans g2
      have HU:=V hA
      have HX:=V (kb g2 HX.o)
      obtain⟨pa,pc,rfl,_⟩:=a2.bytesAt.1.slice
      have HO:=V a2.bytesAt.1.bytesIn
      clear a2 g2
      simp only[]
      refine a0.o _ _ hA ?_
      clear a0
      simp only[zz]
      refine doZ 3 (fun K a0=>?_)
      go_step
      refine(Zdx WA HO.o (f9.o.kept0 hA) g5.o g0.o e5.o).mono ?_
      rintro e WB ⟨rfl,g2⟩
      have hA:=hA.trans g2
      have HU:=V hA
      have HX:=V (kb g2 HX.o)
      clear g2 HO
      simp only[]
      refine a0.o _ _ hA ?_
      clear a0
      simp only[zz]
      refine tpZ 4 (.tuple #[.agg #[.int .u64 0,.slice none 0 0],.bool false]) hA ?_
      simp only[zz]
      refine tpZ 5 (.agg #[.int .u64 0,.slice none 0 0]) hA ?_
      simp only[zz]
      refine tpZ 6 (.bool false) hA ?_
      simp only[zz]
      have f0:WB.frozen? ⟨bo,0,none⟩=false:=Zb HX.o
      have f1:WB.frozen? ⟨bo,1,none⟩=false:=Zb HX.o
      obtain⟨b0,b1⟩:=Zg HX.o
      refine doZ 8 (fun K a0=>?_)
      go_step
      obtain⟨p1,p2⟩:=put2 (u:=.int .u64 0) (v:=.slice none 0 0) HX.o
      have hA:=hA.step p2 (fun k hk e=>by have:=a6.o;omega)
      have HU:=V hA
      refine a0.o _ _ hA ?_
      clear a0 f0 f1 b0 b1
      have e7:=V p1;have d9:=V p2
      clear p1 p2
      simp only[zz]
      refine tlZ 9 ?_
      simp only[List.drop]
      go_wp2
      go_meet
      case rel=>
       exact⟨bo,rfl,rfl,HU.o⟩
    case rest=>
     obtain⟨bo,rfl,rfl,c3⟩:=hcut
     have f2:=V c3
     clear c3
     go_wp2
     have i8:=(f2.o.block _ r3.o id).trans s2.o
     refine⟨by simp,.inl ⟨_,_,rfl,run_takeDeferred i8,?_⟩⟩
     have b6:Upd (fun k=>k=w9.heap.size) wc (wc.putObj w9.heap.size (.deferred none)):=(Zd5 (.deferred none)).mono (F:=fun k=>k=w9.heap.size) n3Z
     refine⟨_,results_tmp2 Tryz.results44 _ _ _,?_⟩
     have f3:U0 w1 (wc.putObj w9.heap.size (.deferred none)):=(l1.o.trans f2.o).step b6 (fun k hk e=>by have:=a4.o.size;omega)
     exact⟨F',H1.o.kept f3 n3Z,H2.o,H3.o.trans (f3.mono (F:=fun _=>False) (fun _ _ e=>e.elim)),H4.o,a8.o,f8.o,p0,a7,HP.o,.inl ⟨e5.o,rfl⟩⟩
   |true=>
    have e5:=V g6.o.symm
    go_cut [10,11] from 40 to 47 (fun v10 v11 wx=> ∃(bo:Nat) (a5:Option Addr) (c5:Nat) (C5:Nat→Prop),v10=.pointer (some ⟨bo,0,none⟩)∧v11=.bool true∧wx.heap[bo]?=some (.cells #[.int .u64 ev,.slice a5 l.length c5] 62 (0,0))∧ValsAt wx C5 a5 l∧RowC wx C5∧(FineB Wd.heap.size C5 a5 l∧ ∀g o,a5=some ⟨g,o,none⟩→g<wx.heap.size)∧U0 Wd wx)
    case first=>
     have hA:U0 Wd Wd.drew:=(Upd.refl _ Wd).drew
     have HU:=V hA
     refine Zj 9 (fun W=>U0 Wd W) [false,false,false,false,false,false,false,false,false,false] rfl (by kernel_rfl) ?_
     generalize Wd.drew=wd at hA HU ⊢
     refine tpZ 0 (.pointer (some ⟨q,0,none⟩)) hA ?_
     simp only[zz]
     refine tqZ 2 (.slice ra a7.length rc) [] hA (fun w5 q1=>?_) ?_
     ·have c0:=Zf (kb q1 j8.o)
      go_simp
     simp only[zz]
     refine Ya (i:=1) (j:=7) rfl rfl (by kernel_rfl) rfl rfl (fun K hK=>?_) (fun K hK=>?_)
     ·have a0:=V hK
      clear hK
      go_step
      refine(Zcf wd (b7.o.kept' hA) a8.o (b:=p0) (by rw[HP.o];rfl)).mono ?_
      rintro e WA ⟨u1,rfl,a2,g2⟩
      have hA:=hA.trans g2
      have HU:=V hA
      obtain⟨pa,pc,rfl,_⟩:=a2.bytesAt.1.slice
      have HO:=V a2.bytesAt.1.bytesIn
      clear a2 g2
      simp only[]
      refine a0.o _ _ hA ?_
      clear a0
      simp only[zz]
      refine Ya (i:=3) (j:=7) rfl rfl (by kernel_rfl) rfl rfl (fun K hK=>?_) (fun K hK=>?_)
      ·have a0:=V hK
       clear hK
       go_step
       refine(Zda WA HO.o (f9.o.kept0 hA) g5.o g0.o e5.o hA.size).mono ?_
       rintro e WB ⟨C5,a5,c5,rfl,q1,q2,q3,q4,g2⟩
       have hA:=hA.trans g2
       have HU:=V hA
       have HQ:=V (And.intro q1 (And.intro q2 (And.intro q3 q4)))
       clear q1 q2 q3 q4
       clear g2 HO
       simp only[]
       refine a0.o _ _ hA ?_
       clear a0
       simp only[zz]
       refine tpZ 4 (.tuple #[.agg #[.int .u64 ev,.slice a5 l.length c5],.bool true]) hA ?_
       simp only[zz]
       refine tpZ 5 (.agg #[.int .u64 ev,.slice a5 l.length c5]) hA ?_
       simp only[zz]
       refine tpZ 6 (.bool true) hA ?_
       simp only[zz]
       refine doZ 7 (fun K a0=>?_)
       go_step
       have ua:U0 WB (WB.alloc (.cells #[.int .u64 0,.slice none 0 0] 62)):=(Upd.refl _ _).alloc _
       have a6:=V HU.o.size
       have HX:=V (Zc (w:=WB) (o:=.cells #[.int .u64 0,.slice none 0 0] 62) rfl)
       have hA:=hA.trans ua
       have HU:=V (HU.o.trans ua)
       have HQ:=V (And.intro (HQ.o.1.kept0 ua) (And.intro (HQ.o.2.1.kept ua n3Z) (And.intro (fun g o e=>(HQ.o.2.2.1 g o e).imp (fun ds q=>kb ua q)) HQ.o.2.2.2)))
       clear ua
       refine a0.o _ _ hA ?_
       clear a0
       simp only[zz]
       generalize WB.alloc (.cells #[.int .u64 0,.slice none 0 0] 62)=WBX at HX hA HU HQ ⊢
       generalize WB.heap.size=bo at HX a6 ⊢
       have f0:WBX.frozen? ⟨bo,0,none⟩=false:=Zb HX.o
       have f1:WBX.frozen? ⟨bo,1,none⟩=false:=Zb HX.o
       obtain⟨b0,b1⟩:=Zg HX.o
       refine doZ 8 (fun K a0=>?_)
       go_step
       obtain⟨p1,p2⟩:=put2 (u:=.int .u64 ev) (v:=.slice a5 l.length c5) HX.o
       have hA:=hA.step p2 (fun k hk e=>by have:=a6.o;omega)
       have HU:=V hA
       refine a0.o _ _ hA ?_
       clear a0 f0 f1 b0 b1
       have e7:=V p1;have d9:=V p2
       clear p1 p2
       simp only[zz]
       refine tlZ 9 ?_
       simp only[List.drop]
       go_wp2
       go_meet
       case rel=>
        obtain⟨q1,q2,q4,q3⟩:=HQ.o
        have p2:=d9.o
        refine⟨bo,a5,c5,C5,rfl,rfl,e7.o,?_,?_,⟨q3,fun g o e=>(q4 g o e).elim (fun ds q=>Nat.lt_of_lt_of_le (Za q) p2.size)⟩,HU.o⟩
        ·refine q1.kept p2 (fun g o e=>?_) (fun k hk=>?_)
         ·obtain⟨ds,q⟩:=q4 g o e
          exact Zs q HX.o (by decide)
         ·obtain⟨ds,q⟩:=q2 k hk
          exact Zs q HX.o (by decide)
        ·intro k hk
         obtain⟨ds,q⟩:=q2 k hk
         exact⟨ds,(p2.block _ (Za q) (Zs q HX.o (by decide))).trans q⟩
      ·have a0:=V hK
       clear hK
       go_step
       have ua:U0 WA (WA.alloc (.cells #[.int .u64 0,.slice none 0 0] 62)):=(Upd.refl _ _).alloc _
       have a6:=V HU.o.size
       have HX:=V (Zc (w:=WA) (o:=.cells #[.int .u64 0,.slice none 0 0] 62) rfl)
       have hA:=hA.trans ua
       have HU:=V (HU.o.trans ua)
       have HO:=V (HO.o.kept ua)
       clear ua
       refine a0.o _ _ hA ?_
       clear a0
       simp only[zz]
       generalize WA.alloc (.cells #[.int .u64 0,.slice none 0 0] 62)=WAX at HX hA HU HO ⊢
       generalize WA.heap.size=bo at HX a6 ⊢
       refine doZ 3 (fun K a0=>?_)
       go_step
       refine(Zda WAX HO.o (f9.o.kept0 hA) g5.o g0.o e5.o hA.size).mono ?_
       rintro e WB ⟨C5,a5,c5,rfl,q1,q2,q3,q4,g2⟩
       have hA:=hA.trans g2
       have HU:=V hA
       have HX:=V (kb g2 HX.o)
       have HQ:=V (And.intro q1 (And.intro q2 (And.intro q3 q4)))
       clear q1 q2 q3 q4
       clear g2 HO
       simp only[]
       refine a0.o _ _ hA ?_
       clear a0
       simp only[zz]
       refine tpZ 4 (.tuple #[.agg #[.int .u64 ev,.slice a5 l.length c5],.bool true]) hA ?_
       simp only[zz]
       refine tpZ 5 (.agg #[.int .u64 ev,.slice a5 l.length c5]) hA ?_
       simp only[zz]
       refine tpZ 6 (.bool true) hA ?_
       simp only[zz]
       have f0:WB.frozen? ⟨bo,0,none⟩=false:=Zb HX.o
       have f1:WB.frozen? ⟨bo,1,none⟩=false:=Zb HX.o
       obtain⟨b0,b1⟩:=Zg HX.o
       refine doZ 8 (fun K a0=>?_)
       go_step
       obtain⟨p1,p2⟩:=put2 (u:=.int .u64 ev) (v:=.slice a5 l.length c5) HX.o
       have hA:=hA.step p2 (fun k hk e=>by have:=a6.o;omega)
       have HU:=V hA
       refine a0.o _ _ hA ?_
       clear a0 f0 f1 b0 b1
       have e7:=V p1;have d9:=V p2
       clear p1 p2
       simp only[zz]
       refine tlZ 9 ?_
       simp only[List.drop]
       go_wp2
       go_meet
       case rel=>
        obtain⟨q1,q2,q4,q3⟩:=HQ.o
        have p2:=d9.o
        refine⟨bo,a5,c5,C5,rfl,rfl,e7.o,?_,?_,⟨q3,fun g o e=>(q4 g o e).elim (fun ds q=>Nat.lt_of_lt_of_le (Za q) p2.size)⟩,HU.o⟩
        ·refine q1.kept p2 (fun g o e=>?_) (fun k hk=>?_)
         ·obtain⟨ds,q⟩:=q4 g o e
          exact Zs q HX.o (by decide)
         ·obtain⟨ds,q⟩:=q2 k hk
          exact Zs q HX.o (by decide)
        ·intro k hk
         obtain⟨ds,q⟩:=q2 k hk
         exact⟨ds,(p2.block _ (Za q) (Zs q HX.o (by decide))).trans q⟩
     ·have a0:=V hK
      clear hK
      go_step
      have ua:U0 wd (wd.alloc (.cells #[.int .u64 0,.slice none 0 0] 62)):=(Upd.refl _ _).alloc _
      have a6:=V HU.o.size
      have HX:=V (Zc (w:=wd) (o:=.cells #[.int .u64 0,.slice none 0 0] 62) rfl)
      have hA:=hA.trans ua
      have HU:=V (HU.o.trans ua)
      clear ua
      refine a0.o _ _ hA ?_
      clear a0
      simp only[zz]
      generalize wd.alloc (.cells #[.int .u64 0,.slice none 0 0] 62)=wdX at HX hA HU ⊢
      generalize wd.heap.size=bo at HX a6 ⊢
      refine doZ 1 (fun K a0=>?_)
      go_step
      refine(Zcf wdX (b7.o.kept' hA) a8.o (b:=p0) (by rw[HP.o];rfl)).mono ?_
      rintro e WA ⟨u1,rfl,a2,g2⟩
      have hA:=hA.trans g2
      have HU:=V hA
      have HX:=V (kb g2 HX.o)
      obtain⟨pa,pc,rfl,_⟩:=a2.bytesAt.1.slice
      have HO:=V a2.bytesAt.1.bytesIn
      clear a2 g2
      simp only[]
      refine a0.o _ _ hA ?_
      clear a0
      simp only[zz]
      refine doZ 3 (fun K a0=>?_)
      go_step
      refine(Zda WA HO.o (f9.o.kept0 hA) g5.o g0.o e5.o hA.size).mono ?_
      rintro e WB ⟨C5,a5,c5,rfl,q1,q2,q3,q4,g2⟩
      have hA:=hA.trans g2
      have HU:=V hA
      have HX:=V (kb g2 HX.o)
      have HQ:=V (And.intro q1 (And.intro q2 (And.intro q3 q4)))
      clear q1 q2 q3 q4
      clear g2 HO
      simp only[]
      refine a0.o _ _ hA ?_
      clear a0
      simp only[zz]
      refine tpZ 4 (.tuple #[.agg #[.int .u64 ev,.slice a5 l.length c5],.bool true]) hA ?_
      simp only[zz]
      refine tpZ 5 (.agg #[.int .u64 ev,.slice a5 l.length c5]) hA ?_
      simp only[zz]
      refine tpZ 6 (.bool true) hA ?_
      simp only[zz]
      have f0:WB.frozen? ⟨bo,0,none⟩=false:=Zb HX.o
      have f1:WB.frozen? ⟨bo,1,none⟩=false:=Zb HX.o
      obtain⟨b0,b1⟩:=Zg HX.o
      refine doZ 8 (fun K a0=>?_)
      go_step
      obtain⟨p1,p2⟩:=put2 (u:=.int .u64 ev) (v:=.slice a5 l.length c5) HX.o
      have hA:=hA.step p2 (fun k hk e=>by have:=a6.o;omega)
      have HU:=V hA
      refine a0.o _ _ hA ?_
      clear a0 f0 f1 b0 b1
      have e7:=V p1;have d9:=V p2
      clear p1 p2
      simp only[zz]
      refine tlZ 9 ?_
      simp only[List.drop]
      go_wp2
      go_meet
      case rel=>
       obtain⟨q1,q2,q4,q3⟩:=HQ.o
       have p2:=d9.o
       refine⟨bo,a5,c5,C5,rfl,rfl,e7.o,?_,?_,⟨q3,fun g o e=>(q4 g o e).elim (fun ds q=>Nat.lt_of_lt_of_le (Za q) p2.size)⟩,HU.o⟩
       ·refine q1.kept p2 (fun g o e=>?_) (fun k hk=>?_)
        ·obtain⟨ds,q⟩:=q4 g o e
         exact Zs q HX.o (by decide)
        ·obtain⟨ds,q⟩:=q2 k hk
         exact Zs q HX.o (by decide)
       ·intro k hk
        obtain⟨ds,q⟩:=q2 k hk
        exact⟨ds,(p2.block _ (Za q) (Zs q HX.o (by decide))).trans q⟩
    case rest=>
     obtain⟨bo,a5,c5,C5,rfl,rfl,p9,r6,r9,q5,c3⟩:=hcut
     have p5:=kb c3 n8.o
     obtain⟨b0,b1⟩:=Zg p9
     have b2:=Zf p5
     have f2:=V c3;have u2:=V r6;have p7:=V r9;have l9:=V q5
     clear p9 r6 r9 q5 c3 p5
     go_wp2
     obtain⟨wm,q0,m0,o0⟩:=nb wc (.cells #[.pointer (some ⟨q,0,none⟩),.int .u64 ev,.slice a5 l.length c5,.int .i64 t0] 108)
     rw[←q0]
     have i8:=((f2.o.trans m0).block _ r3.o id).trans s2.o
     refine⟨by simp,.inl ⟨_,_,rfl,run_takeDeferred i8,?_⟩⟩
     have b6:Upd (fun k=>k=w9.heap.size) wm (wm.putObj w9.heap.size (.deferred none)):=(Zd5 (.deferred none)).mono (F:=fun k=>k=w9.heap.size) n3Z
     have c6: ∀{k:Nat} {ds:Array Value} {t:TypeId},wm.heap[k]?=some (.cells ds t (0,0))→ ¬k=w9.heap.size:=by
      rintro k ds t hq rfl
      rw[i8] at hq
      injection hq with hq
      cases hq
     have t7:=u2.o.kept0 m0
     have r7:=p7.o.kept m0 n3Z
     have r1: ∀k,C5 k→ ¬k=w9.heap.size:=fun k hk=>by
      obtain⟨ds,hq⟩:=r7 k hk
      exact c6 hq
     refine⟨_,results_tmp2 Tryz.results44 _ _ _,?_⟩
     have f3:U0 w1 (wm.putObj w9.heap.size (.deferred none)):=(l1.o.trans (f2.o.trans m0)).step b6 (fun k hk e=>by have:=a4.o.size;omega)
     have t2:w.heap.size≤wc.heap.size:=Nat.le_trans H3.o.size (Nat.le_trans l1.o.size f2.o.size)
     have o8:w1.heap.size≤Wd.heap.size:=l1.o.size
     have t9:(wm.putObj w9.heap.size (.deferred none)).heap.size=wc.heap.size+1:=by rw[q0];simp[World.putObj]
     have h9:=b5.o.lt
     have g9:=H1.o.lt
     have t5:=H3.o.size
     have t8:=f2.o.size
     refine⟨F',H1.o.kept f3 n3Z,H2.o,H3.o.trans (f3.mono (F:=fun _=>False) (fun _ _ e=>e.elim)),H4.o,a8.o,f8.o,p0,a7,HP.o,.inr ⟨by rw[←g6.o],wc.heap.size,q,C5,fun k=>w1.heap.size≤k∧k<wc.heap.size,G',rfl,⟨⟨a5,c5,?_,?_,fun g o e=>⟨Nat.le_trans o8 (l9.o.1.2.2 g o e),l9.o.2 g o e⟩⟩,fun k hk=>⟨Nat.le_trans o8 (l9.o.1.2.1 k hk),p7.o.lt k hk⟩,fun k hk=>⟨fun e=>by have:=h9 k e;omega,fun e=>by have:=g9 k e;omega,by omega,by omega⟩,⟨fun e=>by have:=h9 _ e;omega,fun e=>by have:=g9 _ e;omega⟩,H7.o,r7.kept b6 r1,b5.o.kept' f3,H1.o.kept f3 n3Z,?_⟩,t2,H6.o,fun k hk=>by omega⟩⟩
     ·rw[←g6.o,←m9.o]
      exact(b6.block _ (Za o0) (c6 o0)).trans o0
     ·rw[←g6.o]
      exact fun i pp hpp=>by
       obtain⟨g,v,e1,e2,e3,e4⟩:=t7 i pp hpp
       have o9: ¬g=w9.heap.size:=by
        rintro rfl
        simp[World.cell?,i8] at e2
       exact⟨g,v,e1,Zo b6 o9 e2,Zo b6 o9 e3,e4.kept b6 r1⟩
     ·rw[←g6.o]
      exact l9.o.1.1
end
section
open Go.RowKit Go.Shelf
theorem Zix {q p:Nat}{X:Lg}{G:Nat→Prop}(w:World)(h:Log w q p X G)(ht:0≤X.h.turn∧X.h.turn<4294967296):
  Calls Tryz.prog 73 #[.pointer (some ⟨q,0,none⟩)] w fun e w'=>e=.returned (.int .u32 X.h.turn)∧w=w':=by
 obtain⟨PV,vs,h1,_⟩:=h
 obtain⟨c0,c1,c2,c3,c4,c5,c6,c7⟩:=Zbv h1.main
 have hw:IntKind.u32.wrap X.h.turn=X.h.turn:=by rw[IntKind.wrap_u32];omega
 clear h1 c1 c2 c3 c4 c5 c6 c7
 go_enter Tryz.func73,Tryz.ntmps73
 go_wp2
 clear hw
 go_ret
 exact⟨rfl,rfl⟩
theorem Zku {p:Nat}{lg:Option Addr}{mv:Value}{ev area:Int}(w:World)(h:RegAt w p (.pointer lg) ev mv area):
  Calls Tryz.prog 49 #[.pointer (some ⟨p,0,none⟩)] w fun e w'=>e=.returned (.pointer lg)∧w=w':=by
 have c0:w.cell? ⟨p,0,none⟩=some (.pointer lg):=by rw[Zr h];rfl
 clear h
 go_enter Tryz.func49,Tryz.ntmps49
 go_wp2
 go_ret
 exact⟨rfl,rfl⟩
def Zb8 (kd:Int):Int:=if(IntKind.u64.wrap kd).tmod 8=5 then 1 else if(IntKind.u64.wrap kd).tmod 8=6 then 2 else if(IntKind.u64.wrap kd).tmod 8=7 then 3 else 0
theorem Zrs (w:World)(j:Nat)(hj:j<8):(Instr.index 250 (.agg #[.int .i64 0,.int .i64 0,.int .i64 0,.int .i64 0,.int .i64 0,.int .i64 1,.int .i64 2,.int .i64 3]) (.int .u64 j)).run Tryz.prog w=.ok (.int .i64 (#[0,0,0,0,0,1,2,3].getD j 0)) w:=by
 obtain⟨i,hi,hs⟩:=Option.map_eq_some_iff.1 (show(Tryz.prog.info? 3).map (·.size)=some 1 by kernel_rfl)
 have hc:j=0∨j=1∨j=2∨j=3∨j=4∨j=5∨j=6∨j=7:=by omega
 rcases hc with rfl | rfl | rfl | rfl | rfl | rfl | rfl | rfl<;> simp[Instr.index,run_underlying Tryz.underlying250,typeInfo,sizeOf,hi,hs,part,isAgg,run_underlying Tryz.underlying3,go_sem]
theorem Zdq {kd on ev:Int}{lg:Bool}{a ra ka:Option Addr}{n c rn rc kn kc:Nat}(w:World):
  Calls Tryz.prog 123 #[.agg #[.int .i64 kd,.int .i64 on,.int .u64 ev,.bool lg,.slice a n c,.slice ra rn rc,.slice ka kn kc]] w fun e w'=>e=.returned (.int .i64 (Zb8 kd))∧U0 w w':=by
 obtain⟨k,hk,a0⟩: ∃k:Nat,(IntKind.u64.wrap kd).tmod 8=k∧k<8:=by
  have h0:0≤IntKind.u64.wrap kd:=by rw[IntKind.wrap_u64];omega
  rw[Int.tmod_eq_emod_of_nonneg h0]
  have h1:=Int.emod_nonneg (IntKind.u64.wrap kd) (b:=8) (by decide)
  have h2:=Int.emod_lt_of_pos (IntKind.u64.wrap kd) (b:=8) (by decide)
  exact⟨((IntKind.u64.wrap kd) % 8).toNat,by omega,by omega⟩
 obtain⟨v,hv⟩: ∃v:Int,v=#[0,0,0,0,0,1,2,3].getD k 0:=⟨_,rfl⟩
 have a1:=fun w=>Zrs w k a0
 simp only[←hv] at a1
 have HF:=V (show Zb8 kd=v by
  rw[hv]
  unfold Zb8
  rw[hk]
  match k,a0 with
  | 0,_=>rfl
  | 1,_=>rfl
  | 2,_=>rfl
  | 3,_=>rfl
  | 4,_=>rfl
  | 5,_=>rfl
  | 6,_=>rfl
  | 7,_=>rfl)
 have HK:=V hk
 clear hk a0 hv
 go_enter Tryz.func123,Tryz.ntmps123
 go_upto_region 1 with fail
 have hk:=HK.o
 go_wp2
 go_ret
 exact⟨by rw[HF.o];rfl,(Upd.refl _ w).alloc _⟩
theorem Zgf {C:Nat→Prop}{ev area spare:Int}{l:KV}{a:Option Addr}{c:Nat}(w:World)(hV:ValsAt w C a l)(hl:l.Fine)(hC:RowC w C)(h0:0≤ev)(he:ev≤4611686018427387904)(ha:0≤area∧area≤1000000)(hs:0≤spare∧spare≤1000):
  Calls Tryz.prog 168 #[.agg #[.int .u64 ev,.slice a l.length c],.int .i64 area,.int .i64 spare] w fun e w'=>e=.returned (.bool (Yh (Zz ev l).length (area - spare)))∧U0 w w':=by
 obtain⟨w1,a9,a3,a8⟩:=nb w (.cells #[.int .u64 ev,.slice a l.length c] 62)
 obtain⟨c0,c1⟩:=Zg a8
 have HV:=V (hV.kept0 a3);have HL:=V hl;have HC:=V (hC.kept a3 n3Z);have b5:=V a3;have b3:=V a9;have HA:=V ha;have HS:=V hs;have HE:=V (And.intro h0 he)
 have b6:IntKind.i64.wrap (area - spare)=area - spare:=by rw[IntKind.wrap_i64];omega
 obtain⟨n,hn⟩: ∃n,n=(Zz ev l).length:=⟨_,rfl⟩
 rw[←hn]
 have HN:=V hn
 clear hV hl hC a3 a8 a9 h0 he ha hs hn
 go_enter Tryz.func168,Tryz.ntmps168
 go_upto_region 1 with fail
 rw[←b3.o]
 go_wp2_with (go_at_call 167;fail)
 refine(Zc9 w1 HV.o HL.o HC.o).mono ?_
 rintro e w2 ⟨a2,c2,rfl,a6,b2,a5⟩
 have b0:(Z7 ev l).sets.length=l.length:=by simp[Z7]
 have a0:=Zb3 (B:=Z7 ev l) (c:=c2) w2 a6.setsAt.setsIn (Za1 HL.o HE.o.2) (Za8 HL.o HE.o.1 HE.o.2)
 unfold batchV at a0
 rw[b0] at a0
 have a1:=V a0;have b4:=V (b5.o.trans a5)
 clear b0 a0 a6 b2 a5
 simp only[]
 go_wp2_with (go_at_call 25;fail)
 refine a1.o.mono ?_
 rintro e w3 ⟨u,rfl,a7,a4⟩
 obtain⟨ua,uc,rfl,_⟩:=a7.bytesAt.1.slice
 have b1:=V (b4.o.trans a4)
 clear a7 a4 a1
 rw[show(encF (Z7 ev l)).length=n from HN.o.symm]
 by_cases h:n≤40000
 ·have h1:(n:Int)≤40000:=by omega
  simp only[]
  go_wp2_with (go_at_call 119;fail)
  refine(Y1 n w3 h).mono ?_
  rintro e w' ⟨rfl,hw⟩
  subst hw
  simp only[]
  go_wp2
  go_ret
  exact⟨by unfold Yh;rw[decide_eq_true h1];rfl,b1.o⟩
 ·have h1:decide ((n:Int)≤40000)=false:=decide_eq_false (by omega)
  have h2: ¬(n:Int)≤40000:=by omega
  simp only[]
  go_wp2
  go_ret
  exact⟨by unfold Yh;rw[h1];rfl,b1.o⟩
def Zb2 (l:KV)(R:List Bool)(k:Nat)(x:SetV):SetV:=if R[k]?=some true then⟨(Z4 x).name,(l.get (Z4 x).name).isSome,x.is,(l.get (Z4 x).name).getD [],(Z4 x).new⟩ else Z4 x
def Zdi (l:KV)(R:List Bool)(B:BatchV):BatchV:=⟨B.epoch,B.large,(B.sets.take 49).mapIdx (Zb2 l R)⟩
def BoolsR (w:World)(ka:Option Addr)(keep:List Bool):Prop:= ∀i b,keep[i]?=some b→ ∃kb ko,ka=some ⟨kb,ko,none⟩∧kb<w.heap.size∧w.cell? ⟨kb,ko+i,none⟩=some (.bool b)
theorem Zkm {α:Type}{M l0:List α}{k:Nat}(hM:M.length=l0.length)(hk:k<l0.length):(M.take k++l0.drop k)[k]?=some l0[k]:=by
 have e1:(M.take k).length=k:=by simp;omega
 rw[List.getElem?_append_right (by omega),e1,Nat.sub_self]
 simp[hk]
theorem Zj0 {α:Type}{M l0:List α}{k:Nat}{y:α}(hM:M.length=l0.length)(hy:M[k]?=some y):(M.take k++l0.drop k).set k y=M.take (k+1)++l0.drop (k+1):=by
 obtain⟨h1,h2⟩:=List.getElem?_eq_some_iff.1 hy
 have e1:(M.take k).length=k:=by simp;omega
 rw[List.set_append_right _ _ (by omega),e1,Nat.sub_self,List.take_succ_eq_append_getElem h1,List.drop_eq_getElem_cons (l:=l0) (by omega),h2]
 simp only[List.set_cons_zero,List.append_assoc,List.cons_append,List.nil_append]
structure BrAt (w:World) (base:Nat) (ev:Int) (lg:Bool) (opc rgc:Array Value) (C:Nat→Prop) (la:Option Addr) (lc:Nat) (l:List SetV) (W:World):Prop where
 out:W.heap[w.heap.size+3]?=some (.cells #[.int .u64 ev,.bool lg,.slice la l.length lc] 56 (0,0))
 res:W.heap[w.heap.size+2]?=some (.cells #[.int .u64 0,.bool false,.slice none 0 0] 56 (0,0))
 op:W.heap[w.heap.size]?=some (.cells opc 58 (0,0))
 row:SetRow W base C (.slice la l.length lc) l
 rows:RowC W C
 upd:U0 w W
 reg:W.heap[w.heap.size+1]?=some (.cells rgc 62 (0,0))
 low: ∀k,C k→base≤k
theorem BrAt.kept0 {w:World}{base:Nat}{ev:Int}{lg:Bool}{opc rgc:Array Value}{C:Nat→Prop}{la:Option Addr}{lc:Nat}{l:List SetV}{W W':World}(h:BrAt w base ev lg opc rgc C la lc l W)(hu:U0 W W'):BrAt w base ev lg opc rgc C la lc l W':=by
 have kk: ∀(b:Nat) o,W.heap[b]?=some o→W'.heap[b]?=some o:=fun b o h=>kb hu h
 exact⟨kk _ _ h.out,kk _ _ h.res,kk _ _ h.op,h.row.kept hu n3Z n3Z,h.rows.kept hu n3Z,h.upd.trans hu,kk _ _ h.reg,h.low⟩
theorem Zqb (L:List (SetV×Value×Value))(i:Nat)(x:SetV)(y:SetV×Value×Value)(v:Value)(hi:L[i]?=some y)(hn:x.name=y.1.name)(his:x.is=y.1.is):
  ((L.flatMap elC).set (i * 5+1) (.bool x.was)).set (i * 5+3) v=(L.set i (x,v,y.2.2)).flatMap elC:=by
 have a1:=(List.getElem?_eq_some_iff.1 hi).1
 apply List.ext_getElem?
 intro p
 by_cases hp:p<5 * L.length
 ·obtain⟨j,t,ht,hj,rfl⟩: ∃j t,t<5∧j<L.length∧p=j * 5+t:=⟨p / 5,p % 5,by omega,by omega,by omega⟩
  by_cases a0:j=i
  ·subst a0
   rw[Zav (L.set j (x,v,y.2.2)) j t (x,v,y.2.2) (by simp[a1]) ht]
   have h2:=Zav L j t y hi ht
   have a2:j * 5+4<(L.flatMap elC).length:=by rw[Za5];omega
   match t,ht with
   | 0,_=>rw[List.getElem?_set_ne (by omega),List.getElem?_set_ne (by omega),h2];simp[elC,hn]
   | 1,_=>rw[List.getElem?_set_ne (by omega),List.getElem?_set_self (by omega)];rfl
   | 2,_=>rw[List.getElem?_set_ne (by omega),List.getElem?_set_ne (by omega),h2];simp[elC,his]
   | 3,_=>rw[List.getElem?_set_self (by simp only[List.length_set];omega)];rfl
   | 4,_=>rw[List.getElem?_set_ne (by omega),List.getElem?_set_ne (by omega),h2];simp[elC]
  ·rw[List.getElem?_set_ne (by omega),List.getElem?_set_ne (by omega)]
   rw[Zav L j t L[j] (List.getElem?_eq_getElem hj) ht,Zav (L.set i (x,v,y.2.2)) j t L[j] (by rw[List.getElem?_set_ne (Ne.symm a0)];exact List.getElem?_eq_getElem hj) ht]
 ·rw[List.getElem?_eq_none (by simp only[List.length_set,Za5];omega),List.getElem?_eq_none (by rw[Za5,List.length_set];omega)]
theorem SetRow.more {C C':Nat→Prop}{w:World}{B:Nat}{sv:Value}{l:List SetV}(h:SetRow w B C sv l)(hc: ∀k,C k→C' k):SetRow w B C' sv l:=by
 obtain⟨L,h0,h1,h2,h3⟩:=h
 exact⟨L,h0,h1,fun y hy=>⟨(h2 y hy).1.mono hc,(h2 y hy).2.mono hc⟩,h3⟩
theorem SetRow.put2 {w:World}{g cap B:Nat}{C:Nat→Prop}{l:List SetV}{i:Nat}{x x':SetV}{v:Value}(h:SetRow w B C (.slice (some ⟨g,0,none⟩) l.length cap) l)(hr:RowC w C)(hi:l[i]?=some x)(hn:x'.name=x.name)(his:x'.is=x.is)(hnew:x'.new=x.new)(hv:BytesAt w C v x'.old)(hf:x'.fine):
  SetRow ((w.setCell ⟨g,i * 5+1,none⟩ (.bool x'.was)).setCell ⟨g,i * 5+3,none⟩ v) B C (.slice (some ⟨g,0,none⟩) l.length cap) (l.set i x')∧Upd (fun k=>k=g) w ((w.setCell ⟨g,i * 5+1,none⟩ (.bool x'.was)).setCell ⟨g,i * 5+3,none⟩ v):=by
 have a1: ∀k,C k→ ¬k=g:=fun k hk e=>h.apart hr k hk (by rw[e];rfl)
 have a0:Upd (fun k=>k=g) w ((w.setCell ⟨g,i * 5+1,none⟩ (.bool x'.was)).setCell ⟨g,i * 5+3,none⟩ v):=(Zd w g _ _).trans (Zd _ g _ _)
 obtain⟨L,rfl,h1,h2,h3⟩:=h
 simp only[List.getElem?_map,Option.map_eq_some_iff] at hi
 obtain⟨y,hy,rfl⟩:=hi
 refine⟨⟨L.set i (x',v,y.2.2),by rw[List.map_set],?_,fun z hz=>?_,fun z hz=>?_⟩,a0⟩
 ·have:=((h1.stored (i * 5+1) (.bool x'.was)).1.stored (i * 5+3) v).1
  rw[Zqb L i x' y v hy hn his] at this
  rw[List.length_set]
  exact this
 ·rcases List.mem_or_eq_of_mem_set hz with hz | rfl
  ·exact⟨(h2 z hz).1.kept a0 a1,(h2 z hz).2.kept a0 a1⟩
  ·exact⟨hv.kept a0 a1,by rw[hnew];exact(h2 y (List.mem_of_getElem? hy)).2.kept a0 a1⟩
 ·rcases List.mem_or_eq_of_mem_set hz with hz | rfl
  ·exact h3 z hz
  ·exact hf
theorem Zms {c rn rc pn pc kn kc:Nat}{a ra pa ka:Option Addr}{B:BatchV}{R:List Bool}{l:KV}{CV:Nat→Prop}{e0 kd on:Int}(w:World)(hs:SetsIn w a B.sets)(hb: ∀x∈B.sets,Bytes x.old∧Bytes x.new)(hl:B.sets.length≤c)(hc:c≤maxLen)
  (hR:BoolsR w ra R) (hrn:rn=R.length) (hV:ValsAt w CV pa l) (hpn:pn=l.length) (hF:l.Fine):
  Calls Tryz.prog 19 #[.agg #[.int .i64 kd,.int .i64 on,.int .u64 B.epoch,.bool B.large,.slice a B.sets.length c,.slice ra rn rc,.slice ka kn kc],.agg #[.int .u64 e0,.slice pa pn pc]] w (CopyAns w (Zdi l R B)):=by
 have t0:=V hR;have o2:=V hrn;have HV:=V hV;have v2:=V hpn;have HF:=V hF
 clear hR hrn hV hpn hF
 have HS:=V hs;have s8:=V hb
 clear hs hb
 obtain⟨n,hn⟩: ∃n,n=B.sets.length:=⟨_,rfl⟩
 rw[←hn] at hl ⊢
 have HN:=V hn
 clear hn
 obtain⟨w1,d1⟩: ∃w1,w1=((w.alloc (.cells #[.int .i64 kd,.int .i64 on,.int .u64 B.epoch,.bool B.large,.slice a n c,.slice ra rn rc,.slice ka kn kc] 58)).alloc (.cells #[.int .u64 e0,.slice pa pn pc] 62)).alloc (.cells #[.int .u64 0,.bool false,.slice none 0 0] 56):=⟨_,rfl⟩
 have d8:U0 w w1:=by rw[d1];exact(((Upd.refl _ w).alloc _).alloc _).alloc _
 have j6:w1.heap[w.heap.size]?=some (.cells #[.int .i64 kd,.int .i64 on,.int .u64 B.epoch,.bool B.large,.slice a n c,.slice ra rn rc,.slice ka kn kc] 58 (0,0)):=by rw[d1,Zm (by simp;omega),Zm (by simp)];exact Zc rfl
 have o8:w1.heap[w.heap.size+1]?=some (.cells #[.int .u64 e0,.slice pa pn pc] 62 (0,0)):=by rw[d1,Zm (by simp)];exact Zc (by simp)
 have o4:w1.heap[w.heap.size+2]?=some (.cells #[.int .u64 0,.bool false,.slice none 0 0] 56 (0,0)):=by rw[d1];exact Zc (by simp)
 have s7:w1.heap.size=w.heap.size+3:=by rw[d1];simp
 have p9:=V d1;have d2:=V d8;have j8:=V j6;have r7:=V o4;have i0:=V o8;have n7:=V s7
 clear d1 d8 j6 o4 s7 o8
 go_enter Tryz.func19,Tryz.ntmps19
 go_upto_region 1 with fail
 rw[←p9.o,show w.heap.size+1+1=w.heap.size+2 from rfl]
 have cc: ∀j v,#[Value.int .i64 kd,.int .i64 on,.int .u64 B.epoch,.bool B.large,.slice a n c,.slice ra rn rc,.slice ka kn kc][j]?=some v→w1.cell? ⟨w.heap.size,j,none⟩=some v:=fun j v h=>by
  rw[Zr j8.o];exact h
 have c2:=cc 2 _ rfl;have c3:=cc 3 _ rfl;have c4:=cc 4 _ rfl
 have CS:=V (cc 5 _ rfl)
 clear cc
 go_upto_region 2 with fail
 rw[n7.o]
 obtain⟨w2,j1⟩: ∃w2,w2=w1.alloc (.cells #[.int .u64 B.epoch,.bool B.large,.slice a n c] 56):=⟨_,rfl⟩
 rw[←j1]
 have a8:U0 w1 w2:=by rw[j1];exact(Upd.refl _ w1).alloc _
 have d6:w2.heap[w.heap.size+3]?=some (.cells #[.int .u64 B.epoch,.bool B.large,.slice a n c] 56 (0,0)):=by rw[j1];exact Zc n7.o.symm
 have x4:w2.frozen? ⟨w.heap.size+3,2,none⟩=false:=Zb d6
 obtain⟨y0,y1,y2⟩:=Zk d6
 obtain⟨m,hm⟩: ∃m,m=(B.sets.take 49).length:=⟨_,rfl⟩
 have s6:m=min n 49:=by rw[hm,HN.o];simp[Nat.min_comm]
 have x7:min (n:Int) 49=(m:Int):=by omega
 have u9:m≤n:=by omega
 have e2: ∃a',(∀W,(Instr.slice 54 (.slice a n c) none (some (.int .i64 m)) none).run Tryz.prog W=.ok (.slice a' m c) W)∧SetsIn w a' (B.sets.take 49):=by
  have hr: ∀W,(Instr.slice 54 (.slice a n c) none (some (.int .i64 m)) none).run Tryz.prog W=.ok (sliced a 0 m c 5) W:=fun W=>by
   rw[run_slice_h W 54 a n c Zua .i64 m (by omega) (by omega),Zst]
   simp[Result.andThen]
  cases a with
  |none=>exact⟨none,fun W=>by rw[hr W];unfold sliced;simp,fun i x hx=>by
    obtain⟨_,_,_,b,o,e,_⟩:=HS.o i x (by rw[List.getElem?_take] at hx;split at hx;exact hx;cases hx)
    cases e⟩
  |some ad=>
   refine⟨some (if c=0 then ad else ad.add 0),fun W=>by rw[hr W];unfold sliced;simp;split<;> rfl,fun i x hx=>?_⟩
   have a9:B.sets[i]?=some x:=by rw[List.getElem?_take] at hx;split at hx;exact hx;cases hx
   obtain⟨g1,g2,g3,b,o,e,r⟩:=HS.o i x a9
   injection e with e
   subst e
   exact⟨g1,g2,g3,b,o,by split<;> rfl,r⟩
 obtain⟨a',v0,g4⟩:=e2
 have i1:=V g4;have w7:=V s6;have HM:=V hm
 have b6:=V (d2.o.trans a8);have p7:=V d6
 have f6:=V (kb a8 i0.o)
 have k5:=V (kb a8 r7.o)
 have k6:=V (kb a8 j8.o)
 clear j1 a8 d6 hm s6 g4 c2 c3 c4 p9 d2 j8 r7 n7 CS
 go_upto_region 3 with fail
 obtain⟨w3,i7⟩: ∃w3,w3=w2.setCell ⟨w.heap.size+3,2,none⟩ (.slice a' m c):=⟨_,rfl⟩
 rw[←i7]
 have g8:Upd (fun k=>k=w.heap.size+3) w2 w3:=by rw[i7];exact Zd w2 _ 2 _
 have l1:w3.heap[w.heap.size+3]?=some (.cells #[.int .u64 B.epoch,.bool B.large,.slice a' m c] 56 (0,0)):=by
  rw[i7]
  have:=Ze (i:=2) (v:=.slice a' m c) p7.o
  simpa using this
 obtain⟨y0,y1,y2⟩:=Zk l1
 obtain⟨l0,j0⟩: ∃l0,l0=B.sets.take 49:=⟨_,rfl⟩
 have m7:=V (b6.o.step g8 (fun k hk e=>by omega));have m8:=V l1
 have v7:=V ((g8.block _ (Za f6.o) (by omega)).trans f6.o)
 have p8:=V ((g8.block _ (Za k5.o) (by omega)).trans k5.o)
 have q7:=V ((g8.block _ (Za k6.o) (by omega)).trans k6.o)
 have r9:RowKit.Hid (Calls Tryz.prog 20 #[.agg #[.int .u64 B.epoch,.bool B.large,.slice a' m c]] w3 (CopyAns w3 ⟨B.epoch,B.large,l0⟩)):=V (by
  rw[HM.o,j0]
  exact Zet (B:=⟨B.epoch,B.large,B.sets.take 49⟩) w3 (i1.o.kept m7.o) (fun x hx=>s8.o x (List.mem_of_mem_take hx)) (by simp;omega))
 have r0:=V j0
 have x9:RowKit.Hid (m=l0.length):=V (by rw[j0];exact HM.o)
 clear i7 g8 l1 j0 b6 p7 k5 k6 i1 v0 HM
 go_wp2_with (go_at_call 20;fail)
 refine r9.o.mono ?_
 rintro e w4 ⟨la,lc,rfl,⟨C,b3,e9,r8⟩,b9,b7⟩
 obtain⟨n4,n2⟩: ∃n4,n4=l0.length:=⟨_,rfl⟩
 unfold batchV
 simp only[]
 simp only[] at b3 b9
 rw[←n2] at b3 b9 ⊢
 have c8:=V n2
 have l4:=V (kb b7 m8.o)
 have s0:=V (kb b7 v7.o)
 have k0:=V (kb b7 p8.o)
 have k7:=V (kb b7 q7.o)
 have r5:=V (m7.o.trans b7)
 have h0:=V (Za m8.o)
 have a3:=V b3;have i6:=V e9;have j2:=V r8;have n6:=V b9
 clear n2 b3 e9 r8 b9 b7 r9 m8 p8 q7 m7 y0 y1 y2
 go_step
 refine wpList_store_mid rfl 56 (.tmp 5) (.tmp 21) rfl (w.heap.size+3) 0 #[.int .u64 B.epoch,.bool B.large,.slice la n4 lc] rfl rfl (by have q:=Zq l4.o;exact q) Z9 (by simp[Value.oneCell']) ?_
 have i8:=Zi (vs:=[.int .u64 B.epoch,.bool B.large,.slice la n4 lc]) l4.o rfl
 have d0:=Upd.setCells (F:=fun k=>k=w.heap.size+3) (b:=w.heap.size+3) rfl [.int .u64 B.epoch,.bool B.large,.slice la n4 lc] 0 (Upd.refl _ w4)
 obtain⟨w5,k8⟩: ∃w5,w5=w4.setCells (w.heap.size+3) 0 [.int .u64 B.epoch,.bool B.large,.slice la n4 lc]:=⟨_,rfl⟩
 rw[←k8] at i8 d0
 rw[show #[Value.int .u64 B.epoch,.bool B.large,.slice la n4 lc].toList=[.int .u64 B.epoch,.bool B.large,.slice la n4 lc] from rfl,←k8]
 obtain⟨c9,e4⟩: ∃c9,c9=#[Value.int .i64 kd,.int .i64 on,.int .u64 B.epoch,.bool B.large,.slice a n c,.slice ra rn rc,.slice ka kn kc]:=⟨_,rfl⟩
 obtain⟨a1,a5⟩: ∃a1,a1=w3.heap.size:=⟨_,rfl⟩
 obtain⟨M,hM⟩: ∃M,M=l0.mapIdx (Zb2 l R):=⟨_,rfl⟩
 have d4:=V hM
 have hd:BrAt w a1 B.epoch B.large c9 #[.int .u64 e0,.slice pa pn pc] C la lc l0 w5:=by
  have e5:#[Value.int .u64 B.epoch,.bool B.large,.slice la n4 lc]=#[Value.int .u64 B.epoch,.bool B.large,.slice la l0.length lc]:=by rw[c8.o]
  refine⟨by rw[←c8.o];exact i8,(d0.block _ (Za k0.o) (by omega)).trans k0.o,by rw[e4];exact(d0.block _ (Za k7.o) (by omega)).trans k7.o,?_,i6.o.kept d0 (fun k hk e=>by have:=j2.o k hk;have:=h0.o;omega),r5.o.step d0 (fun k hk e=>by omega),(d0.block _ (Za s0.o) (by omega)).trans s0.o,fun k hk=>by rw[a5];exact j2.o k hk⟩
  rw[←c8.o,a5]
  refine a3.o.kept d0 (fun k hk e=>?_) (fun k hk e=>by have:=j2.o k hk;have:=h0.o;omega)
  obtain⟨L,_,q,_⟩:=a3.o
  have:=(q.lt k hk).1
  have:=h0.o
  omega
 have HD:=V hd
 have e8:RowKit.Hid (w.heap.size+3<a1):=V (by rw[a5];exact h0.o)
 have k3:=V e4
 have u3:RowKit.Hid (∀x∈l0,x.name.size≤140737488351232):=V (fun x hx=>by
  obtain⟨L,_,_,_,q⟩:=a3.o
  exact(q x hx).1)
 obtain⟨y0,y1,y2⟩:=Zk i8
 clear hM i8 d0 k8 e4 a5 hd l4 k0 k7 r5 h0 a3 i6 j2 s8
 go_upto_region 5 with fail
 have t3:n4≤49:=by rw[c8.o,r0.o];simp;omega
 go_loopg [25] n4 (fun gk i wr=> ∃(k:Nat) (la:Option Addr) (C:Nat→Prop),k≤n4∧gk=n4 - k∧i=.int .i64 k∧BrAt w a1 B.epoch B.large c9 #[.int .u64 e0,.slice pa pn pc] C la lc (M.take k++l0.drop k) wr)
 case atStart=>exact⟨0,la,C,Nat.zero_le _,rfl,rfl,by simpa using HD.o⟩
 case round=>
  clear HD
  obtain⟨k,la,C,hk,rfl,rfl,hd⟩:=hrel
  have HD:=V hd
  clear hd
  have d5:M.length=l0.length:=by rw[d4.o];simp
  have b0:(M.take k++l0.drop k).length=n4:=by simp only[List.length_append,List.length_take,List.length_drop,d5];have:=c8.o;omega
  by_cases x1:k<n4
  ·have u8:(k:Int)<n4:=by omega
   have q6:k<l0.length:=by have:=c8.o;omega
   have hx:(M.take k++l0.drop k)[k]?=some l0[k]:=Zkm d5 q6
   obtain⟨x,j3⟩: ∃x,x=l0[k]:=⟨_,rfl⟩
   rw[←j3] at hx
   have s1:M[k]?=some (Zb2 l R k x):=by rw[d4.o,List.getElem?_mapIdx,List.getElem?_eq_getElem q6,j3];rfl
   have g6:(M.take k++l0.drop k).set k (Zb2 l R k x)=M.take (k+1)++l0.drop (k+1):=Zj0 d5 s1
   have b4:=V g6;have HX:=V hx
   obtain⟨lk,j9⟩: ∃lk,lk=M.take k++l0.drop k:=⟨_,rfl⟩
   rw[←j9] at HD b0 b4 HX
   have i4:=List.mem_of_getElem? HX.o
   obtain⟨L,r3,j7,s2,o6⟩:=HD.o.row
   have j4:=o6 x i4
   have a9:=HX.o
   rw[←r3] at a9
   simp only[List.getElem?_map,Option.map_eq_some_iff] at a9
   obtain⟨y,hy,e6⟩:=a9
   obtain⟨b1,b2⟩:=s2 y (List.mem_of_getElem? hy)
   obtain⟨g,hg⟩: ∃g,la=some ⟨g,0,none⟩:=by
    rcases j7.2 with ⟨_,e⟩ | ⟨g,y3,w6,e,_⟩
    ·omega
    ·injection e with e;exact⟨g,e⟩
   subst hg
   have a6: ∀j,j<5→wr.cell? ⟨g,k * 5+j,none⟩=(elC y)[j]?:=fun j hj=>by
    have:=World.ownsRow.cells j7 rfl (k * 5+j) ((elC y)[j]'(by rw[Zbe];exact hj)) (by rw[Zav L k j y hy hj,List.getElem?_eq_getElem])
    rw[Addr.add_mid,Nat.zero_add] at this
    rw[this,List.getElem?_eq_getElem]
   obtain⟨oa,oc,eo,j6,v1⟩:=b1.slice
   obtain⟨na,nc,en,u4,v9⟩:=b2.slice
   obtain⟨m0,o7⟩: ∃m0,m0=min x.name.size 40:=⟨_,rfl⟩
   obtain⟨m1,s9⟩: ∃m1,m1=min x.old.length 3001:=⟨_,rfl⟩
   obtain⟨m2,r6⟩: ∃m2,m2=min x.new.length 3001:=⟨_,rfl⟩
   obtain⟨u1,t6,d8⟩:=b1.head (n:=m1) (by rw[e6];omega)
   obtain⟨u2,u6,a8⟩:=b2.head (n:=m2) (by rw[e6];omega)
   obtain⟨ua,uc,eu,_,_⟩:=d8.slice
   obtain⟨va,vc,ev,_,_⟩:=a8.slice
   have o5:(y.1.old.take m1).length=m1:=by simp only[List.length_take,e6];omega
   have s3:(y.1.new.take m2).length=m2:=by simp only[List.length_take,e6];omega
   rw[o5] at eu;rw[s3] at ev
   have q0:=a6 0 (by omega);have q3:=a6 3 (by omega);have q4:=a6 4 (by omega)
   rw[e6] at d8 a8 eo en
   subst eu ev
   rw[eo] at t6;rw[en] at u6
   simp only[elC,e6,eo,en] at q0 q3 q4
   have v6:min (x.name.size:Int) 40=(m0:Int):=by omega
   have v5:min (x.old.length:Int) 3001=(m1:Int):=by omega
   have t4:min (x.new.length:Int) 3001=(m2:Int):=by omega
   have p0:(m0:Int)≤x.name.size:=by omega
   have g5: ∀j,wr.frozen? ⟨g,j,none⟩=false:=fun j=>World.ownsRow.frozenAt j7 j
   have f0:=g5 (k * 5);have f3:=g5 (k * 5+3);have f4:=g5 (k * 5+4)
   have hA:wr.drew.cell? ⟨g,k * 5,none⟩=some (.string x.name)∧wr.drew.cell? ⟨g,k * 5+3,none⟩=some (.slice oa x.old.length oc)∧wr.drew.cell? ⟨g,k * 5+4,none⟩=some (.slice na x.new.length nc):=⟨by simpa using q0,by simpa using q3,by simpa using q4⟩
   have k4:x=l0[k]:=j3
   have d2:=V d8;have b6:=V a8;have t8:=V j4
   have m6:=V o7;have k9:=V s9;have l2:=V r6;have x5:=V j9
   have y2:=(Zk HD.o.out).2.2
   rw[b0] at y2
   have i3:=V g5
   clear r3 j7 s2 o6 j4 hy e6 b1 b2 a6 eo en j6 v1 u4 v9 d8 a8 o7 s9 r6 j3 k4 j9 g6 hx i4 s1 d5 o5 s3 q0 q3 q4 f0 f3 f4 g5
   go_upto_region 8 with fail
   have f5:U0 wr wr.drew:=(Upd.refl _ wr).drew
   have q8:=V f5
   have a2:RowKit.Hid (SetRow wr.drew a1 C (.slice (some ⟨g,0,none⟩) lk.length lc) lk):=V (HD.o.row.kept f5 n3Z n3Z)
   have b5:=V (HD.o.rows.kept f5 n3Z)
   have d2:=V (d2.o.kept f5 n3Z);have b6:=V (b6.o.kept f5 n3Z)
   have i3:RowKit.Hid (∀j,wr.drew.frozen? ⟨g,j,none⟩=false):=V (fun j=>by
    obtain⟨_,_,q,_⟩:=a2.o
    exact World.ownsRow.frozenAt q j)
   clear f5
   refine Zj 38 (fun W=>W.cell? ⟨g,k * 5,none⟩=some (.string x.name)∧W.cell? ⟨g,k * 5+3,none⟩=some (.slice oa x.old.length oc)∧W.cell? ⟨g,k * 5+4,none⟩=some (.slice na x.new.length nc)) [false,false,false,false,false,false,false,false,false,false,false,false,false,false,false,false,false,false,false,false,false,false,false,false,false,false,false,false,false,false,false,false,false,false,false,false,false,false,false,false,false,false,false,false,false] rfl (by kernel_rfl) ?_
   generalize wr.drew=wd at hA a2 b5 d2 b6 i3 q8 ⊢
   refine tpZ 0 (.pointer (some ⟨g,k * 5,none⟩)) hA ?_
   simp only[zz]
   refine tpZ 1 (.pointer (some ⟨g,k * 5,none⟩)) hA ?_
   simp only[zz]
   refine tpZ 2 (.pointer (some ⟨g,k * 5,none⟩)) hA ?_
   simp only[zz]
   refine tpZ 3 (.pointer (some ⟨g,k * 5,none⟩)) hA ?_
   simp only[zz]
   refine tpZ 4 (.pointer (some ⟨g,k * 5,none⟩)) hA ?_
   simp only[zz]
   refine tpZ 5 (.pointer (some ⟨g,k * 5,none⟩)) hA ?_
   simp only[zz]
   refine tqZ 6 (.string x.name) [] hA (fun w5 q1=>?_) ?_
   ·obtain⟨c0,c1,c2⟩:=q1
    go_simp
   simp only[zz]
   refine tpZ 7 (.pointer (some ⟨g,k * 5,none⟩)) hA ?_
   simp only[zz]
   refine tpZ 8 (.pointer (some ⟨g,k * 5,none⟩)) hA ?_
   simp only[zz]
   refine tpZ 9 (.pointer (some ⟨g,k * 5,none⟩)) hA ?_
   simp only[zz]
   refine tqZ 10 (.string x.name) [] hA (fun w5 q1=>?_) ?_
   ·obtain⟨c0,c1,c2⟩:=q1
    go_simp
   simp only[zz]
   refine tpZ 11 (.int .i64 x.name.size) hA ?_
   simp only[zz]
   refine tpZ 12 (.int .i64 m0) hA ?_
   simp only[zz]
   refine tpZ 13 (.string (x.name.extract 0 m0)) hA ?_
   simp only[zz]
   refine tpZ 14 (.pointer (some ⟨g,k * 5,none⟩)) hA ?_
   simp only[zz]
   refine tpZ 15 (.pointer (some ⟨g,k * 5,none⟩)) hA ?_
   simp only[zz]
   refine tpZ 16 (.pointer (some ⟨g,k * 5+3,none⟩)) hA ?_
   simp only[zz]
   refine tqZ 17 (.slice oa x.old.length oc) [] hA (fun w5 q1=>?_) ?_
   ·obtain⟨c0,c1,c2⟩:=q1
    go_simp
   simp only[zz]
   refine tpZ 18 (.pointer (some ⟨g,k * 5,none⟩)) hA ?_
   simp only[zz]
   refine tpZ 19 (.pointer (some ⟨g,k * 5,none⟩)) hA ?_
   simp only[zz]
   refine tpZ 20 (.pointer (some ⟨g,k * 5+3,none⟩)) hA ?_
   simp only[zz]
   refine tqZ 21 (.slice oa x.old.length oc) [] hA (fun w5 q1=>?_) ?_
   ·obtain⟨c0,c1,c2⟩:=q1
    go_simp
   simp only[zz]
   refine tpZ 22 (.int .i64 x.old.length) hA ?_
   simp only[zz]
   refine tpZ 23 (.int .i64 m1) hA ?_
   simp only[zz]
   refine tpZ 24 (.slice ua m1 uc) hA ?_
   simp only[zz]
   refine tpZ 25 (.pointer (some ⟨g,k * 5,none⟩)) hA ?_
   simp only[zz]
   refine tpZ 26 (.pointer (some ⟨g,k * 5,none⟩)) hA ?_
   simp only[zz]
   refine tpZ 27 (.pointer (some ⟨g,k * 5+4,none⟩)) hA ?_
   simp only[zz]
   refine tqZ 28 (.slice na x.new.length nc) [] hA (fun w5 q1=>?_) ?_
   ·obtain⟨c0,c1,c2⟩:=q1
    go_simp
   simp only[zz]
   refine tpZ 29 (.pointer (some ⟨g,k * 5,none⟩)) hA ?_
   simp only[zz]
   refine tpZ 30 (.pointer (some ⟨g,k * 5,none⟩)) hA ?_
   simp only[zz]
   refine tpZ 31 (.pointer (some ⟨g,k * 5+4,none⟩)) hA ?_
   simp only[zz]
   refine tqZ 32 (.slice na x.new.length nc) [] hA (fun w5 q1=>?_) ?_
   ·obtain⟨c0,c1,c2⟩:=q1
    go_simp
   simp only[zz]
   refine tpZ 33 (.int .i64 x.new.length) hA ?_
   simp only[zz]
   refine tpZ 34 (.int .i64 m2) hA ?_
   simp only[zz]
   refine tpZ 35 (.slice va m2 vc) hA ?_
   simp only[zz]
   refine tpZ 36 (.pointer (some ⟨g,k * 5,none⟩)) hA ?_
   simp only[zz]
   refine tpZ 37 (.pointer (some ⟨g,k * 5,none⟩)) hA ?_
   simp only[zz]
   refine tlZ 38 ?_
   simp only[List.drop]
   have f0:=i3.o (k * 5);have f3:=i3.o (k * 5+3);have f4:=i3.o (k * 5+4)
   obtain⟨c0,c3,c4⟩:=hA
   go_upto_region 9 with fail
   obtain⟨x',a9⟩: ∃x',x'=Z4 x:=⟨_,rfl⟩
   have f9:x'.name=x.name.extract 0 m0:=by rw[a9,m6.o];rfl
   have b8:x'.old=x.old.take m1:=by
    rw[a9,k9.o]
    simp only[Z4]
    rw[Nat.min_comm]
    rcases Nat.le_total 3001 x.old.length with h | h
    ·rw[Nat.min_eq_left h]
    ·rw[Nat.min_eq_right h,List.take_of_length_le h,List.take_of_length_le (Nat.le_refl _)]
   have c7:x'.new=x.new.take m2:=by
    rw[a9,l2.o]
    simp only[Z4]
    rw[Nat.min_comm]
    rcases Nat.le_total 3001 x.new.length with h | h
    ·rw[Nat.min_eq_left h]
    ·rw[Nat.min_eq_right h,List.take_of_length_le h,List.take_of_length_le (Nat.le_refl _)]
   have f2:x'.fine:=by
    obtain⟨p1,p2,p3,p4,p5⟩:=t8.o
    refine⟨?_,by rw[b8,List.length_take];omega,by rw[c7,List.length_take];omega,by rw[b8];exact fun z hz=>p4 z (List.mem_of_mem_take hz),by rw[c7];exact fun z hz=>p5 z (List.mem_of_mem_take hz)⟩
    rw[f9,ByteArray.size_extract]
    omega
   have hp:=SetRow.put (x':=x') (v:=.slice ua m1 uc) (u:=.slice va m2 vc) a2.o b5.o HX.o (by rw[a9];rfl) (by rw[a9];rfl) (by rw[b8];exact d2.o) (by rw[c7];exact b6.o) f2
   rw[f9,a9] at hp
   obtain⟨w9,o1⟩: ∃w9,w9=((wd.setCell ⟨g,k * 5,none⟩ (.string (x.name.extract 0 m0))).setCell ⟨g,k * 5+3,none⟩ (.slice ua m1 uc)).setCell ⟨g,k * 5+4,none⟩ (.slice va m2 vc):=⟨_,rfl⟩
   rw[←o1] at hp ⊢
   obtain⟨q5,j5⟩:=hp
   have l7:a1≤g:=by
    obtain⟨_,_,q,_⟩:=a2.o
    exact(q.lt g rfl).1
   have a7:(lk.set k (Z4 x)).length=lk.length:=List.length_set
   have u5:w.heap.size+3<g:=by have:=e8.o;omega
   have n5:=q8.o
   have i9:BrAt w a1 B.epoch B.large c9 #[.int .u64 e0,.slice pa pn pc] C (some ⟨g,0,none⟩) lc (lk.set k (Z4 x)) w9:=by
    have kk: ∀(b:Nat) o,b≠g→wr.heap[b]?=some o→w9.heap[b]?=some o:=fun b o hb h=>by
     have h1:=kb n5 h
     exact(j5.block _ (Za h1) hb).trans h1
    refine⟨by rw[a7];exact kk _ _ (by omega) HD.o.out,kk _ _ (by omega) HD.o.res,kk _ _ (by omega) HD.o.op,by rw[a7];exact q5,b5.o.kept j5 (fun j hj e=>a2.o.apart b5.o j hj (by rw[e];rfl)),(HD.o.upd.trans n5).step j5 (fun j hj e=>by omega),kk _ _ (by omega) HD.o.reg,HD.o.low⟩
   have f7:=V i9
   have c5:w9.cell? ⟨w.heap.size,5,none⟩=some (.slice ra rn rc):=by
    have:=i9.op
    rw[k3.o] at this
    rw[Zr this]
    rfl
   have y2:=(Zk i9.out).2.2
   rw[a7,b0] at y2
   have x6: ¬((k:Int)<0):=by omega
   have t9:IntKind.i64.wrap ((k:Int)+1)=(k:Int)+1:=by rw[IntKind.wrap_i64];omega
   have v3:=V b0
   clear o1 q5 j5 l7 a7 u5 n5 i9 b8 c7 f2 f9 a9 c0 c3 c4 f0 f3 f4 HD b5 a2 b0
   have m4:RowKit.Hid (Zb2 l R k x=Z4 x→BrAt w a1 B.epoch B.large c9 #[.int .u64 e0,.slice pa pn pc] C (some ⟨g,0,none⟩) lc (M.take (k+1)++l0.drop (k+1)) w9):=V (fun e=>by
    rw[←b4.o,e]
    exact f7.o)
   by_cases w0:k<rn
   ·obtain⟨b,hb⟩: ∃b,R[k]?=some b:=⟨_,List.getElem?_eq_getElem (by have:=o2.o;omega)⟩
    obtain⟨kb,ko,rfl,u7,s5⟩:=t0.o k b hb
    have cb:=Zo f7.o.upd (show¬(fun _=>False) kb from fun e=>e) s5
    have l8:(k:Int)<rn:=by omega
    have s4:=V hb
    clear s5 hb u7
    cases b with
    |false=>
     have g0:Zb2 l R k x=Z4 x:=if_neg (by rw[s4.o];simp)
     have m5:=V (m4.out g0)
     clear g0
     go_wp2
     go_roundg (n4 - (k+1))
     case measure=>omega
     case rel=>exact⟨k+1,_,C,by omega,rfl,congrArg _ (by omega),m5.o⟩
    |true=>
     go_upto_region 10 with fail
     have o0:Zb2 l R k x=⟨(Z4 x).name,(l.get (Z4 x).name).isSome,x.is,(l.get (Z4 x).name).getD [],(Z4 x).new⟩:=if_pos s4.o
     have e3:k<(lk.set k (Z4 x)).length:=by rw[List.length_set];have:=v3.o;omega
     have a4:(lk.set k (Z4 x))[k]?=some (Z4 x):=by rw[List.getElem?_set_self (by rw[List.length_set] at e3;exact e3)]
     obtain⟨_,_,_,gb,gq,eg,_,oa,oc,na,nc,q0,_⟩:=f7.o.row.setsAt k (Z4 x) a4
     injection eg with eg
     injection eg with eg1 eg2
     subst eg1 eg2
     rw[Nat.zero_add] at q0
     have q9:w9.cell? ⟨w.heap.size+1,1,none⟩=some (.slice pa pn pc):=by rw[Zr f7.o.reg];rfl
     have n1:=V o0;have m3:=V a4
     have c6:U0 w9 w9.drew:=(Upd.refl _ w9).drew
     have m9:=V c6
     have h9:RowKit.Hid (BrAt w a1 B.epoch B.large c9 #[.int .u64 e0,.slice pa pn pc] C (some ⟨g,0,none⟩) lc (lk.set k (Z4 x)) w9.drew):=V (f7.o.kept0 c6)
     have o9:RowKit.Hid (Calls Tryz.prog 32 #[.slice pa pn pc,.string (Z4 x).name] w9.drew _):=V (by rw[v2.o];exact Zna (s:=(Z4 x).name) w9.drew (HV.o.kept0 (f7.o.upd.trans c6)) (by have:=HF.o.len;omega))
     have l9:RowKit.Hid (∀j,w9.drew.frozen? ⟨g,j,none⟩=false):=V (fun j=>by
      obtain⟨_,_,q,_⟩:=h9.o.row
      exact World.ownsRow.frozenAt q j)
     have hA:w9.drew.cell? ⟨w.heap.size+1,1,none⟩=some (.slice pa pn pc)∧w9.drew.cell? ⟨g,k * 5,none⟩=some (.string (Z4 x).name):=⟨by simpa using q9,by simpa using q0⟩
     obtain⟨nm,f9⟩: ∃nm,nm=(Z4 x).name:=⟨_,rfl⟩
     clear o0 a4 q0 q9 c6 e3 m4
     refine Zj 10 (fun W=>W.cell? ⟨w.heap.size+1,1,none⟩=some (.slice pa pn pc)∧W.cell? ⟨g,k * 5,none⟩=some (.string (Z4 x).name)) [false,false,false,false,false,false,false,false,false,false,false,false] rfl (by kernel_rfl) ?_
     generalize w9.drew=wd2 at hA h9 m9 o9 l9 ⊢
     refine tpZ 0 (.pointer (some ⟨w.heap.size+1,1,none⟩)) hA ?_
     simp only[zz]
     refine tqZ 1 (.slice pa pn pc) [] hA (fun w5 q1=>?_) ?_
     ·obtain⟨c0,c1⟩:=q1
      go_simp
     simp only[zz]
     refine tpZ 2 (.pointer (some ⟨g,k * 5,none⟩)) hA ?_
     simp only[zz]
     refine tpZ 3 (.pointer (some ⟨g,k * 5,none⟩)) hA ?_
     simp only[zz]
     refine tpZ 4 (.pointer (some ⟨g,k * 5,none⟩)) hA ?_
     simp only[zz]
     refine tqZ 5 (.string (Z4 x).name) [] hA (fun w5 q1=>?_) ?_
     ·obtain⟨c0,c1⟩:=q1
      go_simp
     simp only[zz]
     refine diZ 6 (fun K HKK=>?_)
     go_step
     refine(o9.o).mono ?_
     rintro e d7 ⟨v,rfl,g1,g2⟩
     obtain⟨ua,um,uc,rfl⟩:=g1.slice'
     have i2:d7.cell? ⟨w.heap.size+1,1,none⟩=some (.slice pa pn pc)∧d7.cell? ⟨g,k * 5,none⟩=some (.string (Z4 x).name):=⟨Zo g2 id hA.1,Zo g2 id hA.2⟩
     have i0:=V g1;have f6:=V g2
     clear g1 g2
     simp only[]
     refine HKK.o _ _ i2 ?_
     clear HKK
     simp only[zz]
     refine tpZ 7 (.tuple #[.slice ua um uc,.bool (l.get (Z4 x).name).isSome]) i2 ?_
     simp only[zz]
     refine tpZ 8 (.slice ua um uc) i2 ?_
     simp only[zz]
     refine tpZ 9 (.bool (l.get (Z4 x).name).isSome) i2 ?_
     simp only[zz]
     refine tlZ 10 ?_
     simp only[List.drop]
     go_upto_region 11 with fail
     obtain⟨od,n9⟩: ∃od,od=(l.get (Z4 x).name).getD []:=⟨_,rfl⟩
     obtain⟨bo,r4⟩: ∃bo,bo=(l.get (Z4 x).name).isSome:=⟨_,rfl⟩
     have i5:od.length≤3000∧Bytes od:=by
      rw[n9]
      cases e:l.get (Z4 x).name with
      |none=>exact⟨by simp,fun y hy=>by simp at hy⟩
      |some v=>
       have:=HF.o.each _ ((KV.get_some HF.o.rising).1 e)
       exact⟨this.2.2.1,this.2.2.2⟩
     rw[←n9] at i0 n1
     rw[←r4] at n1 ⊢
     have d3:=V i5
     clear n9 r4 i5 hA i2 f9
     iterate 16 go_step
     refine Y7 (bs:=[]) (cs:=od) rfl (.tmp 99) (.tmp 100) rfl rfl (Zc4 d7 (Nat.le_refl _)) rfl (i0.o.kept ((Upd.refl (fun _=>False) d7).alloc _) n3Z).bytesIn (by have:=d3.o;simp;omega) (by simp) ?_
     intro v4 g7 k1 k2
     rw[List.nil_append] at k1
     have b7:U0 d7 g7:=((Upd.refl (fun _=>False) d7).alloc _).step k2 (fun j hj e=>by
      have e':=Option.some.inj e
      simp only at e'
      omega)
     obtain⟨p1,p2,p3⟩:=k1.bytesAt
     obtain⟨e7,d9,rfl,_⟩:=p1.slice
     have v8:=V p1;have t1:=V p2;have t2:=V p3
     have a0:=h9.o.kept0 (f6.o.trans b7)
     obtain⟨_,_,_,gb,gq,eg,_,x0,x2,w8,x3,q0,q1,q2,q3,q4,_⟩:=a0.row.setsAt k (Z4 x) m3.o
     injection eg with eg
     injection eg with eg1 eg2
     subst eg1 eg2
     rw[Nat.zero_add] at q1 q3
     obtain⟨_,_,qo,_⟩:=a0.row
     have f1:=World.ownsRow.frozenAt qo (k * 5+1)
     have f3:=World.ownsRow.frozenAt qo (k * 5+3)
     have l7:=(qo.lt g rfl).1
     have l6:a1≤d7.heap.size:=by
      obtain⟨_,_,t5,_⟩:=h9.o.row
      have h1:=t5.lt g rfl
      have h2:=f6.o.size
      omega
     have g9:BrAt w a1 B.epoch B.large c9 #[.int .u64 e0,.slice pa pn pc] (fun j=>C j∨(Value.slice e7 od.length d9).ownBlock=some j) (some ⟨g,0,none⟩) lc (M.take (k+1)++l0.drop (k+1)) ((g7.setCell ⟨g,k * 5+1,none⟩ (.bool bo)).setCell ⟨g,k * 5+3,none⟩ (.slice e7 od.length d9)):=by
      have e9:RowC g7 (fun j=>C j∨(Value.slice e7 od.length d9).ownBlock=some j):=fun j hj=>by
       rcases hj with hj | hj
       ·exact a0.rows j hj
       ·exact t1.o j hj
      have f2:(Z4 x).fine:=by
       obtain⟨_,_,_,_,q⟩:=a0.row
       exact q _ (List.mem_of_getElem? m3.o)
      have j4:(⟨(Z4 x).name,bo,x.is,od,(Z4 x).new⟩:SetV).fine:=⟨f2.1,by have:=d3.o.1;show od.length≤_;omega,f2.2.2.1,d3.o.2,f2.2.2.2.2⟩
      obtain⟨r1,r2⟩:=SetRow.put2 (x':=⟨(Z4 x).name,bo,x.is,od,(Z4 x).new⟩) (v:=.slice e7 od.length d9) (a0.row.more (C':=fun j=>C j∨(Value.slice e7 od.length d9).ownBlock=some j) (fun _ e=>.inl e)) e9 m3.o rfl rfl rfl (v8.o.mono (fun _ e=>.inr e)) j4
      rw[List.set_set] at r1
      rw[n1.o] at b4
      rw[b4.o] at r1
      have o3:(lk.set k (Z4 x)).length=(M.take (k+1)++l0.drop (k+1)).length:=by rw[←b4.o,List.length_set,List.length_set]
      have x8:=e8.o
      have kk: ∀(b:Nat) o,b≠g→g7.heap[b]?=some o→((g7.setCell ⟨g,k * 5+1,none⟩ (.bool bo)).setCell ⟨g,k * 5+3,none⟩ (.slice e7 od.length d9)).heap[b]?=some o:=fun b o hb h=>(r2.block _ (Za h) hb).trans h
      refine⟨by rw[←o3];exact kk _ _ (by omega) a0.out,kk _ _ (by omega) a0.res,kk _ _ (by omega) a0.op,by rw[←o3];exact r1,e9.kept r2 (fun j hj e=>(a0.row.more (C':=fun j=>C j∨(Value.slice e7 od.length d9).ownBlock=some j) (fun _ e=>.inl e)).apart e9 j hj (by rw[e];rfl)),a0.upd.step r2 (fun j hj e=>by omega),kk _ _ (by omega) a0.reg,fun j hj=>?_⟩
      rcases hj with hj | hj
      ·exact a0.low j hj
      ·have:=t2.o j hj
       omega
     have n0:=V g9
     clear g9 k1 k2 p1 p2 p3 a0 b7 qo l7 l6 h9 i0 f6 q0 q2 q4
     go_wp2
     go_roundg (n4 - (k+1))
     case measure=>omega
     case rel=>exact⟨k+1,_,_,by omega,rfl,congrArg _ (by omega),n0.o⟩
   ·have l8: ¬(k:Int)<rn:=by omega
    have g0:Zb2 l R k x=Z4 x:=if_neg (by rw[List.getElem?_eq_none (by have:=o2.o;omega)];simp)
    have m5:=V (m4.out g0)
    clear g0
    go_wp2
    go_roundg (n4 - (k+1))
    case measure=>omega
    case rel=>exact⟨k+1,_,C,by omega,rfl,congrArg _ (by omega),m5.o⟩
  ·obtain rfl:k=n4:=by omega
   have hd:=HD.o
   have e1:M.take k++l0.drop k=M:=by rw[c8.o,List.drop_length,List.append_nil,←d5,List.take_length]
   rw[e1] at hd
   have l5:M.length=k:=by rw[d5,←c8.o]
   obtain⟨h1,h2,h3,h4,h5,h6,h7,h8⟩:=hd
   have l3:=V h8
   rw[l5] at h1 h4
   obtain⟨y0,y1,y2⟩:=Zk h1
   have f8:=V h2;have HU:=V h6;have a3:=V h4;have i6:=V h5;have n3:=V l5
   clear h1 h2 h3 h4 h5 h6 h7 h8 HD e1 d5 l5 b0
   go_upto_region 13 with fail
   iterate 4 go_step
   refine wpList_store_mid rfl 56 (.tmp 4) (.tmp 107) rfl (w.heap.size+2) 0 #[.int .u64 B.epoch,.bool B.large,.slice la k lc] rfl rfl (by have q:=Zq f8.o;exact q) Z9 (by simp[Value.oneCell']) ?_
   have d6:=Zi (vs:=[.int .u64 B.epoch,.bool B.large,.slice la k lc]) f8.o rfl
   have a8:=Upd.setCells (F:=fun k=>k=w.heap.size+2) (b:=w.heap.size+2) rfl [.int .u64 B.epoch,.bool B.large,.slice la k lc] 0 (Upd.refl _ wr)
   have p6:=run_loadVar_mid (P:=Tryz.prog) (wr.setCells (w.heap.size+2) 0 [.int .u64 B.epoch,.bool B.large,.slice la k lc]) (w.heap.size+2) 0 56 [.int .u64 B.epoch,.bool B.large,.slice la k lc] _ (Zh d6) Tryz.underlying56 rfl Z9
   have t7:=V p6;have b6:=V a8
   clear d6 a8 p6
   go_wp2
   refine bodyPost_ret (Yt Tryz.results19 rfl t7.o) rfl ?_
   have b3:=a3.o.kept b6.o (fun j hj e=>by
    obtain⟨L,_,q,_⟩:=a3.o
    have:=(q.lt j hj).1
    have:=e8.o
    omega) (fun j hj e=>by have:=l3.o j hj;have:=e8.o;omega)
   have u0:=i6.o.kept b6.o (fun j hj e=>by have:=l3.o j hj;have:=e8.o;omega)
   have n8:(Zdi l R B).sets=M:=by rw[d4.o,r0.o];rfl
   refine⟨la,lc,?_,⟨C,?_,u0,fun j hj=>by have:=l3.o j hj;have:=e8.o;omega⟩,?_,HU.o.step b6.o (fun j hj e=>by omega)⟩
   ·unfold batchV
    rw[n8,n3.o]
    rfl
   ·rw[n8,n3.o]
    exact b3.low (by have:=e8.o;omega)
   ·rw[n8,n3.o]
    have:=n6.o
    omega
end
end Go.Proofs.YtbimkhdiplnbfaaGreat
