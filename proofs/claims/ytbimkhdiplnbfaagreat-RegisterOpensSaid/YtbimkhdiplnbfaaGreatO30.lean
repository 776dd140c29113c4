/- Walks: the law's open of the document's register over a log. -/
import Derived.Test.YtbimkhdiplnbfaaGreatO1
import Derived.Test.YtbimkhdiplnbfaaGreatO5
import Derived.Test.YtbimkhdiplnbfaaGreatO27
import Derived.Test.YtbimkhdiplnbfaaGreatO28
import Derived.Test.YtbimkhdiplnbfaaGreatO29
open Go.Lib (hid)
set_option linter.unusedVariables false
set_option linter.unusedSimpArgs false
namespace Go.Proofs.YtbimkhdiplnbfaaGreat
set_option maxRecDepth 1000000
set_option maxHeartbeats 16000000
section
open Go.RowKit Go.Shelf
attribute [local go_sem] Oper.semAt_some
section
variable {F:Fence} {m:Nat} {P:Program} {md:Region.Mode} {Q:Exit→Act→World→Prop} {n:Nat} {A:World→Prop}
theorem wpGI_do2 {l:List Oper}{i j:Nat}{oi oj:Oper}{f:Nat}{L:Array Bool}{a:Act}{w:World}(hi':l[i]?=some oi)(hj':l[j]?=some oj)(hr:Region.ready md l.toArray L=[i,j])(hgi:Region.wanted oi (yielded l.toArray a.tmps)=true)(hgj:Region.wanted oj (yielded l.toArray a.tmps)=true)
  (h1: ∀K:Act→World→Prop,(∀a' w',(((L.setIfInBounds i true).getD n true=false→A w')∧wpGI F m P md l.toArray Q n A f (L.setIfInBounds i true) a' w')→K a' w')→oi.wpIn F m P a w K Q)
  (h2: ∀K:Act→World→Prop,(∀a' w',(((L.setIfInBounds j true).getD n true=false→A w')∧wpGI F m P md l.toArray Q n A f (L.setIfInBounds j true) a' w')→K a' w')→oj.wpIn F m P a w K Q):wpGI F m P md l.toArray Q n A (f+1) L a w:=by
 have hi:l.toArray[i]?=some oi:=by simpa using hi'
 have hj:l.toArray[j]?=some oj:=by simpa using hj'
 refine⟨fun h0=>(by rw[hr] at h0;cases h0),fun k hk=>?_⟩
 rw[hr] at hk
 simp only[List.mem_cons,List.not_mem_nil,or_false] at hk
 rcases hk with rfl | rfl
 ·unfold wpOpIn
  simp only[hi,hgi,if_true]
  exact h1 _ (fun a' w' h=>h)
 ·unfold wpOpIn
  simp only[hj,hgj,if_true]
  exact h2 _ (fun a' w' h=>h)
end
structure ModAt (w:World) (m q p:Nat) (s:Int×KV) (area:Int) (X:Lg) (D:Dk) (C T:Nat→Prop) (G F:Nat→Prop):Prop where
 cells: ∃(a:Option Addr) (c:Nat),w.heap[m]?=some (.cells #[.pointer (some ⟨q,0,none⟩),.int .u64 s.1,.slice a s.2.length c,.int .i64 area] 108 (0,0))∧ValsAt w C a s.2∧ ∀g o,a=some ⟨g,o,none⟩→T g
 sub: ∀k,C k→T k
 apart: ∀k,T k→ ¬G k∧ ¬F k∧k≠m∧k<w.heap.size
 nm: ¬G m∧ ¬F m
 gf: ∀k,G k→ ¬F k
 row:RowC w C
 log:Log w q p X G
 disk:Dsk w p D F
 fine:s.2.Fine
def FineB (B:Nat)(C:Nat→Prop)(a:Option Addr)(l:KV):Prop:=l.Fine∧(∀k,C k→B≤k)∧ ∀g o,a=some ⟨g,o,none⟩→B≤g
def LOpenAns (w:World)(p K:Nat)(F:Nat→Prop)(R:Option Lg×Int×Dk)(e:Ending)(w':World):Prop:=
 ∃F',Dsk w' p R.2.2 F'∧(∀k,F' k→F k∨w.heap.size≤k)∧Upd F w w'∧R.2.2.Ok (K+1002000)∧match R.1 with
 |none=>e=.returned (.tuple #[.pointer none,.int .i64 R.2.1])
 |some X=>X.Ok∧X.broken=false∧ ∃p0 txs,X.parts=p0 :: txs∧(((foundN p0 txs).2=false∧e=.returned (.tuple #[.pointer none,.int .i64 302]))∨
   ((foundN p0 txs).2=true∧ ∃m q C T G',e=.returned (.tuple #[.pointer (some ⟨m,0,none⟩),.int .i64 0])∧ModAt w' m q p (foundN p0 txs).1 (areaN (X.h.area - X.used) X.parts) X R.2.2 C T G' F'∧w.heap.size≤m∧(∀k,G' k→w.heap.size≤k)∧ ∀k,T k→w.heap.size≤k))
theorem refFound_no {va la:Option Addr}{vc lc:Nat}{p0:List Int}{txs:List (List Int)}(w0:World)(hp:BytesIn w0 (.slice va p0.length vc) p0)(hl:TxRows w0 la txs)(hb: ∀x,x=p0∨x∈txs→Bytes x∧x.length≤40000)(hn:txs.length≤1000000)(hf:(foundN p0 txs).2=false):
  Calls Tryz.prog 121 #[.slice va p0.length vc,.slice la txs.length lc] w0 fun e w'=>e=.returned (.tuple #[.agg #[.int .u64 0,.slice none 0 0],.bool false])∧Upd (fun _=>False) w0 w':=
 (refFound_any w0 hp hl hb hn).mono fun e w' ⟨h1,h2⟩=>by
  rcases h2 with ⟨_,h2⟩ | ⟨h2,_⟩
  ·exact⟨h2,h1⟩
  ·rw[hf] at h2;cases h2
theorem refFound_yes {va la:Option Addr}{vc lc:Nat}{p0:List Int}{txs:List (List Int)}{ev:Int}{l:KV}(w0:World)(hp:BytesIn w0 (.slice va p0.length vc) p0)(hl:TxRows w0 la txs)(hb: ∀x,x=p0∨x∈txs→Bytes x∧x.length≤40000)(hn:txs.length≤1000000)(hf:foundN p0 txs=((ev,l),true)){B:Nat}(hB:B≤w0.heap.size):
  Calls Tryz.prog 121 #[.slice va p0.length vc,.slice la txs.length lc] w0 fun e w'=> ∃(C:Nat→Prop) (a:Option Addr) (c:Nat),e=.returned (.tuple #[.agg #[.int .u64 ev,.slice a l.length c],.bool true])∧ValsAt w' C a l∧RowC w' C∧(∀g o,a=some ⟨g,o,none⟩→ ∃ds,w'.heap[g]?=some (.cells ds 164 (0,0)))∧FineB B C a l∧Upd (fun _=>False) w0 w':=
 (refFound_any w0 hp hl hb hn).mono fun e w' ⟨h1,h2⟩=>by
  rw[hf] at h2
  rcases h2 with ⟨h2,_⟩ | ⟨_,h3,C,a,c,h4,h5,h6,h7,h8,h9⟩
  ·cases h2
  ·exact⟨C,a,c,h4,h5,h6,h7,⟨h3,fun k hk=>Nat.le_trans hB (h8 k hk),fun g o e=>Nat.le_trans hB (h9 g o e)⟩,h1⟩
structure FoAt (w1:World) (lb ab:Nat) (X:Lg) (a1:Int) (pre:List (Nat×Value)) (W:World):Prop where
 row: ∃(a:Option Addr) (c:Nat),W.heap[lb]?=some (.cells #[.slice a pre.length c] 32 (0,0))∧ ∃vs,W.ownsRow w1.heap.size 39 1 (.slice a pre.length c) pre.length vs∧ ∃C:Nat→Prop,RowC W C∧ ∀(i:Nat) u b,vs[i]?=some u→X.parts.tail[i]?=some b→BytesAt W C u b
 area:W.heap[ab]?=some (.cells #[.int .i64 (areaN a1 (X.parts.tail.take pre.length))] 3 (0,0))
 upd:Upd (fun k=>k=lb∨k=ab) w1 W
 len:pre.length+1≤X.parts.length
theorem FoAt.upd0 {w1 W W':World}{lb ab:Nat}{X:Lg}{a1:Int}{pre:List (Nat×Value)}(h:FoAt w1 lb ab X a1 pre W)(hu:Upd (fun _=>False) W W'):FoAt w1 lb ab X a1 pre W':=by
 obtain⟨⟨a,c,h1,vs,h2,C,h3,h4⟩,h5,h6,h7⟩:=h
 exact⟨⟨a,c,(hu.block _ (lt_of_heap h1) (fun e=>e)).trans h1,vs,ownsRow_any h2 hu (fun _ _ e=>e),C,h3.kept hu (fun _ _ e=>e),fun i u b hu' hb=>(h4 i u b hu' hb).kept hu (fun _ _ e=>e)⟩,(hu.block _ (lt_of_heap h5) (fun e=>e)).trans h5,h6.trans (hu.mono (F:=fun _=>False) (fun _ _ e=>e.elim)),h7⟩
theorem row_cellsB {w:World}{B:Nat}{t:TypeId}{n k:Nat}{v:Value}{m:Nat}{vs:List Value}(h:w.ownsRow B t n v m vs)(hk:v.ownBlock=some k): ∃ds,w.heap[k]?=some (.cells ds t (0,0)):=by
 rcases h.2 with ⟨h1,_⟩ | ⟨g,cap,cur,h1,_,hg,_⟩
 ·rw[h1] at hk;simp[Value.ownBlock] at hk
 ·rw[h1] at hk
  simp only[Value.ownBlock,Option.some.injEq] at hk
  subst hk
  exact⟨_,hg⟩
theorem FoAt.put {w1 W:World}{lb ab lr:Nat}{X:Lg}{a1:Int}{pre:List (Nat×Value)}{o:Loop}(o':Obj)(h:FoAt w1 lb ab X a1 pre W)(hl:w1.heap.size≤lr)(ho:W.heap[lr]?=some (.loop o)):FoAt w1 lb ab X a1 pre (W.putObj lr o'):=by
 obtain⟨⟨a,c,h1,vs,h2,C,h3,h4⟩,h5,h6,h7⟩:=h
 have hF: ∀{k:Nat} {ds:Array Value} {t:TypeId},W.heap[k]?=some (.cells ds t (0,0))→ ¬k=lr:=by
  rintro k ds t hp rfl
  rw[ho] at hp
  injection hp with hp
  cases hp
 have hu:Upd (fun k=>k=lr) W (W.putObj lr o'):=(upd_put (W:=W) (l:=lr) o').mono (F:=fun k=>k=lr) (G:=fun k=>k=lr) (fun _ _ e=>e)
 have hC: ∀k,C k→ ¬k=lr:=fun k hk=>by
  obtain⟨ds,q⟩:=h3 k hk
  exact hF q
 exact⟨⟨a,c,(hu.block _ (lt_of_heap h1) (hF h1)).trans h1,vs,ownsRow_any h2 hu (fun k hk=>by
  obtain⟨ds,q⟩:=row_cellsB h2 hk
  exact hF q),C,h3.kept hu hC,fun i u b hu' hb=>(h4 i u b hu' hb).kept hu hC⟩,(hu.block _ (lt_of_heap h5) (hF h5)).trans h5,h6.step hu (fun k hk e=>by omega),h7⟩
theorem lopen_any {p K:Nat}{D:Dk}{F:Nat→Prop}(w:World)(hD:Dsk w p D F)(hok:D.Ok K)(hK:K≤1000000000):
  Calls Tryz.prog 44 #[.pointer (some ⟨p,0,none⟩)] w (LOpenAns w p K F (openD D)):=by
 have hop:=open_any w hD hok (by omega)
 have h1:=openD_err (D:=D)
 have h2:=fun X=>openD_some (D:=D) (X:=X)
 obtain⟨R,hR⟩: ∃R,R=openD D:=⟨_,rfl⟩
 rw[←hR] at hop h1 ⊢
 simp only[←hR] at h2
 obtain⟨o,E,D'⟩:=R
 clear hR hD hok hK
 have HC:=hid hop
 clear hop
 cases o with
 |none=>
  have hE:E≠0:=h1 rfl
  clear h1 h2
  go_enter Tryz.func44,Tryz.ntmps44
  go_wp2_with (go_at_call 61;fail)
  refine HC.out.mono ?_
  rintro e w1 ⟨F',k1,k2,k3,k4,rfl⟩
  have HK:=hid (show LOpenAns w p K F (none,E,D') (.returned (.tuple #[.pointer none,.int .i64 E])) w1 from⟨F',k1,k2,k3,k4,rfl⟩)
  clear k1 k2 k3 k4 HC
  simp only[]
  go_wp2
  go_returns
  exact HK.out
 |some X=>
  obtain⟨hne,hbr⟩:=h2 X rfl
  obtain⟨p0,txs,hp⟩: ∃p0 txs,X.parts=p0 :: txs:=by
   cases e:X.parts with
   |nil=>exact absurd e hne
   |cons a b=>exact⟨a,b,rfl⟩
  clear h1 h2 hne
  have HBR:=hid hbr;have HP:=hid hp
  clear hbr hp
  refine(callsIn_wide (n:=5)).1 ?_
  refine callsIn_of_wp_marks Tryz.func44 rfl trivial ?_ rfl
  simp only[Tryz.ntmps44,List.size_toArray,List.length_cons,List.length_nil,Nat.reduceAdd,Nat.reduceSub,Array.replicate_succ,Array.replicate_zero,List.push_toArray,List.append_toArray,List.nil_append,List.cons_append]
  refine wpIn_mono ?_ noPanic_of
  refine wpIn_wide.2 ?_
  go_wp2_with (go_at_call 61;fail)
  refine HC.out.mono ?_
  rintro e w1 ⟨F',k1,k2,k3,k4,q,G',rfl,k5,k6,k7,k8⟩
  have H1:=hid k1;have H2:=hid k2;have H3:=hid k3;have H4:=hid k4;have HLG:=hid k5;have H6:=hid k6;have H7:=hid k7;have HOK:=hid k8
  have hp0:=k8.bytes p0 (by rw[HP.out];simp)
  have HP0:=hid hp0
  have HAR0:=hid (show -1000000000≤X.h.area - X.used∧X.h.area - X.used≤1000000 by have:=k8.area;have:=k8.used;omega)
  clear k1 k2 k3 k4 k5 k6 k7 k8 HC hp0
  simp only[]
  go_wp2_with (go_at_call 54;fail)
  obtain⟨wl,hwl⟩: ∃wl,wl=w1.alloc (.cells #[.slice none 0 0] 32):=⟨_,rfl⟩
  rw[←hwl]
  have hul:Upd (fun _=>False) w1 wl:=by rw[hwl];exact(Upd.refl _ w1).alloc _
  have hxl:wl.heap[w1.heap.size]?=some (.cells #[.slice none 0 0] 32 (0,0)):=by rw[hwl];exact alloc_at rfl
  obtain⟨lb,hlb⟩: ∃lb,lb=w1.heap.size:=⟨_,rfl⟩
  rw[←hlb] at hxl ⊢
  have HXL:=hid hxl;have HUL:=hid hul;have HLB:=hid (show w.heap.size≤lb from by rw[hlb];exact H3.out.size);have HLB1:=hid (show w1.heap.size≤lb from by rw[hlb];omega)
  clear hwl hul hxl hlb
  refine(left_any wl (HLG.out.kept' HUL.out) HOK.out).mono ?_
  rintro e w2 ⟨rfl,hu2⟩
  have HU2:=hid (HUL.out.trans hu2)
  have HXL2:=hid ((hu2.block _ (lt_of_heap HXL.out) (fun e=>e)).trans HXL.out)
  clear hu2
  simp only[]
  go_wp2_with (go_at_call 71;fail)
  refine(snap_any w2 (HLG.out.kept' HU2.out) HOK.out (b:=p0) (by rw[HP.out];rfl)).mono ?_
  rintro e w3 ⟨u,rfl,hown,hu3⟩
  obtain⟨ua,uc,rfl,_⟩:=hown.bytesAt.1.slice
  have HU3:=hid (HU2.out.trans hu3)
  have HXL3:=hid ((hu3.block _ (lt_of_heap HXL2.out) (fun e=>e)).trans HXL2.out)
  clear hown hu3 HXL2
  simp only[]
  go_wp2_with (go_at_call 119;fail)
  refine(refSectors_any p0.length w3 (by have:=HP0.out.2;omega)).mono ?_
  rintro e w4 ⟨rfl,rfl⟩
  obtain⟨a1,ha1⟩: ∃a1,a1=X.h.area - X.used+secsI p0.length:=⟨_,rfl⟩
  have HA1:=hid ha1
  have hs0:0≤secsI p0.length∧secsI p0.length≤1000:=secsI_bound _
  have HAR1:=hid (show -1000000≤a1∧a1≤1000000 by rw[ha1];have:=HOK.out.area;have:=HOK.out.used;omega)
  have hwa:IntKind.i64.wrap (X.h.area - X.used+secsI p0.length)=a1:=by rw[←ha1,IntKind.wrap_i64];have:=HAR1.out;omega
  clear ha1 hs0
  simp only[]
  go_wp2_with (go_at_call 120;fail)
  have hxl4:=HXL3.out
  obtain⟨ab,hab⟩: ∃ab,ab=w4.heap.size:=⟨_,rfl⟩
  obtain⟨w5,hw5⟩: ∃w5,w5=w4.alloc (.cells #[.int .i64 a1] 3):=⟨_,rfl⟩
  rw[←hw5,←hab]
  have hu5:Upd (fun _=>False) w4 w5:=by rw[hw5];exact(Upd.refl _ w4).alloc _
  have hx5:w5.heap[ab]?=some (.cells #[.int .i64 a1] 3 (0,0)):=by rw[hw5,hab];exact alloc_at rfl
  refine(walAll_any q w5).mono ?_
  rintro e w9 ⟨rfl,hw9⟩
  have hu9:Upd (fun _=>False) w5 w9:=by rw[hw9];exact(Upd.refl _ w5).alloc _
  have hbx:w9.heap[w5.heap.size]?=some (.cells #[.pointer (some ⟨q,0,none⟩)] 38 (0,0)):=by rw[hw9];exact alloc_at rfl
  have HXL9:=hid (((hu5.trans hu9).block _ (lt_of_heap hxl4) (fun e=>e)).trans hxl4)
  have HXA9:=hid ((hu9.block _ (lt_of_heap hx5) (fun e=>e)).trans hx5)
  have HU19:=hid (HU3.out.trans (hu5.trans hu9));have HBX:=hid hbx
  obtain⟨bp,hbp⟩: ∃bp,bp=w5.heap.size:=⟨_,rfl⟩
  rw[←hbp] at HBX ⊢
  have HAB:=hid (show w1.heap.size≤lb∧w1.heap.size≤ab∧w1.heap.size≤bp∧ab≠lb∧bp≠lb∧bp≠ab∧lb<w9.heap.size∧ab<w9.heap.size∧bp<w9.heap.size from⟨HLB1.out,by rw[hab];exact HU3.out.size,by rw[hbp];exact Nat.le_trans HU3.out.size hu5.size,cells_ne HXA9.out HXL9.out (by decide),cells_ne HBX.out HXL9.out (by decide),cells_ne HBX.out HXA9.out (by decide),lt_of_heap HXL9.out,lt_of_heap HXA9.out,lt_of_heap HBX.out⟩)
  clear hxl4 hab hw5 hu5 hx5 hw9 hu9 hbx hbp HXL3 hwa
  simp only[]
  go_wp2
  have hat:FoAt w9 lb ab X a1 [] w9:=⟨⟨none,0,HXL9.out,[],⟨by simp,.inl ⟨rfl,rfl⟩⟩,fun _=>False,fun k hk=>hk.elim,fun i u b hu=>by simp at hu⟩,HXA9.out,Upd.refl _ _,by rw[HP.out];simp⟩
  have HAT:=hid hat
  clear hat
  have HPL:=hid (show X.parts.length≤1000 from HOK.out.len)
  refine(wpIn_wide (n:=5)).1 ?_
  refine wpIn_rangeFunc_toldL (α:=Nat×Value) (encs:=fun x=>#[.int .i64 x.1,x.2]) rfl (by omega) (gf:=165) (lb:=#[.pointer (some ⟨bp,0,none⟩)]) rfl trivial (enters_of Tryz.func165 (by kernel_rfl) rfl) (fun _=>rfl)
   (fun pre x W0 W1=>x.1=pre.length∧ ∃b,X.parts[pre.length+1]?=some b∧OwnB W1 W0.heap.size x.2 b) (fun xs=>xs.length+1=X.parts.length) (FoAt w9 lb ab X a1) (fun k=>G' k∨k=bp) ?hKp (fun _ _ _ h hu=>h.upd0 hu) (fun pre W l o o' h hl ho=>h.put o' hl ho) HAT.out ?hseq
   (fun x=>{tmps:=#[.pointer (some ⟨p,0,none⟩),undef,.pointer none,.int .i64 0,.pointer (some ⟨q,0,none⟩),.int .i64 0,.pointer (some ⟨lb,0,none⟩),.pointer (some ⟨ab,0,none⟩),undef,x.2,undef,undef,.tuple #[.pointer (some ⟨q,0,none⟩),.int .i64 0],.pointer (some ⟨p,0,none⟩),.tuple #[.pointer (some ⟨q,0,none⟩),.int .i64 0],.pointer (some ⟨q,0,none⟩),.int .i64 0,.int .i64 0,.bool false,undef,.pointer (some ⟨q,0,none⟩),.int .i64 (X.h.area - X.used),.pointer (some ⟨q,0,none⟩),.slice ua p0.length uc,.int .i64 p0.length,.int .i64 (secsI p0.length),.int .i64 a1,.pointer (some ⟨q,0,none⟩),.func (.func 165) #[] #[.pointer (some ⟨bp,0,none⟩)],.int .i64 x.1,x.2,undef,undef,undef,undef,undef,undef,undef,undef,undef,undef,undef,undef,undef,undef,undef,undef,undef,undef,undef,undef,undef,undef,undef],defers:=[]}) ?hassign ?hbody ?hdone
  case hKp=>
   rintro k (hk | hk)
   ·have:=HLG.out.lt k hk;have:=HU19.out.size;omega
   ·have:=HAB.out;omega
  case hseq=>
   intro l J W h0 hW hJA hY
   refine walk_any 4 (by omega) l HOK.out (by rw[HP.out];simp) J W ((HLG.out.kept' HU19.out).keep (fun k hk=>hW k (by have:=HLG.out.lt k hk;have:=HU19.out.size;omega))) ((hW _ (by have:=HAB.out;omega)).trans HBX.out) (fun pre x W0 W1 b hj hu hx hb ho=>hY pre x W0 W1 hj hu ⟨hx,b,hb,ho⟩) h0 hJA
  case hassign=>
   intro l x W K hK
   have HKK:=hid hK
   clear hK
   gi_wp2
   exact HKK.out
  case hbody=>
   rintro l pre x W0 W1 W r r' hl hi0 hu ⟨hx1,b,hb,hown⟩ hl1 rfl
   obtain⟨W,hW⟩: ∃W,W=W1.putObj l (.loop r'):=⟨_,rfl⟩
   rw[←hW]
   have hat:FoAt w9 lb ab X a1 pre W:=by rw[hW];exact(hi0.upd0 hu).put _ hl hl1
   have hownW:OwnB W W0.heap.size x.2 b:=by
    rw[hW]
    refine ownsRow_heap hown (fun k hk=>?_)
    refine World.putObj_heap_other (fun e=>?_)
    subst e
    rcases hown.2 with ⟨h,_⟩ | ⟨g,cap,cur,h,_,hg,_⟩
    ·rw[h] at hk;simp[Value.ownBlock] at hk
    ·rw[h] at hk
     simp only[Value.ownBlock,Option.some.injEq] at hk
     subst hk
     rw[hl1] at hg
     injection hg with hg
     cases hg
   obtain⟨xk,u⟩:=x
   simp only at hx1 hownW
   subst hx1
   obtain⟨hba,hbr,_⟩:=hownW.bytesAt
   obtain⟨ua3,uc3,rfl,_⟩:=hba.slice
   obtain⟨⟨ra,rc,hrw,vs,hro,C,hC,hby⟩,har,hup,hln⟩:=hat
   have hplb:pre.length+1<X.parts.length:=(List.getElem?_eq_some_iff.1 hb).1
   have hbm:=HOK.out.bytes b (List.mem_of_getElem? hb)
   have hanb:=areaN_bound (X.parts.tail.take pre.length) a1
   have htl:(X.parts.tail.take pre.length).length≤1000:=by
    have:=HPL.out
    simp only[List.length_take,List.length_tail]
    omega
   have hbt:X.parts.tail[pre.length]?=some b:=by rw[List.getElem?_tail];exact hb
   have hsnoc:X.parts.tail.take (pre.length+1)=X.parts.tail.take pre.length++[b]:=by
    obtain⟨h1,h2⟩:=List.getElem?_eq_some_iff.1 hbt
    rw[List.take_succ_eq_append_getElem h1,h2]
   obtain⟨an,han⟩: ∃an,an=areaN a1 (X.parts.tail.take pre.length):=⟨_,rfl⟩
   have HSNO:RowKit.Hid (areaN a1 (X.parts.tail.take (pre.length+1))=an+secsI b.length):=hid (by rw[hsnoc,areaN_snoc,han])
   rw[←han] at har hanb
   have HANB:=hid (show -1100000≤an∧an≤2100000 by have:=HAR1.out;omega)
   have hs0:=secsI_bound b.length
   have hwa:IntKind.i64.wrap (an+secsI b.length)=an+secsI b.length:=by rw[IntKind.wrap_i64];have:=HANB.out;omega
   have hrl:=hro.lt
   have hrcl: ∀k,(Value.slice ra pre.length rc).ownBlock=some k→w9.heap.size≤k∧ ∃ds,W.heap[k]?=some (.cells ds 39 (0,0)):=fun k hk=>⟨(hrl k hk).1,row_cellsB hro hk⟩
   have c4:=cells1_of hrw
   have HRW:=hid hrw;have HRO:=hid hro;have HC:=hid hC;have HBY:=hid hby;have HAR:=hid har;have HUP:=hid hup;have HBA:=hid hba;have HBR:=hid hbr;have HBM:=hid hbm;have HBT:=hid hbt;have HPLB:=hid hplb;have HRCL:=hid hrcl
   clear hown hownW hrw hro hC hby har hup hln hba hbr hbm hbt hanb htl hsnoc hplb hb hi0 hu hl1 hW han hs0 hrl hrcl
   gi_upto_region 8 with fail
   iterate 10 gi_step
   obtain⟨i0,hi0,hz0,hz1,hz2⟩:=info_parts Tryz.info28p
   refine wpListIn_append_own _ rfl (.tmp 31) (.tmp 33) 32 rfl w9.heap.size 39 i0 (.slice none 0 0) 1 24 Tryz.underlying32 hi0 hz0 hz1 hz2 rfl (by omega) _ _ _ rfl (HRO.out.alloc _) ⟨W.heap.size,0,none⟩ 1 1 [.slice ua3 b.length uc3] rfl rfl (cell_one_new _ _ _) (by simp[Value.oneCell']) (by unfold maxLen;have:=HPLB.out;have:=HPL.out;omega) (by have:=HPLB.out;have:=HPL.out;omega) (by have:=HUP.out.size;simp;omega) ?_
   intro v' w16 hown4 hgrow _
   obtain⟨g4,cap4,rfl⟩:=ownsRow_succ hown4
   have hu16:Upd (fun k'=>(Value.slice ra pre.length rc).ownBlock=some k') W w16:=((Upd.refl _ W).alloc _).trans (Upd.of_grown hgrow (fun k hk=>hk))
   have hne: ∀{j:Nat} {ds:Array Value} {t:TypeId},W.heap[j]?=some (.cells ds t (0,0))→t≠39→ ¬(Value.slice ra pre.length rc).ownBlock=some j:=fun h1 h2 e=>by
    obtain⟨ds,q⟩:=(HRCL.out _ e).2
    exact cells_ne h1 q h2 rfl
   have hx16:=(hu16.block _ (lt_of_heap HRW.out) (hne HRW.out (by decide))).trans HRW.out
   have ha16:=(hu16.block _ (lt_of_heap HAR.out) (hne HAR.out (by decide))).trans HAR.out
   have c16:=cells1_of hx16
   have f16:w16.frozen? ⟨lb,0,none⟩=false:=frozen_of_heap hx16
   obtain⟨w17,hw17⟩: ∃w17,w17=w16.setCell ⟨lb,0,none⟩ (.slice (some ⟨g4,0,none⟩) (pre.length+1) cap4):=⟨_,rfl⟩
   have hu17:Upd (fun k=>k=lb) w16 w17:=by rw[hw17];exact upd_own w16 lb 0 _
   have hx17:w17.heap[lb]?=some (.cells #[.slice (some ⟨g4,0,none⟩) (pre.length+1) cap4] 32 (0,0)):=by
    rw[hw17]
    have:=blk_set (i:=0) (v:=.slice (some ⟨g4,0,none⟩) (pre.length+1) cap4) hx16
    simpa using this
   have ha17:=(hu17.block _ (lt_of_heap ha16) (cells_ne ha16 hx16 (by decide))).trans ha16
   have hu2:Upd (fun k=>(Value.slice ra pre.length rc).ownBlock=some k∨k=lb) W w17:=(hu16.mono (F:=fun k'=>(Value.slice ra pre.length rc).ownBlock=some k') (G:=fun k=>(Value.slice ra pre.length rc).ownBlock=some k∨k=lb) (fun _ _ e=>.inl e)).trans (hu17.mono (F:=fun k=>k=lb) (fun _ _ e=>.inr e))
   have hg4:g4≠lb:=by
    rintro rfl
    obtain⟨ds,q⟩:=row_cellsB hown4 (k:=g4) rfl
    exact cells_ne q hx16 (by decide) rfl
   have hrow17:=ownsRow_any hown4 hu17 (fun k hk e=>by simp[Value.ownBlock] at hk;omega)
   have HW17:=hid hw17;have HX17:=hid hx17;have HA17:=hid ha17;have HU2:=hid hu2;have HRW17:=hid hrow17
   clear hown4 hgrow hu16 hne hx16 ha16 hw17 hu17 hx17 ha17 hu2 hg4 hrow17 hi0 hz0 hz1 hz2 c4
   gi_upto_region 9 with fail
   rw[←HW17.out]
   have c17:=cells1_of HA17.out
   have f17:w17.frozen? ⟨ab,0,none⟩=false:=frozen_of_heap HA17.out
   clear c16 f16
   have HAD:=hid (show w17.drew.heap[ab]?=some (.cells #[.int .i64 an] 3 (0,0)) from HA17.out)
   have HUD:=hid (show Upd (fun _=>False) w17 w17.drew from(Upd.refl _ w17).drew)
   refine wpIn_region_GI 5 (fun _=>True) [false,false,false,false,false,false] rfl (by kernel_rfl) ?_
   generalize w17.drew=wd at HAD HUD ⊢
   have c17:=cells1_of HAD.out
   have f17:wd.frozen? ⟨ab,0,none⟩=false:=frozen_of_heap HAD.out
   have hfin:FoAt w9 lb ab X a1 (pre++[(pre.length,.slice ua3 b.length uc3)]) (wd.setCell ⟨ab,0,none⟩ (.int .i64 (an+secsI b.length)))∧KeepsFrom w9.heap.size W (wd.setCell ⟨ab,0,none⟩ (.int .i64 (an+secsI b.length)))∧ ∀k,(G' k∨k=bp)→(wd.setCell ⟨ab,0,none⟩ (.int .i64 (an+secsI b.length))).heap[k]?=W.heap[k]?:=by
    obtain⟨wx,hwx⟩: ∃wx,wx=wd.setCell ⟨ab,0,none⟩ (.int .i64 (an+secsI b.length)):=⟨_,rfl⟩
    rw[←hwx]
    have hux:Upd (fun k=>k=ab) wd wx:=by rw[hwx];exact upd_own wd ab 0 _
    have hax:wx.heap[ab]?=some (.cells #[.int .i64 (an+secsI b.length)] 3 (0,0)):=by
     rw[hwx]
     have:=blk_set (i:=0) (v:=.int .i64 (an+secsI b.length)) HAD.out
     simpa using this
    have hxd:=(HUD.out.block _ (lt_of_heap HX17.out) (fun e=>e)).trans HX17.out
    have hxx:=(hux.block _ (lt_of_heap hxd) (cells_ne hxd HAD.out (by decide))).trans hxd
    have hT:Upd (fun k=>(Value.slice ra pre.length rc).ownBlock=some k∨k=lb∨k=ab) W wx:=((HU2.out.mono (F:=fun k=>(Value.slice ra pre.length rc).ownBlock=some k∨k=lb) (G:=fun k=>(Value.slice ra pre.length rc).ownBlock=some k∨k=lb∨k=ab) (fun _ _ e=>e.elim .inl (fun e=>.inr (.inl e)))).trans (HUD.out.mono (F:=fun _=>False) (fun _ _ e=>e.elim))).trans (hux.mono (F:=fun k=>k=ab) (fun _ _ e=>.inr (.inr e)))
    have hFc: ∀k,((Value.slice ra pre.length rc).ownBlock=some k∨k=lb∨k=ab)→ ∃ds t,W.heap[k]?=some (.cells ds t (0,0))∧t≠5:=by
     rintro k (e | rfl | rfl)
     ·obtain⟨ds,q⟩:=(HRCL.out k e).2
      exact⟨ds,39,q,by decide⟩
     ·exact⟨_,_,HRW.out,by decide⟩
     ·exact⟨_,_,HAR.out,by decide⟩
    have hF5: ∀{k:Nat} {ds:Array Value},W.heap[k]?=some (.cells ds 5 (0,0))→ ¬((Value.slice ra pre.length rc).ownBlock=some k∨k=lb∨k=ab):=fun h1 h2=>by
     obtain⟨ds,t,q,ht⟩:=hFc _ h2
     exact cells_ne h1 q (fun e=>ht e.symm) rfl
    have hvl:vs.length=pre.length:=by have:=HRO.out.1;simpa using this
    refine⟨⟨⟨_,cap4,by simpa using hxx,vs++[.slice ua3 b.length uc3],?_,fun k=>C k∨(Value.slice ua3 b.length uc3).ownBlock=some k,?_,fun i u b' hi hb'=>?_⟩,?_,HUP.out.step hT (fun k hk e=>?_),by have:=HPLB.out;simp;omega⟩,⟨hT.size,fun k o hk ho hc=>?_⟩,fun k hk=>?_⟩
    ·have h1:=ownsRow_any (ownsRow_any HRW17.out HUD.out (fun _ _ e=>e)) hux (fun k hk e=>by
      have:=row_cellsB (ownsRow_any HRW17.out HUD.out (fun _ _ e=>e)) hk
      obtain⟨ds,q⟩:=this
      rw[e] at q
      exact cells_ne q HAD.out (by decide) rfl)
     simpa using h1
    ·rintro k (hk | hk)
     ·obtain⟨ds,q⟩:=HC.out k hk
      exact⟨ds,(hT.block _ (lt_of_heap q) (hF5 q)).trans q⟩
     ·obtain⟨ds,q⟩:=HBR.out k hk
      exact⟨ds,(hT.block _ (lt_of_heap q) (hF5 q)).trans q⟩
    ·rcases Nat.lt_or_ge i vs.length with h | h
     ·rw[List.getElem?_append_left h] at hi
      exact((HBY.out i u b' hi hb').kept hT (fun k hk=>by
       obtain⟨ds,q⟩:=HC.out k hk
       exact hF5 q)).mono (fun _ e=>.inl e)
     ·have hi0:i=pre.length:=by
       have:=(List.getElem?_eq_some_iff.1 hi).1
       simp at this
       omega
      subst hi0
      rw[List.getElem?_append_right (by omega),hvl,Nat.sub_self] at hi
      simp only[List.getElem?_cons_zero,Option.some.injEq] at hi
      subst hi
      rw[HBT.out] at hb'
      injection hb' with hb'
      subst hb'
      exact(HBA.out.kept hT (fun k hk=>by
       obtain⟨ds,q⟩:=HBR.out k hk
       exact hF5 q)).mono (fun _ e=>.inr e)
    ·rw[List.length_append,List.length_cons,List.length_nil,Nat.zero_add,HSNO.out]
     exact hax
    ·rcases e with e | e
     ·have:=(HRCL.out k e).1
      omega
     ·exact e
    ·refine(hT.block k (lt_of_heap ho) (fun e=>?_)).trans ho
     obtain⟨ds,t,q,_⟩:=hFc k e
     rw[ho] at q
     injection q with q
     subst q
     cases hc
    ·refine hT.block k ?_ (fun e=>?_)
     ·rcases hk with hk | hk
      ·have:=HLG.out.lt k hk;have:=HU19.out.size;have:=HUP.out.size;omega
      ·have:=HAB.out;have:=HUP.out.size;omega
     ·rcases hk with hk | hk
      ·have h1:=HLG.out.lt k hk;have h2:=HAB.out;have h3:=HU19.out.size
       rcases e with e | e | e
       ·have:=(HRCL.out k e).1;omega
       ·omega
       ·omega
      ·have h2:=HAB.out
       rcases e with e | e | e
       ·have:=(HRCL.out k e).1;omega
       ·omega
       ·omega
   have HFIN:=hid (show(Exit.normal=Exit.normal)∧_∧_∧_ from⟨rfl,hfin⟩)
   clear hfin HRW HRO HC HBY HAR HUP HBA HBR HBT HPLB HRCL HX17 HA17 HU2 HRW17 HW17
   refine wpGI_do2 (i:=0) (j:=1) rfl rfl (by kernel_rfl) rfl rfl (fun K hK=>?_) (fun K hK=>?_)
   ·have HKK:=hid hK
    clear hK
    gi_step
    refine HKK.out _ _ ⟨fun _=>trivial,?_⟩
    clear HKK
    simp only[List.setIfInBounds_toArray,List.set]
    refine wpGI_doIf (i:=1) rfl (by kernel_rfl) rfl (fun K hK=>?_)
    have HKK:=hid hK
    clear hK
    gi_step
    refine HKK.out _ _ ⟨fun _=>trivial,?_⟩
    clear HKK
    simp only[List.setIfInBounds_toArray,List.set]
    refine wpGI_doIf (i:=2) rfl (by kernel_rfl) rfl (fun K hK=>?_)
    have HKK:=hid hK
    clear hK
    gi_step
    refine HKK.out _ _ ⟨fun _=>trivial,?_⟩
    clear HKK
    simp only[List.setIfInBounds_toArray,List.set]
    refine wpGI_doIf (i:=3) rfl (by kernel_rfl) rfl (fun K hK=>?_)
    have HKK:=hid hK
    clear hK
    gi_step
    refine⟨trivial,?_⟩
    refine(CallsIn.inRound l (callsIn_wide.2 (refSectors_any b.length wd HBM.out.2))).mono ?_
    rintro e w' ⟨rfl,rfl⟩
    simp only[]
    refine HKK.out _ _ ⟨fun _=>trivial,?_⟩
    clear HKK
    simp only[List.setIfInBounds_toArray,List.set]
    refine wpGI_doIf (i:=4) rfl (by kernel_rfl) rfl (fun K hK=>?_)
    have HKK:=hid hK
    clear hK
    gi_step
    refine HKK.out _ _ ⟨fun _=>trivial,?_⟩
    clear HKK
    simp only[List.setIfInBounds_toArray,List.set]
    refine wpGI_doIf (i:=5) rfl (by kernel_rfl) rfl (fun K hK=>?_)
    have HKK:=hid hK
    clear hK
    gi_step
    refine HKK.out _ _ ⟨fun _=>trivial,?_⟩
    clear HKK
    simp only[List.setIfInBounds_toArray,List.set]
    refine wpGI_done (by kernel_rfl) ?_
    clear c17 f17
    exact HFIN.out
   ·have HKK:=hid hK
    clear hK
    gi_step
    refine HKK.out _ _ ⟨fun _=>trivial,?_⟩
    clear HKK
    simp only[List.setIfInBounds_toArray,List.set]
    refine wpGI_do2 (i:=0) (j:=2) rfl rfl (by kernel_rfl) rfl rfl (fun K hK=>?_) (fun K hK=>?_)
    ·have HKK:=hid hK
     clear hK
     gi_step
     refine HKK.out _ _ ⟨fun _=>trivial,?_⟩
     clear HKK
     simp only[List.setIfInBounds_toArray,List.set]
     refine wpGI_doIf (i:=2) rfl (by kernel_rfl) rfl (fun K hK=>?_)
     have HKK:=hid hK
     clear hK
     gi_step
     refine HKK.out _ _ ⟨fun _=>trivial,?_⟩
     clear HKK
     simp only[List.setIfInBounds_toArray,List.set]
     refine wpGI_doIf (i:=3) rfl (by kernel_rfl) rfl (fun K hK=>?_)
     have HKK:=hid hK
     clear hK
     gi_step
     refine⟨trivial,?_⟩
     refine(CallsIn.inRound l (callsIn_wide.2 (refSectors_any b.length wd HBM.out.2))).mono ?_
     rintro e w' ⟨rfl,rfl⟩
     simp only[]
     refine HKK.out _ _ ⟨fun _=>trivial,?_⟩
     clear HKK
     simp only[List.setIfInBounds_toArray,List.set]
     refine wpGI_doIf (i:=4) rfl (by kernel_rfl) rfl (fun K hK=>?_)
     have HKK:=hid hK
     clear hK
     gi_step
     refine HKK.out _ _ ⟨fun _=>trivial,?_⟩
     clear HKK
     simp only[List.setIfInBounds_toArray,List.set]
     refine wpGI_doIf (i:=5) rfl (by kernel_rfl) rfl (fun K hK=>?_)
     have HKK:=hid hK
     clear hK
     gi_step
     refine HKK.out _ _ ⟨fun _=>trivial,?_⟩
     clear HKK
     simp only[List.setIfInBounds_toArray,List.set]
     refine wpGI_done (by kernel_rfl) ?_
     clear c17 f17
     exact HFIN.out
    ·have HKK:=hid hK
     clear hK
     gi_step
     refine HKK.out _ _ ⟨fun _=>trivial,?_⟩
     clear HKK
     simp only[List.setIfInBounds_toArray,List.set]
     refine wpGI_do2 (i:=0) (j:=3) rfl rfl (by kernel_rfl) rfl rfl (fun K hK=>?_) (fun K hK=>?_)
     ·have HKK:=hid hK
      clear hK
      gi_step
      refine HKK.out _ _ ⟨fun _=>trivial,?_⟩
      clear HKK
      simp only[List.setIfInBounds_toArray,List.set]
      refine wpGI_doIf (i:=3) rfl (by kernel_rfl) rfl (fun K hK=>?_)
      have HKK:=hid hK
      clear hK
      gi_step
      refine⟨trivial,?_⟩
      refine(CallsIn.inRound l (callsIn_wide.2 (refSectors_any b.length wd HBM.out.2))).mono ?_
      rintro e w' ⟨rfl,rfl⟩
      simp only[]
      refine HKK.out _ _ ⟨fun _=>trivial,?_⟩
      clear HKK
      simp only[List.setIfInBounds_toArray,List.set]
      refine wpGI_doIf (i:=4) rfl (by kernel_rfl) rfl (fun K hK=>?_)
      have HKK:=hid hK
      clear hK
      gi_step
      refine HKK.out _ _ ⟨fun _=>trivial,?_⟩
      clear HKK
      simp only[List.setIfInBounds_toArray,List.set]
      refine wpGI_doIf (i:=5) rfl (by kernel_rfl) rfl (fun K hK=>?_)
      have HKK:=hid hK
      clear hK
      gi_step
      refine HKK.out _ _ ⟨fun _=>trivial,?_⟩
      clear HKK
      simp only[List.setIfInBounds_toArray,List.set]
      refine wpGI_done (by kernel_rfl) ?_
      clear c17 f17
      exact HFIN.out
     ·have HKK:=hid hK
      clear hK
      gi_step
      refine⟨trivial,?_⟩
      refine(CallsIn.inRound l (callsIn_wide.2 (refSectors_any b.length wd HBM.out.2))).mono ?_
      rintro e w' ⟨rfl,rfl⟩
      simp only[]
      refine HKK.out _ _ ⟨fun _=>trivial,?_⟩
      clear HKK
      simp only[List.setIfInBounds_toArray,List.set]
      refine wpGI_doIf (i:=0) rfl (by kernel_rfl) rfl (fun K hK=>?_)
      have HKK:=hid hK
      clear hK
      gi_step
      refine HKK.out _ _ ⟨fun _=>trivial,?_⟩
      clear HKK
      simp only[List.setIfInBounds_toArray,List.set]
      refine wpGI_doIf (i:=4) rfl (by kernel_rfl) rfl (fun K hK=>?_)
      have HKK:=hid hK
      clear hK
      gi_step
      refine HKK.out _ _ ⟨fun _=>trivial,?_⟩
      clear HKK
      simp only[List.setIfInBounds_toArray,List.set]
      refine wpGI_doIf (i:=5) rfl (by kernel_rfl) rfl (fun K hK=>?_)
      have HKK:=hid hK
      clear hK
      gi_step
      refine HKK.out _ _ ⟨fun _=>trivial,?_⟩
      clear HKK
      simp only[List.setIfInBounds_toArray,List.set]
      refine wpGI_done (by kernel_rfl) ?_
      clear c17 f17
      exact HFIN.out
  case hdone=>
   rintro xs Wd hS hs hK
   obtain⟨⟨ra,rc,hrw,vs,hro,C,hC,hby⟩,har,hup,hln⟩:=hs
   have htt:X.parts.tail=txs:=by rw[HP.out];rfl
   have htl:xs.length=txs.length:=by rw[←htt,List.length_tail];omega
   rw[htt,htl,List.take_length] at har
   rw[htt] at hby
   rw[htl] at hrw hro
   have hvl:vs.length=txs.length:=by have:=hro.1;simpa using this
   have htx:TxRows Wd ra txs:=fun i x hx=>by
    have hil:=(List.getElem?_eq_some_iff.1 hx).1
    obtain⟨u,hu⟩: ∃u,vs[i]?=some u:=⟨_,List.getElem?_eq_getElem (by omega)⟩
    obtain⟨g,e1,e2⟩:=row_cell hro hu
    exact⟨g,u,e1,e2,(hby i u x hu hx).bytesIn⟩
   have harq:areaN a1 txs=areaN (X.h.area - X.used) X.parts:=by rw[HP.out,HA1.out];rfl
   rw[harq] at har
   obtain⟨ar9,har9⟩: ∃x,x=areaN (X.h.area - X.used) X.parts:=⟨_,rfl⟩
   rw[←har9] at har
   have HAR9:=hid har9
   have HLGW:=hid ((HLG.out.kept' HU19.out).kept' (Upd.refl (fun _=>False) w9))
   have hlw:Log Wd q p X G':=(HLG.out.kept' HU19.out).keep (fun k hk=>hup.block k (by have:=HLG.out.lt k hk;have:=HU19.out.size;omega) (fun e=>by have:=HLG.out.lt k hk;have:=HAB.out;omega))
   have HLGW:=hid hlw
   have HRWW:=hid hrw;have HARW:=hid har;have HTX:=hid htx;have HKD:=hid hK
   have HUW:=hid (show Upd (fun _=>False) w1 Wd from HU19.out.step hup (fun k hk e=>by have:=HAB.out;omega))
   have HBB:=hid (show∀x,x=p0∨x∈txs→Bytes x∧x.length≤40000 from fun x hx=>HOK.out.bytes x (by rw[HP.out];simpa using hx))
   have HTL:=hid (show txs.length≤1000000 by have:=HPL.out;rw[HP.out] at this;simp at this;omega)
   have HKW:=hid (show w9.heap.size<Wd.heap.size from lt_of_heap hK)
   clear hrw hro hC hby har hup hln htt hvl htx harq har9 hlw hK hS
   go_wp2_with (fail)
   obtain⟨s9,hs9⟩: ∃s,s=foundN p0 txs:=⟨_,rfl⟩
   have HS9:=hid hs9
   obtain⟨⟨ev,l⟩,ok⟩:=s9
   clear hs9
   cases ok with
   |false=>
    have HFN:=hid (show(foundN p0 txs).2=false by rw[←HS9.out])
    go_cut [10,11] from 40 to 47 (fun v10 v11 wx=> ∃bo,v10=.pointer (some ⟨bo,0,none⟩)∧v11=.bool false∧Upd (fun _=>False) Wd wx)
    case first=>
     have hA:Upd (fun _=>False) Wd Wd.drew:=(Upd.refl _ Wd).drew
     have HU:=hid hA
     refine wp_region_G 9 (fun W=>Upd (fun _=>False) Wd W) [false,false,false,false,false,false,false,false,false,false] rfl (by kernel_rfl) ?_
     generalize Wd.drew=wd at hA HU ⊢
     refine tqZ 0 (.pointer (some ⟨q,0,none⟩)) [] hA (fun w5 q1=>?_) ?_
     ·go_simp
     simp only[pZ,nZ,bZ,List.set]
     refine tqZ 2 (.slice ra txs.length rc) [] hA (fun w5 q1=>?_) ?_
     ·have c0:=cells1_of ((q1.block _ (lt_of_heap HRWW.out) (fun e=>e)).trans HRWW.out)
      go_simp
     simp only[pZ,nZ,bZ,List.set]
     refine wpG_do2 (i:=1) (j:=7) rfl rfl (by kernel_rfl) rfl rfl (fun K hK=>?_) (fun K hK=>?_)
     ·have HKK:=hid hK
      clear hK
      go_step
      refine(snap_any wd (HLGW.out.kept' hA) HOK.out (b:=p0) (by rw[HP.out];rfl)).mono ?_
      rintro e WA ⟨u1,rfl,hown,g2⟩
      have hA:=hA.trans g2
      have HU:=hid hA
      obtain⟨pa,pc,rfl,_⟩:=hown.bytesAt.1.slice
      have HO:=hid hown.bytesAt.1.bytesIn
      clear hown g2
      simp only[]
      refine HKK.out _ _ hA ?_
      clear HKK
      simp only[pZ,nZ,bZ,List.set]
      refine wpG_do2 (i:=3) (j:=7) rfl rfl (by kernel_rfl) rfl rfl (fun K hK=>?_) (fun K hK=>?_)
      ·have HKK:=hid hK
       clear hK
       go_step
       refine(refFound_no WA HO.out (HTX.out.kept0 hA) HBB.out HTL.out HFN.out).mono ?_
       rintro e WB ⟨rfl,g2⟩
       have hA:=hA.trans g2
       have HU:=hid hA
       clear g2 HO
       simp only[]
       refine HKK.out _ _ hA ?_
       clear HKK
       simp only[pZ,nZ,bZ,List.set]
       refine tqZ 4 (.tuple #[.agg #[.int .u64 0,.slice none 0 0],.bool false]) [] hA (fun w5 q1=>?_) ?_
       ·go_simp
       simp only[pZ,nZ,bZ,List.set]
       refine tqZ 5 (.agg #[.int .u64 0,.slice none 0 0]) [] hA (fun w5 q1=>?_) ?_
       ·go_simp
       simp only[pZ,nZ,bZ,List.set]
       refine tqZ 6 (.bool false) [] hA (fun w5 q1=>?_) ?_
       ·go_simp
       simp only[pZ,nZ,bZ,List.set]
       refine wpG_do (i:=7) rfl (by kernel_rfl) rfl (fun K hK=>?_)
       have HKK:=hid hK
       clear hK
       go_step
       have ua:Upd (fun _=>False) WB (WB.alloc (.cells #[.int .u64 0,.slice none 0 0] 62)):=(Upd.refl _ _).alloc _
       have HB6:=hid HU.out.size
       have HX:=hid (alloc_at (w:=WB) (o:=.cells #[.int .u64 0,.slice none 0 0] 62) rfl)
       have hA:=hA.trans ua
       have HU:=hid (HU.out.trans ua)
       clear ua
       refine HKK.out _ _ hA ?_
       clear HKK
       simp only[pZ,nZ,bZ,List.set]
       generalize WB.alloc (.cells #[.int .u64 0,.slice none 0 0] 62)=WBX at HX hA HU ⊢
       generalize WB.heap.size=bo at HX HB6 ⊢
       have f0:WBX.frozen? ⟨bo,0,none⟩=false:=frozen_of_heap HX.out
       have f1:WBX.frozen? ⟨bo,1,none⟩=false:=frozen_of_heap HX.out
       obtain⟨b0,b1⟩:=cells2_of HX.out
       refine wpG_do (i:=8) rfl (by kernel_rfl) rfl (fun K hK=>?_)
       have HKK:=hid hK
       clear hK
       go_step
       obtain⟨p1,p2⟩:=put2 (u:=.int .u64 0) (v:=.slice none 0 0) HX.out
       have hA:=hA.step p2 (fun k hk e=>by have:=HB6.out;omega)
       have HU:=hid hA
       refine HKK.out _ _ hA ?_
       clear HKK f0 f1 b0 b1
       have HP1:=hid p1;have HP2:=hid p2
       clear p1 p2
       simp only[pZ,nZ,bZ,List.set]
       refine wpG_tail_lit (k:=9) rfl rfl (by kernel_rfl) ?_
       simp only[List.drop]
       go_wp2
       go_meet
       case rel=>
        exact⟨bo,rfl,rfl,HU.out⟩
      ·have HKK:=hid hK
       clear hK
       go_step
       have ua:Upd (fun _=>False) WA (WA.alloc (.cells #[.int .u64 0,.slice none 0 0] 62)):=(Upd.refl _ _).alloc _
       have HB6:=hid HU.out.size
       have HX:=hid (alloc_at (w:=WA) (o:=.cells #[.int .u64 0,.slice none 0 0] 62) rfl)
       have hA:=hA.trans ua
       have HU:=hid (HU.out.trans ua)
       have HO:=hid (HO.out.kept ua)
       clear ua
       refine HKK.out _ _ hA ?_
       clear HKK
       simp only[pZ,nZ,bZ,List.set]
       generalize WA.alloc (.cells #[.int .u64 0,.slice none 0 0] 62)=WAX at HX hA HU HO ⊢
       generalize WA.heap.size=bo at HX HB6 ⊢
       refine wpG_do (i:=3) rfl (by kernel_rfl) rfl (fun K hK=>?_)
       have HKK:=hid hK
       clear hK
       go_step
       refine(refFound_no WAX HO.out (HTX.out.kept0 hA) HBB.out HTL.out HFN.out).mono ?_
       rintro e WB ⟨rfl,g2⟩
       have hA:=hA.trans g2
       have HU:=hid hA
       have HX:=hid ((g2.block _ (lt_of_heap HX.out) (fun e=>e)).trans HX.out)
       clear g2 HO
       simp only[]
       refine HKK.out _ _ hA ?_
       clear HKK
       simp only[pZ,nZ,bZ,List.set]
       refine tqZ 4 (.tuple #[.agg #[.int .u64 0,.slice none 0 0],.bool false]) [] hA (fun w5 q1=>?_) ?_
       ·go_simp
       simp only[pZ,nZ,bZ,List.set]
       refine tqZ 5 (.agg #[.int .u64 0,.slice none 0 0]) [] hA (fun w5 q1=>?_) ?_
       ·go_simp
       simp only[pZ,nZ,bZ,List.set]
       refine tqZ 6 (.bool false) [] hA (fun w5 q1=>?_) ?_
       ·go_simp
       simp only[pZ,nZ,bZ,List.set]
       have f0:WB.frozen? ⟨bo,0,none⟩=false:=frozen_of_heap HX.out
       have f1:WB.frozen? ⟨bo,1,none⟩=false:=frozen_of_heap HX.out
       obtain⟨b0,b1⟩:=cells2_of HX.out
       refine wpG_do (i:=8) rfl (by kernel_rfl) rfl (fun K hK=>?_)
       have HKK:=hid hK
       clear hK
       go_step
       obtain⟨p1,p2⟩:=put2 (u:=.int .u64 0) (v:=.slice none 0 0) HX.out
       have hA:=hA.step p2 (fun k hk e=>by have:=HB6.out;omega)
       have HU:=hid hA
       refine HKK.out _ _ hA ?_
       clear HKK f0 f1 b0 b1
       have HP1:=hid p1;have HP2:=hid p2
       clear p1 p2
       simp only[pZ,nZ,bZ,List.set]
       refine wpG_tail_lit (k:=9) rfl rfl (by kernel_rfl) ?_
       simp only[List.drop]
       go_wp2
       go_meet
       case rel=>
        exact⟨bo,rfl,rfl,HU.out⟩
     ·have HKK:=hid hK
      clear hK
      go_step
      have ua:Upd (fun _=>False) wd (wd.alloc (.cells #[.int .u64 0,.slice none 0 0] 62)):=(Upd.refl _ _).alloc _
      have HB6:=hid HU.out.size
      have HX:=hid (alloc_at (w:=wd) (o:=.cells #[.int .u64 0,.slice none 0 0] 62) rfl)
      have hA:=hA.trans ua
      have HU:=hid (HU.out.trans ua)
      clear ua
      refine HKK.out _ _ hA ?_
      clear HKK
      simp only[pZ,nZ,bZ,List.set]
      generalize wd.alloc (.cells #[.int .u64 0,.slice none 0 0] 62)=wdX at HX hA HU ⊢
      generalize wd.heap.size=bo at HX HB6 ⊢
      refine wpG_do (i:=1) rfl (by kernel_rfl) rfl (fun K hK=>?_)
      have HKK:=hid hK
      clear hK
      go_step
      refine(snap_any wdX (HLGW.out.kept' hA) HOK.out (b:=p0) (by rw[HP.out];rfl)).mono ?_
      rintro e WA ⟨u1,rfl,hown,g2⟩
      have hA:=hA.trans g2
      have HU:=hid hA
      have HX:=hid ((g2.block _ (lt_of_heap HX.out) (fun e=>e)).trans HX.out)
      obtain⟨pa,pc,rfl,_⟩:=hown.bytesAt.1.slice
      have HO:=hid hown.bytesAt.1.bytesIn
      clear hown g2
      simp only[]
      refine HKK.out _ _ hA ?_
      clear HKK
      simp only[pZ,nZ,bZ,List.set]
      refine wpG_do (i:=3) rfl (by kernel_rfl) rfl (fun K hK=>?_)
      have HKK:=hid hK
      clear hK
      go_step
      refine(refFound_no WA HO.out (HTX.out.kept0 hA) HBB.out HTL.out HFN.out).mono ?_
      rintro e WB ⟨rfl,g2⟩
      have hA:=hA.trans g2
      have HU:=hid hA
      have HX:=hid ((g2.block _ (lt_of_heap HX.out) (fun e=>e)).trans HX.out)
      clear g2 HO
      simp only[]
      refine HKK.out _ _ hA ?_
      clear HKK
      simp only[pZ,nZ,bZ,List.set]
      refine tqZ 4 (.tuple #[.agg #[.int .u64 0,.slice none 0 0],.bool false]) [] hA (fun w5 q1=>?_) ?_
      ·go_simp
      simp only[pZ,nZ,bZ,List.set]
      refine tqZ 5 (.agg #[.int .u64 0,.slice none 0 0]) [] hA (fun w5 q1=>?_) ?_
      ·go_simp
      simp only[pZ,nZ,bZ,List.set]
      refine tqZ 6 (.bool false) [] hA (fun w5 q1=>?_) ?_
      ·go_simp
      simp only[pZ,nZ,bZ,List.set]
      have f0:WB.frozen? ⟨bo,0,none⟩=false:=frozen_of_heap HX.out
      have f1:WB.frozen? ⟨bo,1,none⟩=false:=frozen_of_heap HX.out
      obtain⟨b0,b1⟩:=cells2_of HX.out
      refine wpG_do (i:=8) rfl (by kernel_rfl) rfl (fun K hK=>?_)
      have HKK:=hid hK
      clear hK
      go_step
      obtain⟨p1,p2⟩:=put2 (u:=.int .u64 0) (v:=.slice none 0 0) HX.out
      have hA:=hA.step p2 (fun k hk e=>by have:=HB6.out;omega)
      have HU:=hid hA
      refine HKK.out _ _ hA ?_
      clear HKK f0 f1 b0 b1
      have HP1:=hid p1;have HP2:=hid p2
      clear p1 p2
      simp only[pZ,nZ,bZ,List.set]
      refine wpG_tail_lit (k:=9) rfl rfl (by kernel_rfl) ?_
      simp only[List.drop]
      go_wp2
      go_meet
      case rel=>
       exact⟨bo,rfl,rfl,HU.out⟩
    case rest=>
     obtain⟨bo,rfl,rfl,hux⟩:=hcut
     have HUX:=hid hux
     clear hux
     go_wp2
     have hk2:=(HUX.out.block _ HKW.out (fun e=>e)).trans HKD.out
     refine⟨by simp,.inl ⟨_,_,rfl,run_takeDeferred hk2,?_⟩⟩
     have hu3:Upd (fun k=>k=w9.heap.size) wc (wc.putObj w9.heap.size (.deferred none)):=(upd_put (.deferred none)).mono (F:=fun k=>k=w9.heap.size) (fun _ _ e=>e)
     refine⟨_,results_tmp2 Tryz.results44 _ _ _,?_⟩
     have huA:Upd (fun _=>False) w1 (wc.putObj w9.heap.size (.deferred none)):=(HUW.out.trans HUX.out).step hu3 (fun k hk e=>by have:=HU19.out.size;omega)
     exact⟨F',H1.out.kept huA (fun _ _ e=>e),H2.out,H3.out.trans (huA.mono (F:=fun _=>False) (fun _ _ e=>e.elim)),H4.out,HOK.out,HBR.out,p0,txs,HP.out,.inl ⟨HFN.out,rfl⟩⟩
   |true=>
    have HFN:=hid HS9.out.symm
    go_cut [10,11] from 40 to 47 (fun v10 v11 wx=> ∃(bo:Nat) (a5:Option Addr) (c5:Nat) (C5:Nat→Prop),v10=.pointer (some ⟨bo,0,none⟩)∧v11=.bool true∧wx.heap[bo]?=some (.cells #[.int .u64 ev,.slice a5 l.length c5] 62 (0,0))∧ValsAt wx C5 a5 l∧RowC wx C5∧(FineB Wd.heap.size C5 a5 l∧ ∀g o,a5=some ⟨g,o,none⟩→g<wx.heap.size)∧Upd (fun _=>False) Wd wx)
    case first=>
     have hA:Upd (fun _=>False) Wd Wd.drew:=(Upd.refl _ Wd).drew
     have HU:=hid hA
     refine wp_region_G 9 (fun W=>Upd (fun _=>False) Wd W) [false,false,false,false,false,false,false,false,false,false] rfl (by kernel_rfl) ?_
     generalize Wd.drew=wd at hA HU ⊢
     refine tqZ 0 (.pointer (some ⟨q,0,none⟩)) [] hA (fun w5 q1=>?_) ?_
     ·go_simp
     simp only[pZ,nZ,bZ,List.set]
     refine tqZ 2 (.slice ra txs.length rc) [] hA (fun w5 q1=>?_) ?_
     ·have c0:=cells1_of ((q1.block _ (lt_of_heap HRWW.out) (fun e=>e)).trans HRWW.out)
      go_simp
     simp only[pZ,nZ,bZ,List.set]
     refine wpG_do2 (i:=1) (j:=7) rfl rfl (by kernel_rfl) rfl rfl (fun K hK=>?_) (fun K hK=>?_)
     ·have HKK:=hid hK
      clear hK
      go_step
      refine(snap_any wd (HLGW.out.kept' hA) HOK.out (b:=p0) (by rw[HP.out];rfl)).mono ?_
      rintro e WA ⟨u1,rfl,hown,g2⟩
      have hA:=hA.trans g2
      have HU:=hid hA
      obtain⟨pa,pc,rfl,_⟩:=hown.bytesAt.1.slice
      have HO:=hid hown.bytesAt.1.bytesIn
      clear hown g2
      simp only[]
      refine HKK.out _ _ hA ?_
      clear HKK
      simp only[pZ,nZ,bZ,List.set]
      refine wpG_do2 (i:=3) (j:=7) rfl rfl (by kernel_rfl) rfl rfl (fun K hK=>?_) (fun K hK=>?_)
      ·have HKK:=hid hK
       clear hK
       go_step
       refine(refFound_yes WA HO.out (HTX.out.kept0 hA) HBB.out HTL.out HFN.out hA.size).mono ?_
       rintro e WB ⟨C5,a5,c5,rfl,q1,q2,q3,q4,g2⟩
       have hA:=hA.trans g2
       have HU:=hid hA
       have HQ:=hid (And.intro q1 (And.intro q2 (And.intro q3 q4)))
       clear q1 q2 q3 q4
       clear g2 HO
       simp only[]
       refine HKK.out _ _ hA ?_
       clear HKK
       simp only[pZ,nZ,bZ,List.set]
       refine tqZ 4 (.tuple #[.agg #[.int .u64 ev,.slice a5 l.length c5],.bool true]) [] hA (fun w5 q1=>?_) ?_
       ·go_simp
       simp only[pZ,nZ,bZ,List.set]
       refine tqZ 5 (.agg #[.int .u64 ev,.slice a5 l.length c5]) [] hA (fun w5 q1=>?_) ?_
       ·go_simp
       simp only[pZ,nZ,bZ,List.set]
       refine tqZ 6 (.bool true) [] hA (fun w5 q1=>?_) ?_
       ·go_simp
       simp only[pZ,nZ,bZ,List.set]
       refine wpG_do (i:=7) rfl (by kernel_rfl) rfl (fun K hK=>?_)
       have HKK:=hid hK
       clear hK
       go_step
       have ua:Upd (fun _=>False) WB (WB.alloc (.cells #[.int .u64 0,.slice none 0 0] 62)):=(Upd.refl _ _).alloc _
       have HB6:=hid HU.out.size
       have HX:=hid (alloc_at (w:=WB) (o:=.cells #[.int .u64 0,.slice none 0 0] 62) rfl)
       have hA:=hA.trans ua
       have HU:=hid (HU.out.trans ua)
       have HQ:=hid (And.intro (HQ.out.1.kept0 ua) (And.intro (HQ.out.2.1.kept ua (fun _ _ e=>e)) (And.intro (fun g o e=>(HQ.out.2.2.1 g o e).imp (fun ds q=>(ua.block _ (lt_of_heap q) (fun e=>e)).trans q)) HQ.out.2.2.2)))
       clear ua
       refine HKK.out _ _ hA ?_
       clear HKK
       simp only[pZ,nZ,bZ,List.set]
       generalize WB.alloc (.cells #[.int .u64 0,.slice none 0 0] 62)=WBX at HX hA HU HQ ⊢
       generalize WB.heap.size=bo at HX HB6 ⊢
       have f0:WBX.frozen? ⟨bo,0,none⟩=false:=frozen_of_heap HX.out
       have f1:WBX.frozen? ⟨bo,1,none⟩=false:=frozen_of_heap HX.out
       obtain⟨b0,b1⟩:=cells2_of HX.out
       refine wpG_do (i:=8) rfl (by kernel_rfl) rfl (fun K hK=>?_)
       have HKK:=hid hK
       clear hK
       go_step
       obtain⟨p1,p2⟩:=put2 (u:=.int .u64 ev) (v:=.slice a5 l.length c5) HX.out
       have hA:=hA.step p2 (fun k hk e=>by have:=HB6.out;omega)
       have HU:=hid hA
       refine HKK.out _ _ hA ?_
       clear HKK f0 f1 b0 b1
       have HP1:=hid p1;have HP2:=hid p2
       clear p1 p2
       simp only[pZ,nZ,bZ,List.set]
       refine wpG_tail_lit (k:=9) rfl rfl (by kernel_rfl) ?_
       simp only[List.drop]
       go_wp2
       go_meet
       case rel=>
        obtain⟨q1,q2,q4,q3⟩:=HQ.out
        have p2:=HP2.out
        refine⟨bo,a5,c5,C5,rfl,rfl,HP1.out,?_,?_,⟨q3,fun g o e=>(q4 g o e).elim (fun ds q=>Nat.lt_of_lt_of_le (lt_of_heap q) p2.size)⟩,HU.out⟩
        ·refine q1.kept p2 (fun g o e=>?_) (fun k hk=>?_)
         ·obtain⟨ds,q⟩:=q4 g o e
          exact cells_ne q HX.out (by decide)
         ·obtain⟨ds,q⟩:=q2 k hk
          exact cells_ne q HX.out (by decide)
        ·intro k hk
         obtain⟨ds,q⟩:=q2 k hk
         exact⟨ds,(p2.block _ (lt_of_heap q) (cells_ne q HX.out (by decide))).trans q⟩
      ·have HKK:=hid hK
       clear hK
       go_step
       have ua:Upd (fun _=>False) WA (WA.alloc (.cells #[.int .u64 0,.slice none 0 0] 62)):=(Upd.refl _ _).alloc _
       have HB6:=hid HU.out.size
       have HX:=hid (alloc_at (w:=WA) (o:=.cells #[.int .u64 0,.slice none 0 0] 62) rfl)
       have hA:=hA.trans ua
       have HU:=hid (HU.out.trans ua)
       have HO:=hid (HO.out.kept ua)
       clear ua
       refine HKK.out _ _ hA ?_
       clear HKK
       simp only[pZ,nZ,bZ,List.set]
       generalize WA.alloc (.cells #[.int .u64 0,.slice none 0 0] 62)=WAX at HX hA HU HO ⊢
       generalize WA.heap.size=bo at HX HB6 ⊢
       refine wpG_do (i:=3) rfl (by kernel_rfl) rfl (fun K hK=>?_)
       have HKK:=hid hK
       clear hK
       go_step
       refine(refFound_yes WAX HO.out (HTX.out.kept0 hA) HBB.out HTL.out HFN.out hA.size).mono ?_
       rintro e WB ⟨C5,a5,c5,rfl,q1,q2,q3,q4,g2⟩
       have hA:=hA.trans g2
       have HU:=hid hA
       have HX:=hid ((g2.block _ (lt_of_heap HX.out) (fun e=>e)).trans HX.out)
       have HQ:=hid (And.intro q1 (And.intro q2 (And.intro q3 q4)))
       clear q1 q2 q3 q4
       clear g2 HO
       simp only[]
       refine HKK.out _ _ hA ?_
       clear HKK
       simp only[pZ,nZ,bZ,List.set]
       refine tqZ 4 (.tuple #[.agg #[.int .u64 ev,.slice a5 l.length c5],.bool true]) [] hA (fun w5 q1=>?_) ?_
       ·go_simp
       simp only[pZ,nZ,bZ,List.set]
       refine tqZ 5 (.agg #[.int .u64 ev,.slice a5 l.length c5]) [] hA (fun w5 q1=>?_) ?_
       ·go_simp
       simp only[pZ,nZ,bZ,List.set]
       refine tqZ 6 (.bool true) [] hA (fun w5 q1=>?_) ?_
       ·go_simp
       simp only[pZ,nZ,bZ,List.set]
       have f0:WB.frozen? ⟨bo,0,none⟩=false:=frozen_of_heap HX.out
       have f1:WB.frozen? ⟨bo,1,none⟩=false:=frozen_of_heap HX.out
       obtain⟨b0,b1⟩:=cells2_of HX.out
       refine wpG_do (i:=8) rfl (by kernel_rfl) rfl (fun K hK=>?_)
       have HKK:=hid hK
       clear hK
       go_step
       obtain⟨p1,p2⟩:=put2 (u:=.int .u64 ev) (v:=.slice a5 l.length c5) HX.out
       have hA:=hA.step p2 (fun k hk e=>by have:=HB6.out;omega)
       have HU:=hid hA
       refine HKK.out _ _ hA ?_
       clear HKK f0 f1 b0 b1
       have HP1:=hid p1;have HP2:=hid p2
       clear p1 p2
       simp only[pZ,nZ,bZ,List.set]
       refine wpG_tail_lit (k:=9) rfl rfl (by kernel_rfl) ?_
       simp only[List.drop]
       go_wp2
       go_meet
       case rel=>
        obtain⟨q1,q2,q4,q3⟩:=HQ.out
        have p2:=HP2.out
        refine⟨bo,a5,c5,C5,rfl,rfl,HP1.out,?_,?_,⟨q3,fun g o e=>(q4 g o e).elim (fun ds q=>Nat.lt_of_lt_of_le (lt_of_heap q) p2.size)⟩,HU.out⟩
        ·refine q1.kept p2 (fun g o e=>?_) (fun k hk=>?_)
         ·obtain⟨ds,q⟩:=q4 g o e
          exact cells_ne q HX.out (by decide)
         ·obtain⟨ds,q⟩:=q2 k hk
          exact cells_ne q HX.out (by decide)
        ·intro k hk
         obtain⟨ds,q⟩:=q2 k hk
         exact⟨ds,(p2.block _ (lt_of_heap q) (cells_ne q HX.out (by decide))).trans q⟩
     ·have HKK:=hid hK
      clear hK
      go_step
      have ua:Upd (fun _=>False) wd (wd.alloc (.cells #[.int .u64 0,.slice none 0 0] 62)):=(Upd.refl _ _).alloc _
      have HB6:=hid HU.out.size
      have HX:=hid (alloc_at (w:=wd) (o:=.cells #[.int .u64 0,.slice none 0 0] 62) rfl)
      have hA:=hA.trans ua
      have HU:=hid (HU.out.trans ua)
      clear ua
      refine HKK.out _ _ hA ?_
      clear HKK
      simp only[pZ,nZ,bZ,List.set]
      generalize wd.alloc (.cells #[.int .u64 0,.slice none 0 0] 62)=wdX at HX hA HU ⊢
      generalize wd.heap.size=bo at HX HB6 ⊢
      refine wpG_do (i:=1) rfl (by kernel_rfl) rfl (fun K hK=>?_)
      have HKK:=hid hK
      clear hK
      go_step
      refine(snap_any wdX (HLGW.out.kept' hA) HOK.out (b:=p0) (by rw[HP.out];rfl)).mono ?_
      rintro e WA ⟨u1,rfl,hown,g2⟩
      have hA:=hA.trans g2
      have HU:=hid hA
      have HX:=hid ((g2.block _ (lt_of_heap HX.out) (fun e=>e)).trans HX.out)
      obtain⟨pa,pc,rfl,_⟩:=hown.bytesAt.1.slice
      have HO:=hid hown.bytesAt.1.bytesIn
      clear hown g2
      simp only[]
      refine HKK.out _ _ hA ?_
      clear HKK
      simp only[pZ,nZ,bZ,List.set]
      refine wpG_do (i:=3) rfl (by kernel_rfl) rfl (fun K hK=>?_)
      have HKK:=hid hK
      clear hK
      go_step
      refine(refFound_yes WA HO.out (HTX.out.kept0 hA) HBB.out HTL.out HFN.out hA.size).mono ?_
      rintro e WB ⟨C5,a5,c5,rfl,q1,q2,q3,q4,g2⟩
      have hA:=hA.trans g2
      have HU:=hid hA
      have HX:=hid ((g2.block _ (lt_of_heap HX.out) (fun e=>e)).trans HX.out)
      have HQ:=hid (And.intro q1 (And.intro q2 (And.intro q3 q4)))
      clear q1 q2 q3 q4
      clear g2 HO
      simp only[]
      refine HKK.out _ _ hA ?_
      clear HKK
      simp only[pZ,nZ,bZ,List.set]
      refine tqZ 4 (.tuple #[.agg #[.int .u64 ev,.slice a5 l.length c5],.bool true]) [] hA (fun w5 q1=>?_) ?_
      ·go_simp
      simp only[pZ,nZ,bZ,List.set]
      refine tqZ 5 (.agg #[.int .u64 ev,.slice a5 l.length c5]) [] hA (fun w5 q1=>?_) ?_
      ·go_simp
      simp only[pZ,nZ,bZ,List.set]
      refine tqZ 6 (.bool true) [] hA (fun w5 q1=>?_) ?_
      ·go_simp
      simp only[pZ,nZ,bZ,List.set]
      have f0:WB.frozen? ⟨bo,0,none⟩=false:=frozen_of_heap HX.out
      have f1:WB.frozen? ⟨bo,1,none⟩=false:=frozen_of_heap HX.out
      obtain⟨b0,b1⟩:=cells2_of HX.out
      refine wpG_do (i:=8) rfl (by kernel_rfl) rfl (fun K hK=>?_)
      have HKK:=hid hK
      clear hK
      go_step
      obtain⟨p1,p2⟩:=put2 (u:=.int .u64 ev) (v:=.slice a5 l.length c5) HX.out
      have hA:=hA.step p2 (fun k hk e=>by have:=HB6.out;omega)
      have HU:=hid hA
      refine HKK.out _ _ hA ?_
      clear HKK f0 f1 b0 b1
      have HP1:=hid p1;have HP2:=hid p2
      clear p1 p2
      simp only[pZ,nZ,bZ,List.set]
      refine wpG_tail_lit (k:=9) rfl rfl (by kernel_rfl) ?_
      simp only[List.drop]
      go_wp2
      go_meet
      case rel=>
       obtain⟨q1,q2,q4,q3⟩:=HQ.out
       have p2:=HP2.out
       refine⟨bo,a5,c5,C5,rfl,rfl,HP1.out,?_,?_,⟨q3,fun g o e=>(q4 g o e).elim (fun ds q=>Nat.lt_of_lt_of_le (lt_of_heap q) p2.size)⟩,HU.out⟩
       ·refine q1.kept p2 (fun g o e=>?_) (fun k hk=>?_)
        ·obtain⟨ds,q⟩:=q4 g o e
         exact cells_ne q HX.out (by decide)
        ·obtain⟨ds,q⟩:=q2 k hk
         exact cells_ne q HX.out (by decide)
       ·intro k hk
        obtain⟨ds,q⟩:=q2 k hk
        exact⟨ds,(p2.block _ (lt_of_heap q) (cells_ne q HX.out (by decide))).trans q⟩
    case rest=>
     obtain⟨bo,a5,c5,C5,rfl,rfl,hxb,hv5,hc5,hfi,hux⟩:=hcut
     have hxa:=(hux.block _ (lt_of_heap HARW.out) (fun e=>e)).trans HARW.out
     obtain⟨b0,b1⟩:=cells2_of hxb
     have b2:=cells1_of hxa
     have HUX:=hid hux;have HV5:=hid hv5;have HC5:=hid hc5;have HFI:=hid hfi
     clear hxb hv5 hc5 hfi hux hxa
     go_wp2
     obtain⟨wm,hwm⟩: ∃wm,wm=wc.alloc (.cells #[.pointer (some ⟨q,0,none⟩),.int .u64 ev,.slice a5 l.length c5,.int .i64 ar9] 108):=⟨_,rfl⟩
     have hum:Upd (fun _=>False) wc wm:=by rw[hwm];exact(Upd.refl _ wc).alloc _
     have hxm:wm.heap[wc.heap.size]?=some (.cells #[.pointer (some ⟨q,0,none⟩),.int .u64 ev,.slice a5 l.length c5,.int .i64 ar9] 108 (0,0)):=by rw[hwm];exact alloc_at rfl
     rw[←hwm]
     have hk2:=((HUX.out.trans hum).block _ HKW.out (fun e=>e)).trans HKD.out
     refine⟨by simp,.inl ⟨_,_,rfl,run_takeDeferred hk2,?_⟩⟩
     have hu3:Upd (fun k=>k=w9.heap.size) wm (wm.putObj w9.heap.size (.deferred none)):=(upd_put (.deferred none)).mono (F:=fun k=>k=w9.heap.size) (fun _ _ e=>e)
     have hne: ∀{k:Nat} {ds:Array Value} {t:TypeId},wm.heap[k]?=some (.cells ds t (0,0))→ ¬k=w9.heap.size:=by
      rintro k ds t hq rfl
      rw[hk2] at hq
      injection hq with hq
      cases hq
     have hv6:=HV5.out.kept0 hum
     have hc6:=HC5.out.kept hum (fun _ _ e=>e)
     have hcn: ∀k,C5 k→ ¬k=w9.heap.size:=fun k hk=>by
      obtain⟨ds,hq⟩:=hc6 k hk
      exact hne hq
     refine⟨_,results_tmp2 Tryz.results44 _ _ _,?_⟩
     have huA:Upd (fun _=>False) w1 (wm.putObj w9.heap.size (.deferred none)):=(HUW.out.trans (HUX.out.trans hum)).step hu3 (fun k hk e=>by have:=HU19.out.size;omega)
     have hs1:w.heap.size≤wc.heap.size:=Nat.le_trans H3.out.size (Nat.le_trans HUW.out.size HUX.out.size)
     have hw1:w1.heap.size≤Wd.heap.size:=HUW.out.size
     have hwm2:(wm.putObj w9.heap.size (.deferred none)).heap.size=wc.heap.size+1:=by rw[hwm];simp[World.putObj]
     have hlg1:=HLG.out.lt
     have hlf1:=H1.out.lt
     have hw01:=H3.out.size
     have hwcd:=HUX.out.size
     refine⟨F',H1.out.kept huA (fun _ _ e=>e),H2.out,H3.out.trans (huA.mono (F:=fun _=>False) (fun _ _ e=>e.elim)),H4.out,HOK.out,HBR.out,p0,txs,HP.out,.inr ⟨by rw[←HS9.out],wc.heap.size,q,C5,fun k=>w1.heap.size≤k∧k<wc.heap.size,G',rfl,⟨⟨a5,c5,?_,?_,fun g o e=>⟨Nat.le_trans hw1 (HFI.out.1.2.2 g o e),HFI.out.2 g o e⟩⟩,fun k hk=>⟨Nat.le_trans hw1 (HFI.out.1.2.1 k hk),HC5.out.lt k hk⟩,fun k hk=>⟨fun e=>by have:=hlg1 k e;omega,fun e=>by have:=hlf1 k e;omega,by omega,by omega⟩,⟨fun e=>by have:=hlg1 _ e;omega,fun e=>by have:=hlf1 _ e;omega⟩,H7.out,hc6.kept hu3 hcn,HLG.out.kept' huA,H1.out.kept huA (fun _ _ e=>e),?_⟩,hs1,H6.out,fun k hk=>by omega⟩⟩
     ·rw[←HS9.out,←HAR9.out]
      exact(hu3.block _ (lt_of_heap hxm) (hne hxm)).trans hxm
     ·rw[←HS9.out]
      exact fun i pp hpp=>by
       obtain⟨g,v,e1,e2,e3,e4⟩:=hv6 i pp hpp
       have hgn: ¬g=w9.heap.size:=by
        rintro rfl
        simp[World.cell?,hk2] at e2
       exact⟨g,v,e1,cell_keptF hu3 hgn e2,cell_keptF hu3 hgn e3,e4.kept hu3 hcn⟩
     ·rw[←HS9.out]
      exact HFI.out.1.1
end
section
open Go.RowKit Go.Shelf
end
end Go.Proofs.YtbimkhdiplnbfaaGreat
