/- Walks. -/
import Derived.Test.YtbimkhdiplnbfaaGreatU5
import Derived.Lib.AppendZeros
import Derived.Laws.BitsAllLaws
set_option linter.unusedVariables false
set_option linter.unusedSimpArgs false
namespace Go.Proofs.YtbimkhdiplnbfaaGreat
set_option maxRecDepth 1000000
set_option maxHeartbeats 16000000
variable {x:Int} {bs:List Int} {B:Nat} {v:Value} {w w':World}
section
open Go.RowKit
def BytesIn (w:World)(v:Value)(bs:List Int):Prop:=(v=.slice none 0 0∧bs=[])∨ ∃a c,v=.slice (some a) bs.length c∧bs.length≤c∧c≤maxLen∧ ∀(i:Nat) u,(bcells bs)[i]?=some u→w.cell? (a.add i)=some u
theorem Zo {G:Nat→Prop}(hu:Upd G w w'){x:Addr}(hg: ¬G x.block)(h:w.cell? x=some v):w'.cell? x=some v:=by
 have a0:x.block<w.heap.size:=by
  rcases Nat.lt_or_ge x.block w.heap.size with h' | h'
  ·exact h'
  ·simp[World.cell?,Array.getElem?_eq_none h'] at h
 rw[←h]
 simp only[World.cell?]
 rw[hu.block x.block a0 hg]
theorem BytesIn.kept (h:BytesIn w v bs)(hu:U0 w w'):BytesIn w' v bs:=by
 rcases h with h | ⟨a,c,h1,h2,h3,h4⟩
 ·exact .inl h
 ·exact .inr ⟨a,c,h1,h2,h3,fun i u hi=>Zo hu id (h4 i u hi)⟩
abbrev OwnB (w:World) (B:Nat) (v:Value) (bs:List Int):Prop:=w.ownsRow B 5 1 v bs.length (bcells bs)
theorem OwnB.bytesIn (h:OwnB w B v bs):BytesIn w v bs:=by
 rcases h.2 with ⟨h1,h2⟩ | ⟨g,a0,a1,rfl,hb,hg,h1,h2,h3,h4⟩
 ·exact .inl ⟨h1,List.length_eq_zero_iff.1 h2⟩
 ·exact .inr ⟨⟨g,0,none⟩,a0,rfl,h1,h2,World.ownsRow.cells h rfl⟩
theorem OwnB.mono {B':Nat}(h:OwnB w B v bs)(hb:B'≤B):OwnB w B' v bs:=by
 obtain⟨h1,h2⟩:=h
 refine⟨h1,?_⟩
 rcases h2 with h2 | ⟨g,a1,a0,a,b,r⟩
 ·exact .inl h2
 ·exact .inr ⟨g,a1,a0,a,Nat.le_trans hb b,r⟩
theorem OwnB.keptF {G:Nat→Prop}(h:OwnB w B v bs)(hu:Upd G w w')(hg: ∀k,v.ownBlock=some k→ ¬G k):OwnB w' B v bs:=Zy h hu hg
theorem Tryz.info5p:(Tryz.prog.info? 5).map (fun i=>(i.zero,i.size,i.bytes))=some (some (.int .u8 0),1,1):=by kernel_rfl
theorem Zb1 {base:Nat}{ty:TypeId}{m:Nat}(hown:OwnB w base v bs)(hm:bs.length+m≤1099511627776)(hm0:0<m)(hbase:base≤w.heap.size):
  ∃v' w',(Builtin.append_ #[39,3] ty #[v,.int .i64 m]).run Tryz.prog w=.ok v' w'∧OwnB w' base v' (bs++List.replicate m 0)∧w.grownBy w' v.ownBlock∧v'≠.slice none 0 0:=by
 obtain⟨i,hi,hz,hs,hb⟩:=info_parts Tryz.info5p
 have ht:Tryz.prog.underlying 39=some (.slice 5):=Tryz.underlying39
 have b2:Tryz.prog.underlying 3=some (.int .i64):=Tryz.underlying3
 have hn:m≠0:=by omega
 have hw:IntKind.i64.wrap (m:Int)=m:=by rw[IntKind.wrap_i64];omega
 have a9: ¬((m:Int)<0):=by omega
 have a6: ¬(281474976710656<(m:Int) * (i.bytes:Int)):=by rw[hb];omega
 have a4:bcells (bs++List.replicate m 0)=bcells bs++List.replicate m (.int .u8 0):=by simp[bcells]
 have a2:(bs++List.replicate m (0:Int)).length=bs.length+m:=by simp
 have b0: ∀k,Builtin.zeroCells (Value.int .u8 0).cells k=(List.replicate k (.int .u8 0)).toArray:=fun k=>by
  apply Array.ext'
  simp only[Builtin.zeroCells,Value.cells]
  apply List.ext_getElem
  ·simp
  ·intro j h1 h2
   simp[Nat.mod_one]
 have a3: ∀(old:Nat),∀(b8:Option Nat),
   (w.drew.alloc (.cells ((bcells bs).toArray++(List.replicate m (Value.int .u8 0)).toArray++(List.replicate (grownCap w (bs.length+m) old 5 - (bs.length+m)) (Value.int .u8 0)).toArray) 5)).ownsRow base 5 1
    (.slice (some ⟨w.heap.size,0,none⟩) (bs.length+m) (grownCap w (bs.length+m) old 5)) (bs.length+m) (bcells bs++List.replicate m (.int .u8 0))∧
   w.grownBy (w.drew.alloc (.cells ((bcells bs).toArray++(List.replicate m (Value.int .u8 0)).toArray++(List.replicate (grownCap w (bs.length+m) old 5 - (bs.length+m)) (Value.int .u8 0)).toArray) 5)) b8:=by
  intro old b8
  have b9:=grownCap_ge w (bs.length+m) old 5
  have b1:grownCap w (bs.length+m) old 5≤maxLen:=grownCap_le_maxLen w (bs.length+m) old 5 (by unfold maxLen;omega)
  refine⟨⟨by simp[bcells],.inr ⟨w.heap.size,_,_,rfl,hbase,heap_alloc_new w.drew _,b9,b1,?_,?_⟩⟩,⟨rfl,rfl,rfl,by simp,fun k hk _=>Below.heap_alloc w.drew _ _ hk⟩⟩
  ·simp[bcells];omega
  ·have e:(bs.length+m) * 1=(bcells bs++List.replicate m (Value.int .u8 0)).length:=by simp[bcells]
   simp only[Array.toList_append]
   rw[e]
   exact List.take_left
 rcases hown.2 with ⟨rfl,h0⟩ | ⟨g,a1,a7,rfl,c1,hg,c3,b1,c2,a8⟩
 ·have c0:bs=[]:=List.length_eq_zero_iff.1 h0
  subst c0
  have hr:=Lib.run_append_nil_zeros (P:=Tryz.prog) w 39 3 ty 5 i (.int .u8 0) .i64 .i64 ht b2 hi hz m hm0 (by omega) (by simp at hm;omega) (by simp at hm;rw[hb];omega)
  have a5:=a3 0 (Value.ownBlock (.slice none 0 0))
  simp only[List.length_nil,Nat.zero_add,bcells,List.map_nil,List.nil_append] at a5
  rw[b0,b0] at hr
  refine⟨_,_,hr,?_,?_,by simp⟩
  ·have h1:=a5.1
   simp only[OwnB,bcells,List.nil_append]
   simpa using h1
  ·simpa using a5.2
 ·by_cases a0:bs.length+m≤a1
  ·have b6:=run_storeCells_at Tryz.prog g bs.length 5 (List.replicate m (Value.int .u8 0)) 0 a7 w hg (by simp;simp at c2;omega) (by simp[Value.oneCell'])
   simp only[Nat.add_zero] at b6
   have b4:(⟨g,0,none⟩:Addr).add bs.length=⟨g,bs.length,none⟩:=by rw[Addr.add_mid];simp
   refine⟨.slice (some ⟨g,0,none⟩) (bs.length+m) a1,w.setRow g (a7.toList.take bs.length++List.replicate m (Value.int .u8 0)++a7.toList.drop (bs.length+(List.replicate m (Value.int .u8 0)).length)).toArray,?_,⟨by simp[bcells],.inr ⟨g,a1,_,by rw[a2],c1,setRow_heap w g a7 _ 5 _ hg,by rw[a2];exact a0,b1,?_,?_⟩⟩,⟨rfl,rfl,rfl,by simp,fun k _ hk=>setRow_other w g k _ (fun e=>hk (by simp[Value.ownBlock,e]))⟩,by simp⟩
   ·simp only[Builtin.append_,sizeOf,typeInfo,zeroValue,asInt,asIntOf,Builtin.lenOf]
    simp[run_underlying ht,run_underlying b2,hi,hz,hw,hn,a9,a6,a0,hs,b4,b6,b0]
   ·simp only[List.size_toArray,List.length_append,List.length_take,List.length_drop,Array.length_toList,List.length_replicate]
    omega
   ·rw[a4,a2]
    have:a7.toList.take bs.length=bcells bs:=by simpa using a8
    rw[this]
    simp[bcells]
    rw[←List.append_assoc]
    have e:bs.length+m=(List.map (Value.int .u8) bs++List.replicate m (Value.int .u8 0)).length:=by simp
    rw[e]
    exact List.take_left
  ·have b7:=run_firstCells_some (P:=Tryz.prog) w.drew i.size bs.length ⟨g,0,none⟩ bs.length a1 (bcells bs) (by rw[hs];simp[bcells]) (by
    have:=World.ownsRow.cells hown (g:=g) rfl
    simpa using this)
   rw[hs] at b7
   have b5: ¬(281474976710656<Builtin.nextslicecap (bs.length+m) a1 * i.bytes):=by
    have:=growslice_fits (need:=bs.length+m) (old:=a1) (bytes:=i.bytes) (by omega) (by rw[hb];omega)
    omega
   have b3: ¬(9223372036854775807<((bs.length:Int)+(m:Int))):=by omega
   have a5:=a3 a1 (Value.ownBlock (.slice (some ⟨g,0,none⟩) bs.length a1))
   refine⟨.slice (some ⟨w.heap.size,0,none⟩) (bs.length+m) (grownCap w (bs.length+m) a1 5),_,?_,?_,a5.2,by simp⟩
   ·simp[Builtin.append_,run_underlying ht,run_underlying b2,sizeOf,typeInfo,zeroValue,hi,hz,asInt,asIntOf,hw,hn,a9,a6,Builtin.lenOf,a0,b3,b5,Question.forced,b7,newRow,grownCap,hs,b0]
    try rfl
   ·have h1:=a5.1
    rw[OwnB,a2,a4]
    exact h1
theorem Y4 (w:World)(hl:bs.length≤1099511627776)(hv:BytesIn w v bs):
  Calls Tryz.prog 99 #[v] w fun e w'=> ∃u,e=.returned u∧OwnB w' w.heap.size u bs∧(u=.slice none 0 0↔v=.slice none 0 0)∧U0 w w':=by
 rcases hv with ⟨rfl,rfl⟩ | ⟨a,c,rfl,h1,h2,h3⟩
 ·have a6:(binOp .eql 39 (.slice none 0 0) (.slice none 0 0)).run Tryz.prog w=.ok (.bool true) w:=by kernel_rfl
  go_enter Tryz.func99,Tryz.ntmps99
  go_wp2
  go_ret
  exact⟨.slice none 0 0,rfl,World.ownsRow_nil _ _ _ _,by simp,Upd.refl _ _⟩
 ·have HC:=V h3
  clear h3
  have a6:(binOp .eql 39 (.slice (some a) bs.length c) (.slice none 0 0)).run Tryz.prog w=.ok (.bool false) w:=Lib.run_eql_slice_nil w _ _ _ _ _ _ _ Tryz.underlying39
  go_enter Tryz.func99,Tryz.ntmps99
  go_upto_region 3 with fail
  clear a6
  iterate 7 go_step
  obtain⟨i0,a8,a5,a7,a4⟩:=info_parts Tryz.info5p
  have a0:(w.alloc (.cells #[] 5)).ownsRow w.heap.size 5 1 (.slice (some ⟨w.heap.size,0,none⟩) 0 0) 0 []:=
   ⟨by simp,.inr ⟨w.heap.size,0,#[],rfl,Nat.le_refl _,Zc rfl,Nat.le_refl _,Nat.zero_le _,rfl,rfl⟩⟩
  refine wpList_append_own _ rfl (.tmp 5) (.tmp 6) 39 rfl w.heap.size 5 i0 (.int .u8 0) 1 1 Tryz.underlying39 a8 a5 a7 a4 rfl (by omega) _ 0 [] rfl a0 a bs.length c (bcells bs) rfl (by simp[bcells]) (fun j u hj=>Zo (G:=fun _=>False) ((Upd.refl _ w).alloc _) id (HC.o j u hj)) (Z6 bs) (by unfold maxLen;omega) (by omega) (by simp) ?_
  intro v' w1 a3 a1 a2
  have HO:=V a3
  have hu:U0 w w1:=((Upd.refl _ w).alloc _).step (Upd.of_grown (F:=fun k=>k=w.heap.size) a1 (fun k hk=>(Option.some.inj hk).symm)) (fun k hk e=>by omega)
  have HU:=V hu
  have HN:RowKit.Hid (v'≠.slice none 0 0):=V (fun e=>by have:=(a2.1 e).1;cases this)
  clear a3 a1 a2 a8 a5 a7 a4 a0 hu
  go_wp2
  go_ret
  refine⟨_,rfl,?_,⟨fun e=>absurd e HN.o,fun e=>by cases e⟩,HU.o⟩
  have:=HO.o
  simpa using this
theorem Zp3 (x:Int)(nb k:Nat)(h:k<nb):(layF x (8 * nb)).take (k+1)=(layF x (8 * nb)).take k++[(x / 2 ^ (8 * nb - 8 * (k+1))) % 256]:=by
 rw[List.take_add_one]
 have:(layF x (8 * nb))[k]?=some ((x / 2 ^ (8 * nb - 8 * (k+1))) % 256):=by
  simp only[layF,List.getElem?_map,List.getElem?_range (show k<8 * nb / 8 by omega)];rfl
 rw[this];rfl
theorem Y6 (a b:List Int):bcells (a++b)=bcells a++bcells b:=by simp[bcells]
theorem Zio {nb:Nat}(w:World)(hl:bs.length≤1099511627700)(hv:BytesIn w v bs)(_hx:0≤x∧x≤18446744073709551615)(hn:1≤nb∧nb≤8):
  Calls Tryz.prog 180 #[v,.int .u64 x,.int .i64 (8 * nb:Nat)] w fun e w'=> ∃u,e=.returned u∧OwnB w' w.heap.size u (bs++layF x (8 * nb))∧U0 w w':=by
 have HC:=V (Y4 w (by omega) hv)
 clear hv
 have b2:((8 * nb:Nat):Int).tdiv 8=nb:=by rw[Int.tdiv_eq_ediv_of_nonneg (by omega)];omega
 go_enter Tryz.func180,Tryz.ntmps180
 go_wp2_with (go_at_call 99;fail)
 refine HC.o.mono ?_
 rintro e w1 ⟨u1,rfl,ho,_,hu⟩
 have HO:=V ho;have HU:=V hu
 clear ho hu HC
 simp only[]
 go_upto_region 3 with fail
 go_loopg [7,13] nb (fun gk out i wr=> ∃k:Nat,k≤nb∧gk=nb - k∧i=.int .i64 k∧OwnB wr w.heap.size out (bs++(layF x (8 * nb)).take k)∧U0 w wr)
 case atStart=>exact⟨0,Nat.zero_le _,rfl,rfl,by simpa using HO.o,HU.o⟩
 case round=>
  obtain⟨k,hk,rfl,rfl,ho,hu⟩:=hrel
  have a3:=V ho;have a2:=V hu
  clear ho hu HO HU
  by_cases a9:k<nb
  ·have b1:(k:Int)<nb:=by omega
   go_upto_region 5 with fail
   iterate 31 go_step
   obtain⟨i0,a8,a6,a7,a4⟩:=info_parts Tryz.info5p
   have a5:(bs++(layF x (8 * nb)).take k).length=bs.length+k:=by
    have:=layF_length x (8 * nb)
    simp;omega
   refine wpList_append_own _ rfl (.tmp 16) (.tmp 25) 39 rfl w.heap.size 5 i0 (.int .u8 0) 1 1 Tryz.underlying39 a8 a6 a7 a4 rfl (by omega) _ _ _ rfl (a3.o.alloc _) ⟨wr.heap.size,0,none⟩ 1 1 [.int .u8 ((x / 2 ^ (8 * nb - 8 * (k+1))) % 256)] rfl rfl (cell_one_new _ _ _) (by simp[Value.oneCell']) (by rw[a5];unfold maxLen;omega) (by rw[a5];omega) (by have:=a2.o.size;simp;omega) ?_
   intro v' w4 a1 a0 _
   have HN:RowKit.Hid (OwnB w4 w.heap.size v' (bs++(layF x (8 * nb)).take (k+1))):=V (by
    rw[Zp3 x nb k a9,←List.append_assoc]
    unfold OwnB
    rw[Y6,List.length_append]
    exact a1)
   have b0:RowKit.Hid (U0 w w4):=V ((a2.o.alloc _).step (Upd.of_grown (F:=fun k=>w.heap.size≤k) a0 (fun k hk=>(a3.o.lt k hk).1)) (fun k hk e=>by omega))
   clear a1 a0 a8 a6 a7 a4 a3 a2
   go_wp2
   go_roundg (nb - (k+1))
   case measure=>omega
   case rel=>exact⟨k+1,by omega,rfl,congrArg _ (by omega),HN.o,b0.o⟩
  ·obtain rfl:k=nb:=by omega
   go_wp2
   go_ret
   have ho:=a3.o
   rw[List.take_of_length_le (by rw[layF_length];omega)] at ho
   exact⟨_,rfl,ho,a2.o⟩
theorem Zak (w:World)(hl:bs.length≤1099511627700)(hv:BytesIn w v bs)(hx:0≤x∧x≤4294967295):
  Calls Tryz.prog 189 #[v,.int .u32 x] w fun e w'=> ∃u,e=.returned u∧OwnB w' w.heap.size u (bs++layF x 32)∧U0 w w':=by
 have HC:=V (Zio (nb:=4) w hl hv ⟨hx.1,by omega⟩ (by omega))
 have a0:IntKind.u64.wrap x=x:=by rw[IntKind.wrap_u64];omega
 clear hv
 go_enter Tryz.func189,Tryz.ntmps189
 go_wp2_with (go_at_call 180;fail)
 refine HC.o.mono ?_
 rintro e w1 ⟨u1,rfl,ho,hu⟩
 have HO:=V ho;have HU:=V hu
 clear ho hu HC
 simp only[]
 go_wp2
 go_ret
 exact⟨_,rfl,HO.o,HU.o⟩
theorem Zfi (w:World)(hl:bs.length≤1099511627700)(hv:BytesIn w v bs)(hx:0≤x∧x≤65535):
  Calls Tryz.prog 147 #[v,.int .u16 x] w fun e w'=> ∃u,e=.returned u∧OwnB w' w.heap.size u (bs++layF x 16)∧U0 w w':=by
 have HC:=V (Zio (nb:=2) w hl hv ⟨hx.1,by omega⟩ (by omega))
 have a0:IntKind.u64.wrap x=x:=by rw[IntKind.wrap_u64];omega
 clear hv
 go_enter Tryz.func147,Tryz.ntmps147
 go_wp2_with (go_at_call 180;fail)
 refine HC.o.mono ?_
 rintro e w1 ⟨u1,rfl,ho,hu⟩
 have HO:=V ho;have HU:=V hu
 clear ho hu HC
 simp only[]
 go_wp2
 go_ret
 exact⟨_,rfl,HO.o,HU.o⟩
theorem Zo5 {b1 b2:Nat}{c lo hi:Int}(w:World)(h1:w.heap[b1]?=some (.cells #[.int .u32 lo] 136 (0,0)))(h2:w.heap[b2]?=some (.cells #[.int .u32 hi] 136 (0,0)))(hne:b1≠b2)(hc:0≤c∧c≤255)(hp:okP (lo,hi)):
  Calls Tryz.prog 215 (#[.int .u8 c]++#[.pointer (some ⟨b1,0,none⟩),.pointer (some ⟨b2,0,none⟩)]) w fun e w'=>e=.returned (.tuple #[])∧w'.heap[b1]?=some (.cells #[.int .u32 (Y9 (lo,hi) c).1] 136 (0,0))∧w'.heap[b2]?=some (.cells #[.int .u32 (Y9 (lo,hi) c).2] 136 (0,0))∧Upd (fun k=>k=b1∨k=b2) w w':=by
 obtain⟨⟨p1,p2⟩,p3,p4⟩:=hp
 simp only at p1 p2 p3 p4
 have c1:=Zf h1;have c2:=Zf h2
 have f1:w.frozen? ⟨b1,0,none⟩=false:=Zb h1
 have f2:w.frozen? ⟨b2,0,none⟩=false:=Zb h2
 have a0:b2≠b1:=fun e=>hne e.symm
 have HH:=V (And.intro h1 h2)
 clear h1 h2
 go_enter Tryz.func215,Tryz.ntmps215
 go_wp2
 refine bodyPost_end (results_none rfl _ _ _) rfl ?_
 have e1:(hi+(lo+c)) % 65521=(Y9 (lo,hi) c).2:=by simp only[Y9];omega
 have e2:(lo+c) % 65521=(Y9 (lo,hi) c).1:=rfl
 rw[e1,e2]
 have h1:=HH.o.1;have h2:=HH.o.2
 refine⟨rfl,?_,?_,?_⟩
 ·rw[Yd (by exact hne)]
  have:=Ze (i:=0) (v:=.int .u32 (Y9 (lo,hi) c).1) h1
  simpa using this
 ·have h3:(w.setCell ⟨b1,0,none⟩ (.int .u32 (Y9 (lo,hi) c).1)).heap[b2]?=some (.cells #[.int .u32 hi] 136 (0,0)):=by rw[Yd (by exact a0)];exact h2
  have:=Ze (i:=0) (v:=.int .u32 (Y9 (lo,hi) c).2) h3
  simpa using this
 ·exact Upd.setCell (F:=fun k=>k=b1∨k=b2) (p:=⟨b2,0,none⟩) (Upd.setCell (F:=fun k=>k=b1∨k=b2) (p:=⟨b1,0,none⟩) (Upd.refl _ w) (.inl (.inl rfl)) _) (.inl (.inr rfl)) _
theorem Zs4 {h l:Int}(h0:0≤h)(h1:h<65521)(l0:0≤l)(l1:l<65521):bits .or .u32 (h * 65536) l=h * 65536+l:=by
 rw[u32_or _ _ (by omega) (by omega) l0 (by omega)]
 obtain⟨a,rfl⟩:=Int.eq_ofNat_of_zero_le h0
 obtain⟨b,rfl⟩:=Int.eq_ofNat_of_zero_le l0
 have e:((a:Int) * 65536).toNat=2 ^ 16 * a:=by omega
 rw[e,Int.toNat_natCast,←Nat.two_pow_add_eq_or_of_lt (show b<2 ^ 16 by omega)]
 rw[show(2 ^ 16:Nat)=65536 from rfl];omega
theorem Zo6 (bs:List Int)(k:Nat)(c:Int)(h:bs[k]?=some c):sumP (bs.take (k+1))=Y9 (sumP (bs.take k)) c:=by
 rw[List.take_add_one,h]
 simp[sumP]
theorem Zmw (w:World)(hl:bs.length≤1099511627776)(hv:BytesIn w v bs)(hb:Bytes bs):
  Calls Tryz.prog 190 #[v] w fun e w'=>e=.returned (.int .u32 (sumF bs))∧U0 w w':=by
 obtain⟨sa,sc,rfl⟩: ∃sa sc,v=.slice sa bs.length sc:=by
  rcases hv with ⟨rfl,rfl⟩ | ⟨a,c,rfl,_⟩
  ·exact⟨none,0,rfl⟩
  ·exact⟨_,_,rfl⟩
 have a0: ∀i c,bs[i]?=some c→ ∃a,sa=some a∧w.cell? (a.add i)=some (.int .u8 c):=by
  intro i c hi
  rcases hv with ⟨_,rfl⟩ | ⟨a,c',h1,_,_,h4⟩
  ·simp at hi
  ·simp only[Value.slice.injEq] at h1
   exact⟨a,h1.1,h4 i _ (by simp[bcells,hi])⟩
 have HC:=V a0
 clear a0 hv
 go_enter Tryz.func190,Tryz.ntmps190
 go_upto_region 4 with fail
 go_loopg [10] bs.length (fun gk i wr=> ∃k:Nat,k≤bs.length∧gk=bs.length - k∧i=.int .i64 k∧wr.heap[w.heap.size]?=some (.cells #[.int .u32 (sumP (bs.take k)).1] 136 (0,0))∧wr.heap[w.heap.size+1]?=some (.cells #[.int .u32 (sumP (bs.take k)).2] 136 (0,0))∧U0 w wr)
 case atStart=>
  refine⟨0,Nat.zero_le _,rfl,rfl,?_,?_,((Upd.refl _ w).alloc _).alloc _⟩
  ·exact(Zm (by simp)).trans (Zc rfl)
  ·exact Zc (by simp)
 case round=>
  obtain⟨k,hk,rfl,rfl,h1,h2,hu⟩:=hrel
  have H1:=V h1;have H2:=V h2;have HU:=V hu
  clear h1 h2 hu
  by_cases a7:k<bs.length
  ·have a9:(k:Int)<bs.length:=by omega
   obtain⟨c,hc⟩: ∃c,bs[k]?=some c:=⟨bs[k],by simp[a7]⟩
   obtain⟨a,rfl,a1⟩:=HC.o k c hc
   have b0:wr.cell? (a.add k)=some (.int .u8 c):=Zo HU.o id a1
   have a6:=hb c (List.mem_of_getElem? hc)
   have a2:=V (Zo6 bs k c hc)
   clear hc a1
   go_wp2_with (go_at_call 215;fail)
   refine(Zo5 wr H1.o H2.o (by omega) a6 (Zeh _)).mono ?_
   rintro e w4 ⟨rfl,g1,g2,g3⟩
   have G1:=V g1;have G2:=V g2
   have a8:RowKit.Hid (U0 w w4):=V (HU.o.step g3 (fun k hk e=>by omega))
   clear g1 g2 g3
   simp only[]
   go_wp2
   go_roundg (bs.length - (k+1))
   case measure=>omega
   case rel=>exact⟨k+1,by omega,rfl,congrArg _ (by omega),by rw[a2.o];exact G1.out,by rw[a2.o];exact G2.out,a8.o⟩
  ·obtain rfl:k=bs.length:=by omega
   have c1:=Zf H1.o;have c2:=Zf H2.o
   rw[List.take_length] at c1 c2
   obtain⟨⟨p1,p2⟩,p3,p4⟩:=Zeh bs
   clear H1 H2
   obtain⟨lo,a5⟩: ∃lo,lo=(sumP bs).1:=⟨_,rfl⟩
   obtain⟨hi,a3⟩: ∃hi,hi=(sumP bs).2:=⟨_,rfl⟩
   rw[←a5] at c1 p1 p2;rw[←a3] at c2 p3 p4
   have a4:bits .or .u32 (hi * 65536) lo=hi * 65536+lo:=Zs4 p3 p4 p1 p2
   go_wp2
   go_ret
   rw[a5,a3] at a4
   exact⟨by rw[a4];rfl,HU.o⟩
end
end Go.Proofs.YtbimkhdiplnbfaaGreat
