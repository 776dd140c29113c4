/- Walks. -/
import Derived.Test.YtbimkhdiplnbfaaGreatU27
import Derived.Test.YtbimkhdiplnbfaaGreatU32
import Derived.Deep.Matrix
import Derived.Deep.Slices
import Derived.ChangeSlices
import Derived.SizedLaws
set_option linter.unusedVariables false
set_option linter.unusedSimpArgs false
namespace Go.Proofs.YtbimkhdiplnbfaaGreat
set_option maxRecDepth 1000000
set_option maxHeartbeats 16000000
section
open Go.ChangeShapes Go.WideShapes Go.ChangeAt Go.RowKit Go.Joins Go.Deep
instance:Inhabited SetV:=⟨SetV.zero⟩
theorem Zsp {n:Int}(h:(Lit.int .u64 n).wf=true):0≤n∧n≤18446744073709551615:=by
 simp[Lit.wf,IntKind.min,IntKind.max,IntKind.signed,IntKind.bits] at h;omega
theorem Ze9 {w:World}{b o:Nat}{sp:_}{n:Nat}{cs:List Value}{base:Nat}(h:w.cells? base ((⟨b,o,sp⟩:Addr).add 0) (n+1)=some cs):sp=none:=by
 obtain⟨_,hl,h3⟩:=World.cells?_some h
 have h4:=h3 0 (by omega)
 have a0:0<cs.length:=by omega
 rw[List.getElem?_eq_getElem a0] at h4
 simpa [Addr.add] using World.cell?_spot h4
section
variable {H:Type}
def Sized (t:TypeId)(d:DataW H):Prop:= ∀n∈d.weights Tryz.prog t,n≤140737488351232
theorem Zd3 {e:TypeId}{k:Nat}: ∀{l:List (DataW H)} {d:DataW H},d∈l→k∈d.weights Tryz.prog e→k∈DataW.weightsAll Tryz.prog e l
 |d :: r,x,h,hk=>by
  simp only[DataW.weightsAll,List.mem_append]
  rcases List.mem_cons.1 h with rfl | h
  ·exact .inl hk
  ·exact .inr (Zd3 h hk)
theorem Sized.slice {t e:TypeId}{elems spare:List (DataW H)}(h:Sized t (.slice elems spare))(ht:Tryz.prog.underlying t=some (.slice e)):
  (elems.length+spare.length) * Tryz.prog.bytesOf e≤140737488351232∧ ∀d∈elems,Sized e d:=by
 have hw:DataW.weights Tryz.prog t (.slice elems spare)=(elems.length+spare.length) * Tryz.prog.bytesOf e :: (DataW.weightsAll Tryz.prog e elems++DataW.weightsAll Tryz.prog e spare):=by
  simp only[DataW.weights,ht]
 unfold Sized at h
 rw[hw] at h
 refine⟨h _ (List.mem_cons_self ..),fun d hd k hk=>h k (List.mem_cons_of_mem _ (List.mem_append_left _ (Zd3 hd hk)))⟩
theorem Sized.field {t:TypeId}{fs:Array Field}{parts:List (DataW H)}(h:Sized t (.agg parts))(ht:Tryz.prog.underlying t=some (.struct fs)){i:Nat}{u:TypeId}{d:DataW H}(hi:(fs.toList.map (·.type))[i]?=some u)(hd:parts[i]?=some d):Sized u d:=by
 have hw:DataW.weights Tryz.prog t (.agg parts)=DataW.weightsEach Tryz.prog (fs.toList.map (·.type)) parts:=by
  simp only[DataW.weights,ht]
 unfold Sized at h
 rw[hw] at h
 exact fun k hk=>h k (DataW.weights_mem_each hi hd k hk)
theorem Tryz.bytes5:Tryz.prog.bytesOf 5=1:=by kernel_rfl
theorem Tryz.bytes73:Tryz.prog.bytesOf 73=72:=by kernel_rfl
theorem Tryz.cells39:Tryz.prog.cellsOf 39=1:=by kernel_rfl
theorem Tryz.cells9:Tryz.prog.cellsOf 9=1:=by kernel_rfl
theorem Tryz.cells4:Tryz.prog.cellsOf 4=1:=by kernel_rfl
theorem Tryz.cells5:Tryz.prog.cellsOf 5=1:=by kernel_rfl
theorem Tryz.cells53:Tryz.prog.cellsOf 53=1:=by kernel_rfl
theorem Tryz.cells54:Tryz.prog.cellsOf 54=1:=by kernel_rfl
theorem Tryz.cells73:Tryz.prog.cellsOf 73=5:=by kernel_rfl
theorem Tryz.cells56:Tryz.prog.cellsOf 56=3:=by kernel_rfl
variable {enc:TypeId×Value→H} {w:World} {base:Nat} {held:Bool} {n:Nat} {cs:List Value} {y:DataW H×List MemPlace}
theorem Zgi (h:DataW.trod enc Tryz.prog w base (fun _=>true) held n 39 cs=some y)(hS:Sized 39 y.1):
  ∃a c bs,cs=[.slice a bs.length c]∧BytesIn w (.slice a bs.length c) bs∧Bytes bs∧bs.length≤c∧c≤140737488351232:=by
 rcases open_ints Tryz.underlying39 Tryz.underlying5 Tryz.cells5 h with ⟨a2,rfl⟩ | ⟨a',len,a3,zs,a2,_,hl,hm,hz,rfl,a1,a5⟩
 ·exact⟨none,0,[],a2,.inl ⟨rfl,rfl⟩,fun x hx=>by simp at hx,by simp,by omega⟩
 ·simp only[if_true] at hz
  have a0:(zs.take len).length=len:=by simp;omega
  have hb:a3≤140737488351232:=by
   have h1:=(hS.slice Tryz.underlying39).1
   rw[Tryz.bytes5] at h1
   simp only[lits,List.length_map,List.length_take,List.length_drop] at h1
   omega
  refine⟨some a',a3,zs.take len,by rw[a0];exact a2,.inr ⟨a',a3,by rw[a0],by omega,hm,fun j u hj=>?_⟩,fun x hx=>Zuf (a5 x (List.mem_of_mem_take hx)),by omega,hb⟩
  ·have a6:j<len:=by
    have:=(List.getElem?_eq_some_iff.1 hj).1
    simp[bcells] at this
    omega
   rw[a1 j (by omega)]
   simp only[bcells,List.getElem?_map,List.getElem?_take_of_lt a6] at hj
   have a4:j<zs.length:=by omega
   rw[List.getElem?_eq_getElem a4] at hj
   simp only[Option.map_some,Option.some.injEq] at hj
   rw[List.getD_eq_getElem?_getD,List.getElem?_eq_getElem a4]
   simp[hj]
def setC (x:SetV)(oa:Option Addr)(oc:Nat)(na:Option Addr)(nc:Nat):List Value:=[.string x.name,.bool x.was,.bool x.is,.slice oa x.old.length oc,.slice na x.new.length nc]
theorem Zpn (h:DataW.trod enc Tryz.prog w base (fun _=>true) held n 73 cs=some y)(hS:Sized 73 y.1):
  ∃x oa oc na nc,cs=setC x oa oc na nc∧BytesIn w (.slice oa x.old.length oc) x.old∧BytesIn w (.slice na x.new.length nc) x.new∧Bytes x.old∧Bytes x.new∧x.name.size≤140737488351232∧x.old.length≤140737488351232∧x.new.length≤140737488351232:=by
 obtain⟨xs,m,_,rfl,a3,a1,a0⟩:=DataW.trod_struct Tryz.underlying73 h
 have hl:cs.length=5:=by rw[a3,Tryz.cells73]
 match cs,hl with
 | [c0,c1,c2,c3,c4],_=>
  match xs,a1 with
  | [y0,y1,y2,y3,y4],_=>
   have k9:=Tryz.cells9;have k4:=Tryz.cells4;have a2:=Tryz.cells39
   have h0:DataW.trod enc Tryz.prog w base (fun _=>true) held m 9 [c0]=some y0:=by simpa [k9] using a0 0 _ rfl
   have h1:DataW.trod enc Tryz.prog w base (fun _=>true) held m 4 [c1]=some y1:=by simpa [k4] using a0 1 _ rfl
   have h2:DataW.trod enc Tryz.prog w base (fun _=>true) held m 4 [c2]=some y2:=by simpa [k4] using a0 2 _ rfl
   have h3:DataW.trod enc Tryz.prog w base (fun _=>true) held m 39 [c3]=some y3:=by simpa [a2] using a0 3 _ rfl
   have h4:DataW.trod enc Tryz.prog w base (fun _=>true) held m 39 [c4]=some y4:=by simpa [a2] using a0 4 _ rfl
   obtain⟨s,e0,rfl,_⟩:=DataW.trod_string Tryz.underlying9s' h0
   obtain⟨f,e1,rfl⟩:=DataW.trod_bool Tryz.underlying4b h1
   obtain⟨g,e2,rfl⟩:=DataW.trod_bool Tryz.underlying4b h2
   have s0:Sized (H:=H) 9 (.lit (.string s.data.toList)):=hS.field Tryz.underlying73 (i:=0) rfl rfl
   have s3:Sized 39 y3.1:=hS.field Tryz.underlying73 (i:=3) rfl rfl
   have s4:Sized 39 y4.1:=hS.field Tryz.underlying73 (i:=4) rfl rfl
   obtain⟨oa,oc,ob,e3,o1,o2,o3,o4⟩:=Zgi h3 s3
   obtain⟨na,nc,a4,e4,p1,p2,p3,p4⟩:=Zgi h4 s4
   simp at e0 e1 e2 e3 e4
   subst e0 e1 e2 e3 e4
   have a5:s.size≤140737488351232:=by
    have:=s0 s.data.toList.length (by simp[DataW.weights])
    rw[Array.length_toList] at this
    exact this
   exact⟨⟨s,f,g,ob,a4⟩,oa,oc,na,nc,rfl,o1,p1,o2,p2,a5,by simp only;omega,by simp only;omega⟩
theorem Znz (h:DataW.trod enc Tryz.prog w base (fun _=>true) held n 54 cs=some y)(hS:Sized 54 y.1):
  ∃a c sets,cs=[.slice a sets.length c]∧SetsIn w a sets∧(∀x∈sets,Bytes x.old∧Bytes x.new)∧sets.length≤c∧c≤140737488351232:=by
 rcases open_slice Tryz.underlying54 h with ⟨rfl,rfl⟩ | ⟨a',len,a8,m,n',D,Pl,rfl,hb,hl,hm,a2,rfl,a4⟩
 ·exact⟨none,0,[],rfl,fun i x hx=>by simp at hx,fun x hx=>by simp at hx,by simp,by omega⟩
 ·simp only[if_true] at a2
  subst a2
  rw[Tryz.cells73] at a4
  obtain⟨a5,a6⟩:=hS.slice Tryz.underlying54
  rw[Tryz.bytes73] at a5
  simp only[List.length_map,List.length_range] at a5
  have hD: ∀i,i<len→Sized 73 (D i):=fun i hi=>a6 _ (List.mem_map.2 ⟨i,List.mem_range.2 hi,rfl⟩)
  obtain⟨f,hf⟩:=choose_lt (α:=SetV×(Option Addr×Nat)×(Option Addr×Nat)) (n:=len) (p:=fun i z=>w.cells? base (a'.add (i * 5)) 5=some (setC z.1 z.2.1.1 z.2.1.2 z.2.2.1 z.2.2.2)∧BytesIn w (.slice z.2.1.1 z.1.old.length z.2.1.2) z.1.old∧BytesIn w (.slice z.2.2.1 z.1.new.length z.2.2.2) z.1.new∧Bytes z.1.old∧Bytes z.1.new∧z.1.name.size≤140737488351232∧z.1.old.length≤140737488351232∧z.1.new.length≤140737488351232) (fun i hi=>by
   obtain⟨a9,h1,h2⟩:=a4 i (by omega)
   obtain⟨x,oa,oc,na,nc,rfl,g1,g2,g3,g4,g5,g6,g7⟩:=Zpn h2 (hD i hi)
   exact⟨(x,(oa,oc),(na,nc)),h1,g1,g2,g3,g4,g5,g6,g7⟩)
  have a1: ∀i x,((List.range len).map fun i=>(f i).1)[i]?=some x→i<len∧x=(f i).1:=fun i x hx=>by
   rw[List.getElem?_map,Option.map_eq_some_iff] at hx
   obtain⟨j,hj,rfl⟩:=hx
   obtain⟨h1,h2⟩:=List.getElem?_eq_some_iff.1 hj
   simp at h1 h2
   exact⟨h1,by rw[h2]⟩
  refine⟨some a',m,(List.range len).map fun i=>(f i).1,by simp,fun i x hx=>?_,fun x hx=>?_,by simp;omega,by omega⟩
  ·obtain⟨hi,rfl⟩:=a1 i x hx
   obtain⟨q0,q1,q2,q3,q4,q5,q6,q7⟩:=hf i hi
   refine⟨q5,q6,q7,?_⟩
   have a0: ∀t,t<5→w.cell? (a'.add (i * 5+t))=(setC (f i).1 (f i).2.1.1 (f i).2.1.2 (f i).2.2.1 (f i).2.2.2)[t]?:=fun t ht=>by
    obtain⟨_,_,h3⟩:=World.cells?_some q0
    rw[←Addr.add_add,h3 t ht]
   obtain⟨b,o,sp⟩:=a'
   have a7:sp=none:=Ze9 (n:=4) (by have:=(hf 0 (by omega)).1;rwa [Nat.zero_mul] at this)
   subst a7
   have e: ∀k,(⟨b,o,none⟩:Addr).add k=⟨b,o+k,none⟩:=fun k=>by unfold Addr.add;split<;> first | rfl | simp_all
   have hc: ∀t,t<5→w.cell? ⟨b,o+(i * 5+t),none⟩=(setC (f i).1 (f i).2.1.1 (f i).2.1.2 (f i).2.2.1 (f i).2.2.2)[t]?:=fun t ht=>by rw[←e];exact a0 t ht
   refine⟨b,o,rfl,(f i).2.1.1,(f i).2.1.2,(f i).2.2.1,(f i).2.2.2,hc 0 (by omega),?_,?_,?_,?_,q1,q2,q3,q4⟩
   ·rw[Nat.add_assoc];exact hc 1 (by omega)
   ·rw[Nat.add_assoc];exact hc 2 (by omega)
   ·rw[Nat.add_assoc];exact hc 3 (by omega)
   ·rw[Nat.add_assoc];exact hc 4 (by omega)
  ·obtain⟨i,hi⟩:=List.getElem?_of_mem hx
   obtain⟨a3,rfl⟩:=a1 i x hi
   exact⟨(hf i a3).2.2.2.1,(hf i a3).2.2.2.2.1⟩
def batchC (B:BatchV)(a:Option Addr)(c:Nat):List Value:=[.int .u64 B.epoch,.bool B.large,.slice a B.sets.length c]
structure BatchIn (w:World) (B:BatchV) (a:Option Addr) (c:Nat):Prop where
 sets:SetsIn w a B.sets
 bytes: ∀x∈B.sets,Bytes x.old∧Bytes x.new
 len:B.sets.length≤c
 cap:c≤140737488351232
 epoch:0≤B.epoch∧B.epoch≤18446744073709551615
theorem Zme (h:DataW.trod enc Tryz.prog w base (fun _=>true) held n 56 cs=some y)(hS:Sized 56 y.1):
  ∃B a c,cs=batchC B a c∧BatchIn w B a c:=by
 obtain⟨xs,m,_,rfl,a3,a2,a0⟩:=DataW.trod_struct Tryz.underlying56 h
 have hl:cs.length=3:=by rw[a3,Tryz.cells56]
 match cs,hl with
 | [c0,c1,c2],_=>
  match xs,a2 with
  | [y0,y1,y2],_=>
   have a5:=Tryz.cells53;have k4:=Tryz.cells4;have a4:=Tryz.cells54
   have h0:DataW.trod enc Tryz.prog w base (fun _=>true) held m 53 [c0]=some y0:=by simpa [a5] using a0 0 _ rfl
   have h1:DataW.trod enc Tryz.prog w base (fun _=>true) held m 4 [c1]=some y1:=by simpa [k4] using a0 1 _ rfl
   have h2:DataW.trod enc Tryz.prog w base (fun _=>true) held m 54 [c2]=some y2:=by simpa [a4] using a0 2 _ rfl
   have hb:Sized 54 y2.1:=hS.field Tryz.underlying56 (i:=2) rfl rfl
   obtain⟨ev,e0,rfl,we⟩:=DataW.trod_int Tryz.underlying53 h0
   obtain⟨f,e1,rfl⟩:=DataW.trod_bool Tryz.underlying4b h1
   obtain⟨a,c,a1,e2,g1,g2,g3,g4⟩:=Znz h2 hb
   simp at e0 e1 e2
   subst e0 e1 e2
   exact⟨⟨ev,f,a1⟩,a,c,rfl,g1,g2,g3,g4,Zsp we⟩
end
end
section
open Go.ChangeShapes Go.WideShapes Go.ChangeAt Go.RowKit Go.Joins Go.Deep
theorem BatchIn.kept {w w':World}{B:BatchV}{a:Option Addr}{c:Nat}(h:BatchIn w B a c)(hu:U0 w w'):BatchIn w' B a c:=⟨h.sets.kept hu,h.bytes,h.len,h.cap,h.epoch⟩
instance:Inhabited BatchV:=⟨BatchV.zero⟩
theorem Zdk (b o k:Nat):(⟨b,o,none⟩:Addr).add k=⟨b,o+k,none⟩:=by unfold Addr.add;split<;> first | rfl | simp_all
section
variable {H:Type} {enc:TypeId×Value→H} {w:World} {base:Nat} {held:Bool} {n:Nat} {cs:List Value} {y:DataW H×List MemPlace}
end
end
end Go.Proofs.YtbimkhdiplnbfaaGreat
