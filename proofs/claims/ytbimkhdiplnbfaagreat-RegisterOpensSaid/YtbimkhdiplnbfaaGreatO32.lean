/- Batches that came in: opened, within the form's reach. -/
import Derived.Test.YtbimkhdiplnbfaaGreatO27
import Derived.Test.YtbimkhdiplnbfaaGreatO31
import Derived.Deep.Matrix
import Derived.Deep.Grids
import Derived.Deep.Slices
import Derived.ChangeSlices
import Derived.SizedLaws
set_option linter.unusedVariables false
set_option linter.unusedSimpArgs false
namespace Go.Proofs.YtbimkhdiplnbfaaGreat
set_option maxRecDepth 1000000
set_option maxHeartbeats 16000000
section
open Go.ChangeShapes Go.WideShapes Go.ChangeAt Go.RowKit Go.Joins Go.Deep
theorem spot_none {w:World}{b o:Nat}{sp:_}{n:Nat}{cs:List Value}{base:Nat}(h:w.cells? base ((⟨b,o,sp⟩:Addr).add 0) (n+1)=some cs):sp=none:=by
 obtain⟨_,hl,h3⟩:=World.cells?_some h
 have h4:=h3 0 (by omega)
 have hlt:0<cs.length:=by omega
 rw[List.getElem?_eq_getElem hlt] at h4
 simpa [Addr.add] using World.cell?_spot h4
section
variable {H:Type}
def Sized (t:TypeId)(d:DataW H):Prop:= ∀n∈d.weights Tryz.prog t,n≤140737488351232
theorem weightsAll_mem {e:TypeId}{k:Nat}: ∀{l:List (DataW H)} {d:DataW H},d∈l→k∈d.weights Tryz.prog e→k∈DataW.weightsAll Tryz.prog e l
 |d :: r,x,h,hk=>by
  simp only[DataW.weightsAll,List.mem_append]
  rcases List.mem_cons.1 h with rfl | h
  ·exact .inl hk
  ·exact .inr (weightsAll_mem h hk)
theorem Sized.slice {t e:TypeId}{elems spare:List (DataW H)}(h:Sized t (.slice elems spare))(ht:Tryz.prog.underlying t=some (.slice e)):
  (elems.length+spare.length) * Tryz.prog.bytesOf e≤140737488351232∧ ∀d∈elems,Sized e d:=by
 have hw:DataW.weights Tryz.prog t (.slice elems spare)=(elems.length+spare.length) * Tryz.prog.bytesOf e :: (DataW.weightsAll Tryz.prog e elems++DataW.weightsAll Tryz.prog e spare):=by
  simp only[DataW.weights,ht]
 unfold Sized at h
 rw[hw] at h
 refine⟨h _ (List.mem_cons_self ..),fun d hd k hk=>h k (List.mem_cons_of_mem _ (List.mem_append_left _ (weightsAll_mem hd hk)))⟩
theorem Tryz.bytes5:Tryz.prog.bytesOf 5=1:=by kernel_rfl
theorem Tryz.cells39:Tryz.prog.cellsOf 39=1:=by kernel_rfl
theorem Tryz.cells5:Tryz.prog.cellsOf 5=1:=by kernel_rfl
variable {enc:TypeId×Value→H} {w:World} {base:Nat} {held:Bool} {n:Nat} {cs:List Value} {y:DataW H×List MemPlace}
theorem open_bytesU (h:DataW.trod enc Tryz.prog w base (fun _=>true) held n 39 cs=some y)(hS:Sized 39 y.1):
  ∃a c bs,cs=[.slice a bs.length c]∧BytesIn w (.slice a bs.length c) bs∧Bytes bs∧bs.length≤c∧c≤140737488351232:=by
 rcases open_ints Tryz.underlying39 Tryz.underlying5 Tryz.cells5 h with ⟨hcs,rfl⟩ | ⟨a',len,cap,zs,hcs,_,hl,hm,hz,rfl,hcell,hwf⟩
 ·exact⟨none,0,[],hcs,.inl ⟨rfl,rfl⟩,fun x hx=>by simp at hx,by simp,by omega⟩
 ·simp only[if_true] at hz
  have hlen:(zs.take len).length=len:=by simp;omega
  have hb:cap≤140737488351232:=by
   have h1:=(hS.slice Tryz.underlying39).1
   rw[Tryz.bytes5] at h1
   simp only[lits,List.length_map,List.length_take,List.length_drop] at h1
   omega
  refine⟨some a',cap,zs.take len,by rw[hlen];exact hcs,.inr ⟨a',cap,by rw[hlen],by omega,hm,fun j u hj=>?_⟩,fun x hx=>wf_u8 (hwf x (List.mem_of_mem_take hx)),by omega,hb⟩
  ·have hjl:j<len:=by
    have:=(List.getElem?_eq_some_iff.1 hj).1
    simp[bcells] at this
    omega
   rw[hcell j (by omega)]
   simp only[bcells,List.getElem?_map,List.getElem?_take_of_lt hjl] at hj
   have hz2:j<zs.length:=by omega
   rw[List.getElem?_eq_getElem hz2] at hj
   simp only[Option.map_some,Option.some.injEq] at hj
   rw[List.getD_eq_getElem?_getD,List.getElem?_eq_getElem hz2]
   simp[hj]
end
end
section
open Go.ChangeShapes Go.WideShapes Go.ChangeAt Go.RowKit Go.Joins Go.Deep
def BytesRows (w:World)(a:Option Addr)(n:Nat):Prop:= ∀i,i<n→ ∃b o bs ba bc,a=some ⟨b,o,none⟩∧BytesIn w (.slice ba bs.length bc) bs∧Bytes bs∧bs.length≤bc∧bc≤140737488351232∧
 w.cell? ⟨b,o+i,none⟩=some (.slice ba bs.length bc)
instance:Inhabited BatchV:=⟨BatchV.zero⟩
theorem add_none (b o k:Nat):(⟨b,o,none⟩:Addr).add k=⟨b,o+k,none⟩:=by unfold Addr.add;split<;> first | rfl | simp_all
section
variable {H:Type} {enc:TypeId×Value→H} {w:World} {base:Nat} {held:Bool} {n:Nat} {cs:List Value} {y:DataW H×List MemPlace}
theorem open_rowsU (h:DataW.trod enc Tryz.prog w base (fun _=>true) held n 32 cs=some y)(hS:Sized 32 y.1):
  ∃a k c,cs=[.slice a k c]∧BytesRows w a k∧k≤c∧c≤maxLen:=by
 rcases open_slice Tryz.underlying32 h with ⟨rfl,rfl⟩ | ⟨a',len,cap,m,n',D,Pl,rfl,hb,hl,hm,hmm,rfl,hel⟩
 ·exact⟨none,0,0,rfl,fun i hi=>by omega,Nat.le_refl _,by unfold maxLen;omega⟩
 ·simp only[if_true] at hmm
  subst hmm
  rw[Tryz.cells39] at hel
  obtain⟨_,hb2⟩:=hS.slice Tryz.underlying32
  refine⟨some a',len,m,rfl,fun i hi=>?_,hl,hm⟩
  obtain⟨cs',h1,h2⟩:=hel i (by omega)
  obtain⟨ba,bc,bs,rfl,g1,g2,g3,g4⟩:=open_bytesU h2 (hb2 _ (List.mem_map.2 ⟨i,List.mem_range.2 hi,rfl⟩))
  have hcell:w.cell? (a'.add i)=some (.slice ba bs.length bc):=by
   obtain⟨_,_,h3⟩:=World.cells?_some h1
   have:=h3 0 (by omega)
   rw[Addr.add_add,Nat.mul_one,Nat.add_zero] at this
   exact this
  obtain⟨b,o,sp⟩:=a'
  have hsp:sp=none:=by
   obtain⟨cs0,h10,_⟩:=hel 0 (by omega)
   exact spot_none (n:=0) (by rwa [Nat.zero_mul] at h10)
  subst hsp
  exact⟨b,o,bs,ba,bc,rfl,g1,g2,g3,g4,by rw[←add_none];exact hcell⟩
end
end
end Go.Proofs.YtbimkhdiplnbfaaGreat
