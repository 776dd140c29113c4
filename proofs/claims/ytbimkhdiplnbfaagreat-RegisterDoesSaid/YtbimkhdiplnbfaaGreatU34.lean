/- Walks. -/
import Derived.Test.YtbimkhdiplnbfaaGreatU30
import Derived.Test.YtbimkhdiplnbfaaGreatU33
set_option linter.unusedVariables false
set_option linter.unusedSimpArgs false
namespace Go.Proofs.YtbimkhdiplnbfaaGreat
set_option maxRecDepth 1000000
set_option maxHeartbeats 16000000
section
open Go.RowKit Go.Shelf
def NewOk (C:Nat→Prop)(a:Option Addr)(l:List SetV)(W:World):Prop:= ∀i x,l[i]?=some x→ ∃b o oa oc na nc,a=some ⟨b,o,none⟩∧ ¬C b∧
 W.cell? ⟨b,o+i * 5,none⟩=some (.string x.name)∧W.cell? ⟨b,o+i * 5+1,none⟩=some (.bool x.was)∧W.cell? ⟨b,o+i * 5+2,none⟩=some (.bool x.is)∧W.cell? ⟨b,o+i * 5+3,none⟩=some (.slice oa x.old.length oc)∧W.cell? ⟨b,o+i * 5+4,none⟩=some (.slice na x.new.length nc)∧x.new.length≤nc∧
 (x.new=[]∨ ∃g p,na=some ⟨g,p,none⟩∧C g∧ ∀j,j<x.new.length→ ∃v,W.cell? ⟨g,p+j,none⟩=some (.int .u8 v))
theorem NewOk.kept0 {C:Nat→Prop}{a:Option Addr}{l:List SetV}{W W':World}(h:NewOk C a l W)(hu:U0 W W'):NewOk C a l W':=fun i x hx=>by
 obtain⟨b,o,oa,oc,na,nc,e,hb,h0,h1,h2,h3,h4,h5,h6⟩:=h i x hx
 have kc: ∀{a:Addr} {v:Value},W.cell? a=some v→W'.cell? a=some v:=fun h=>Zo hu id h
 refine⟨b,o,oa,oc,na,nc,e,hb,kc h0,kc h1,kc h2,kc h3,kc h4,h5,h6.imp_right ?_⟩
 rintro⟨g,p,e1,hg,hc⟩
 exact⟨g,p,e1,hg,fun j hj=>by obtain⟨v,hv⟩:=hc j hj;exact⟨v,kc hv⟩⟩
theorem NewOk.put {C:Nat→Prop}{a:Option Addr}{l:List SetV}{W:World}{g p:Nat}{v v':Int}(h:NewOk C a l W)(hg:C g)(hv:W.cell? ⟨g,p,none⟩=some (.int .u8 v)):NewOk C a l (W.setCell ⟨g,p,none⟩ (.int .u8 v')):=fun i x hx=>by
 obtain⟨b,o,oa,oc,na,nc,e,hb,h0,h1,h2,h3,h4,h5,h6⟩:=h i x hx
 have kc: ∀{o:Nat} {u:Value},W.cell? ⟨b,o,none⟩=some u→(W.setCell ⟨g,p,none⟩ (.int .u8 v')).cell? ⟨b,o,none⟩=some u:=fun h=>by
  rw[World.cell?_setCell_other W ⟨g,p,none⟩ ⟨b,_,none⟩ _ (fun e=>by injection e with e;exact hb (e ▸ hg))]
  exact h
 refine⟨b,o,oa,oc,na,nc,e,hb,kc h0,kc h1,kc h2,kc h3,kc h4,h5,h6.imp_right ?_⟩
 rintro⟨g2,p2,e1,hg2,hc⟩
 refine⟨g2,p2,e1,hg2,fun j hj=>?_⟩
 obtain⟨u,hu⟩:=hc j hj
 by_cases e2:(⟨g,p,none⟩:Addr)=⟨g2,p2+j,none⟩
 ·rw[←e2]
  exact⟨v',World.cell?_setCell_same W ⟨g,p,none⟩ _ hv⟩
 ·exact⟨u,by rw[World.cell?_setCell_other W _ _ _ e2];exact hu⟩
theorem NewOk.of {w:World}{R C:Nat→Prop}{a:Option Addr}{l:List SetV}(h:SetsAt w R C a l)(hb: ∀b o,a=some ⟨b,o,none⟩→ ¬C b):NewOk C a l w:=fun i x hx=>by
 obtain⟨_,_,_,b,o,e,_,oa,oc,na,nc,h0,h1,h2,h3,h4,_,h6,_,h8⟩:=h i x hx
 refine⟨b,o,oa,oc,na,nc,e,hb b o e,h0,h1,h2,h3,h4,?_,?_⟩
 ·obtain⟨a',c',e1,e2,_⟩:=h6.slice
  injection e1 with _ _ e3
  omega
 ·rcases h6 with ⟨_,e1⟩ | ⟨g,p,c',hg,e1,_,_,hc⟩
  ·exact .inl e1
  ·injection e1 with e1 _ _
   refine .inr ⟨g,p,e1,hg,fun j hj=>?_⟩
   refine⟨x.new[j],hc j _ ?_⟩
   simp[bcells,List.getElem?_eq_getElem hj]
def CurOk (C:Nat→Prop)(na:Option Addr)(n:Nat)(W:World):Prop:=n=0∨ ∃g p,na=some ⟨g,p,none⟩∧C g∧ ∀j,j<n→ ∃v,W.cell? ⟨g,p+j,none⟩=some (.int .u8 v)
theorem CurOk.kept0 {C:Nat→Prop}{na:Option Addr}{n:Nat}{W W':World}(h:CurOk C na n W)(hu:U0 W W'):CurOk C na n W':=h.imp_right (by
 rintro⟨g,p,e,hg,hc⟩
 exact⟨g,p,e,hg,fun j hj=>by obtain⟨v,hv⟩:=hc j hj;exact⟨v,Zo hu id hv⟩⟩)
theorem CurOk.put {C:Nat→Prop}{na:Option Addr}{n:Nat}{W:World}{g p:Nat}{v v':Int}(h:CurOk C na n W)(hv:W.cell? ⟨g,p,none⟩=some (.int .u8 v)):CurOk C na n (W.setCell ⟨g,p,none⟩ (.int .u8 v')):=h.imp_right (by
 rintro⟨g2,p2,e1,hg2,hc⟩
 refine⟨g2,p2,e1,hg2,fun j hj=>?_⟩
 obtain⟨u,hu⟩:=hc j hj
 by_cases e2:(⟨g,p,none⟩:Addr)=⟨g2,p2+j,none⟩
 ·rw[←e2]
  exact⟨v',World.cell?_setCell_same W ⟨g,p,none⟩ _ hv⟩
 ·exact⟨u,by rw[World.cell?_setCell_other W _ _ _ e2];exact hu⟩)
theorem RowC.put {C:Nat→Prop}{W:World}{g p:Nat}{v:Value}(h:RowC W C):RowC (W.setCell ⟨g,p,none⟩ v) C:=fun k hk=>by
 obtain⟨cs,h1⟩:=h k hk
 by_cases e:k=g
 ·subst e
  have:=Ze (i:=p) (v:=v) h1
  exact⟨_,this⟩
 ·exact⟨cs,(Yd (a:=⟨g,p,none⟩) (u:=v) e).trans h1⟩
end
section
open Go.ChangeShapes Go.WideShapes Go.ChangeAt Go.RowKit Go.Joins Go.Deep
theorem Tryz.cells40:Tryz.prog.cellsOf 40=1:=by kernel_rfl
theorem Tryz.cells3:Tryz.prog.cellsOf 3=1:=by kernel_rfl
theorem Tryz.cells58:Tryz.prog.cellsOf 58=7:=by kernel_rfl
theorem Tryz.bytes4:Tryz.prog.bytesOf 4=1:=by kernel_rfl
def BoolsIn (w:World)(ka:Option Addr)(keep:List Bool):Prop:= ∀i b,keep[i]?=some b→ ∃kb ko,ka=some ⟨kb,ko,none⟩∧w.cell? ⟨kb,ko+i,none⟩=some (.bool b)
section
variable {H:Type} {enc:TypeId×Value→H} {w:World} {base:Nat} {held:Bool} {n:Nat} {cs:List Value} {y:DataW H×List MemPlace}
theorem Zgj (h:DataW.trod enc Tryz.prog w base (fun _=>true) held n 40 cs=some y)(hS:Sized 40 y.1):
  ∃a c keep,cs=[.slice a keep.length c]∧BoolsIn w a keep∧keep.length≤c∧c≤140737488351232:=by
 rcases open_slice Tryz.underlying40 h with ⟨rfl,rfl⟩ | ⟨a',len,a5,m,n',D,Pl,rfl,hb,hl,hm,a1,rfl,a2⟩
 ·exact⟨none,0,[],rfl,fun i x hx=>by simp at hx,by simp,by omega⟩
 ·simp only[if_true] at a1
  subst a1
  rw[Tryz.cells4] at a2
  obtain⟨a3,_⟩:=hS.slice Tryz.underlying40
  rw[Tryz.bytes4] at a3
  simp only[List.length_map,List.length_range] at a3
  obtain⟨f,hf⟩:=choose_lt (α:=Bool) (n:=len) (p:=fun i z=>w.cells? base (a'.add (i * 1)) 1=some [.bool z]) (fun i hi=>by
   obtain⟨a6,h1,h2⟩:=a2 i (by omega)
   obtain⟨g,e1,_⟩:=DataW.trod_bool Tryz.underlying4b h2
   subst e1
   exact⟨g,h1⟩)
  have a0: ∀i x,((List.range len).map f)[i]?=some x→i<len∧x=f i:=fun i x hx=>by
   rw[List.getElem?_map,Option.map_eq_some_iff] at hx
   obtain⟨j,hj,rfl⟩:=hx
   obtain⟨h1,h2⟩:=List.getElem?_eq_some_iff.1 hj
   simp at h1 h2
   exact⟨h1,by rw[h2]⟩
  refine⟨some a',m,(List.range len).map f,by simp,fun i x hx=>?_,by simp;omega,by omega⟩
  obtain⟨hi,rfl⟩:=a0 i x hx
  obtain⟨b,o,sp⟩:=a'
  have a4:sp=none:=Ze9 (n:=0) (by have:=hf 0 (by omega);rwa [Nat.zero_mul] at this)
  subst a4
  obtain⟨_,_,h3⟩:=World.cells?_some (hf i hi)
  have h4:=h3 0 (by omega)
  rw[Nat.mul_one,Zdk,Zdk] at h4
  exact⟨b,o,rfl,by rw[Nat.add_zero] at h4;exact h4⟩
structure OpIn (w:World) (B:BatchV) (a:Option Addr) (c:Nat) (ra:Option Addr) (R:List Bool) (rc:Nat) (ka:Option Addr) (K:List Bool) (kc:Nat):Prop where
 batch:BatchIn w B a c
 right:BoolsIn w ra R
 keep:BoolsIn w ka K
 rlen:R.length≤rc∧rc≤140737488351232
 klen:K.length≤kc∧kc≤140737488351232
def opC (kd on:Int)(B:BatchV)(a:Option Addr)(c:Nat)(ra:Option Addr)(rn rc:Nat)(ka:Option Addr)(kn kc:Nat):List Value:=[.int .i64 kd,.int .i64 on,.int .u64 B.epoch,.bool B.large,.slice a B.sets.length c,.slice ra rn rc,.slice ka kn kc]
theorem Zrj (h:DataW.trod enc Tryz.prog w base (fun _=>true) held n 58 cs=some y)(hS:Sized 58 y.1):
  ∃kd on B a c ra R rc ka K kc,cs=opC kd on B a c ra R.length rc ka K.length kc∧OpIn w B a c ra R rc ka K kc:=by
 obtain⟨xs,m,_,rfl,a4,a1,a0⟩:=DataW.trod_struct Tryz.underlying58 h
 have hl:cs.length=7:=by rw[a4,Tryz.cells58]
 match cs,hl with
 | [c0,c1,c2,c3,c4,c5,c6],_=>
  match xs,a1 with
  | [y0,y1,y2,y3,y4],_=>
   have k3:=Tryz.cells3;have a3:=Tryz.cells40;have a2:=Tryz.cells56
   have h0:DataW.trod enc Tryz.prog w base (fun _=>true) held m 3 [c0]=some y0:=by simpa [k3] using a0 0 _ rfl
   have h1:DataW.trod enc Tryz.prog w base (fun _=>true) held m 3 [c1]=some y1:=by simpa [k3] using a0 1 _ rfl
   have h2:DataW.trod enc Tryz.prog w base (fun _=>true) held m 56 [c2,c3,c4]=some y2:=by simpa [k3,a2] using a0 2 _ rfl
   have h3:DataW.trod enc Tryz.prog w base (fun _=>true) held m 40 [c5]=some y3:=by simpa [k3,a2,a3] using a0 3 _ rfl
   have h4:DataW.trod enc Tryz.prog w base (fun _=>true) held m 40 [c6]=some y4:=by simpa [k3,a2,a3] using a0 4 _ rfl
   have s2:Sized 56 y2.1:=hS.field Tryz.underlying58 (i:=2) rfl rfl
   have s3:Sized 40 y3.1:=hS.field Tryz.underlying58 (i:=3) rfl rfl
   have s4:Sized 40 y4.1:=hS.field Tryz.underlying58 (i:=4) rfl rfl
   obtain⟨kd,e0,_⟩:=DataW.trod_int Tryz.underlying3 h0
   obtain⟨on,e1,_⟩:=DataW.trod_int Tryz.underlying3 h1
   obtain⟨B,a,c,e2,g⟩:=Zme h2 s2
   obtain⟨ra,rc,R,e3,r1,r2,r3⟩:=Zgj h3 s3
   obtain⟨ka,kc,K,e4,q1,q2,q3⟩:=Zgj h4 s4
   unfold batchC at e2
   simp at e0 e1 e2 e3 e4
   obtain⟨e5,e6,e7⟩:=e2
   subst e0 e1 e3 e4 e5 e6 e7
   exact⟨kd,on,B,a,c,ra,R,rc,ka,K,kc,rfl,g,r1,q1,⟨r2,r3⟩,⟨q2,q3⟩⟩
def OpsIn (w:World)(la:Option Addr)(n:Nat):Prop:= ∀i,i<n→ ∃b o kd on B a c ra R rc ka K kc,la=some ⟨b,o,none⟩∧OpIn w B a c ra R rc ka K kc∧
 ∀t,t<7→w.cell? ⟨b,o+(i * 7+t),none⟩=(opC kd on B a c ra R.length rc ka K.length kc)[t]?
theorem Zpo (h:DataW.trod enc Tryz.prog w base (fun _=>true) held n 75 cs=some y)(hS:Sized 75 y.1):
  ∃a k c,cs=[.slice a k c]∧OpsIn w a k∧k≤c∧c≤maxLen:=by
 rcases open_slice Tryz.underlying75 h with ⟨rfl,rfl⟩ | ⟨a',len,a6,m,n',D,Pl,rfl,hb,hl,hm,a2,rfl,a1⟩
 ·exact⟨none,0,0,rfl,fun i hi=>by omega,Nat.le_refl _,by unfold maxLen;omega⟩
 ·simp only[if_true] at a2
  subst a2
  rw[Tryz.cells58] at a1
  obtain⟨_,a4⟩:=hS.slice Tryz.underlying75
  refine⟨some a',len,m,rfl,fun i hi=>?_,hl,hm⟩
  obtain⟨a8,h1,h2⟩:=a1 i (by omega)
  obtain⟨kd,on,B,a,c,ra,R,rc,ka,K,kc,rfl,g⟩:=Zrj h2 (a4 _ (List.mem_map.2 ⟨i,List.mem_range.2 hi,rfl⟩))
  have a0: ∀t,t<7→w.cell? (a'.add (i * 7+t))=(opC kd on B a c ra R.length rc ka K.length kc)[t]?:=fun t ht=>by
   obtain⟨_,_,h3⟩:=World.cells?_some h1
   rw[←Addr.add_add,h3 t ht]
  obtain⟨b,o,sp⟩:=a'
  have a5:sp=none:=by
   obtain⟨a7,a3,_⟩:=a1 0 (by omega)
   exact Ze9 (n:=6) (by rwa [Nat.zero_mul] at a3)
  subst a5
  exact⟨b,o,kd,on,B,a,c,ra,R,rc,ka,K,kc,rfl,g,fun t ht=>by rw[←Zdk];exact a0 t ht⟩
end
theorem BoolsIn.kept {w w':World}{ka:Option Addr}{K:List Bool}(h:BoolsIn w ka K)(hu:U0 w w'):BoolsIn w' ka K:=fun i b hb=>by
 obtain⟨kb,ko,e,hc⟩:=h i b hb
 exact⟨kb,ko,e,Zo hu id hc⟩
theorem BoolsIn.boolsR {w:World}{ka:Option Addr}{K:List Bool}(h:BoolsIn w ka K):BoolsR w ka K:=fun i b hb=>by
 obtain⟨kb,ko,e,hc⟩:=h i b hb
 refine⟨kb,ko,e,?_,hc⟩
 rcases Nat.lt_or_ge kb w.heap.size with h' | h'
 ·exact h'
 ·simp[World.cell?,Array.getElem?_eq_none h'] at hc
theorem OpIn.kept {w w':World}{B:BatchV}{a ra ka:Option Addr}{c rc kc:Nat}{R K:List Bool}(h:OpIn w B a c ra R rc ka K kc)(hu:U0 w w'):OpIn w' B a c ra R rc ka K kc:=⟨h.batch.kept hu,h.right.kept hu,h.keep.kept hu,h.rlen,h.klen⟩
theorem OpsIn.kept {w w':World}{la:Option Addr}{n:Nat}(h:OpsIn w la n)(hu:U0 w w'):OpsIn w' la n:=fun i hi=>by
 obtain⟨b,o,kd,on,B,a,c,ra,R,rc,ka,K,kc,e,h1,h2⟩:=h i hi
 refine⟨b,o,kd,on,B,a,c,ra,R,rc,ka,K,kc,e,h1.kept hu,fun t ht=>?_⟩
 have h3:=h2 t ht
 have hl:t<(opC kd on B a c ra R.length rc ka K.length kc).length:=ht
 rw[List.getElem?_eq_getElem hl] at h3 ⊢
 exact Zo hu id h3
theorem Zqt {l:KV}{R:List Bool}{B:BatchV}(hl:l.Fine)(he:0≤B.epoch∧B.epoch≤18446744073709551615)(hb: ∀x∈B.sets,Bytes x.old∧Bytes x.new):(Zdi l R B).Ok∧(Zdi l R B).sets.length≤49:=by
 refine⟨⟨he,fun x hx=>?_⟩,by simp[Zdi];omega⟩
 simp only[Zdi,List.mem_mapIdx] at hx
 obtain⟨i,hi,rfl⟩:=hx
 have hm:=hb _ (List.mem_of_mem_take (List.getElem_mem hi))
 have hc: ∀y:SetV,Bytes y.old∧Bytes y.new→(Z4 y).Ok:=fun y hy=>⟨fun z hz=>hy.1 z (List.mem_of_mem_take hz),fun z hz=>hy.2 z (List.mem_of_mem_take hz)⟩
 unfold Zb2
 split
 ·refine⟨?_,(hc _ hm).new⟩
  intro z hz
  simp only at hz
  revert hz
  cases e:l.get (Z4 (B.sets.take 49)[i]).name with
  |none=>intro hz;simp at hz
  |some v=>exact fun hz=>(hl.each _ ((KV.get_some hl.rising).1 e)).2.2.2 z hz
 ·exact hc _ hm
end
section
open Go.RowKit Go.Shelf
theorem Zt9:Tryz.prog.underlying 75=some (.slice (Tryz.prog.elem 75)):=by kernel_rfl
theorem Zss (W:World):(sizeOf (Tryz.prog.elem 75)).run Tryz.prog W=.ok 7 W:=by kernel_rfl
theorem Ztm {la:Option Addr}{n c:Nat}{w0:World}(w:World)(h:OpsIn w0 la n)(hl:n≤c)(hc:c≤maxLen):
  Calls Tryz.prog 29 #[.slice la n c] w fun e w'=> ∃la' k,e=.returned (.slice la' k c)∧OpsIn w0 la' k∧k≤20∧w=w':=by
 obtain⟨m,hm⟩: ∃m,m=min n 20:=⟨_,rfl⟩
 have a1:min (n:Int) 20=(m:Int):=by omega
 have hr: ∀W,(Instr.slice 75 (.slice la n c) none (some (.int .i64 m)) none).run Tryz.prog W=.ok (sliced la 0 m c 7) W:=fun W=>by
  rw[run_slice_h W 75 la n c Zt9 .i64 m (by omega) (by omega),Zss]
  simp[Result.andThen]
 have hx: ∃la',sliced la 0 m c 7=.slice la' m c∧OpsIn w0 la' m:=by
  cases la with
  |none=>exact⟨none,by unfold sliced;simp,fun i hi=>by
    obtain⟨b,o,_,_,_,_,_,_,_,_,_,_,_,e,_⟩:=h i (by omega)
    cases e⟩
  |some ad=>
   refine⟨some (if c=0 then ad else ad.add 0),by unfold sliced;simp;split<;> rfl,fun i hi=>?_⟩
   obtain⟨b,o,kd,on,B,a,c',ra,R,rc,ka,K,kc,e,h1,h2⟩:=h i (by omega)
   injection e with e
   subst e
   exact⟨b,o,kd,on,B,a,c',ra,R,rc,ka,K,kc,by split<;> rfl,h1,h2⟩
 obtain⟨la',e1,h1⟩:=hx
 rw[e1] at hr
 have H1:=V h1
 have a0:m≤20:=by omega
 have HM:=V a0
 clear h h1 e1 hm a0
 go_enter Tryz.func29,Tryz.ntmps29
 go_wp2
 go_ret
 exact⟨_,_,rfl,H1.o,HM.o,rfl⟩
end
end Go.Proofs.YtbimkhdiplnbfaaGreat
