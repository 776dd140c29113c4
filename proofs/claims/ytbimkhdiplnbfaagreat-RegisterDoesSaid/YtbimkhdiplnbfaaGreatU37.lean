/- Walks. -/
import Derived.Test.YtbimkhdiplnbfaaGreatU13
import Derived.Test.YtbimkhdiplnbfaaGreatU36
set_option linter.unusedVariables false
set_option linter.unusedSimpArgs false
namespace Go.Proofs.YtbimkhdiplnbfaaGreat
set_option maxRecDepth 1000000
set_option maxHeartbeats 16000000
section
open Go.RowKit Go.Sort
structure RowS (w0 w:World) (b:Nat) (R:List (Nat×List Int×Int)) (v:Value):Prop where
 upd:U0 w0 w
 cell:w.heap[b]?=some (.cells #[v] 219 (0,0))
 row:(v=.slice none 0 0∧R=[])∨ ∃gg cap,v=.slice (some ⟨gg,0,none⟩) R.length cap∧w0.heap.size≤gg∧gg<w.heap.size∧gg≠b∧ ∀i x,R[i]?=some x→w.rangeAt gg (i * 66) (ecells x)
def okEl (x:Nat×List Int×Int):Prop:=x.2.1.length=64∧0≤x.2.2∧x.2.2≤2199023255552
theorem Zlm: ∀(L:List (Nat×List Int×Int)),(∀x∈L,okEl x)→ ∃M:List El,M.map (·.1)=L
 | [],_=>⟨[],rfl⟩
 |x :: L,h=>by
  obtain⟨M,hM⟩:=Zlm L (fun y hy=>h y (List.mem_cons_of_mem _ hy))
  exact⟨⟨x,h x List.mem_cons_self⟩ :: M,by rw[List.map_cons,hM]⟩
theorem Zr4 (M:List El):M.flatMap encE=(M.map (·.1)).flatMap ecells:=by
 rw[List.flatMap_map];rfl
theorem Zel (x y:El):ltOf cfE x y=decide (x.1.2.2<y.1.2.2):=by
 unfold ltOf cfE
 by_cases h:x.1.2.2<y.1.2.2
 ·simp[h];omega
 ·simp[h];omega
theorem swoE:SWO (ltOf cfE) where
 irrefl x:=by rw[Zel];simp
 trans x y z h1 h2:=by rw[Zel] at *;simp at *;omega
 ntrans x y z h1 h2:=by rw[Zel] at *;simp at *;omega
theorem Zr9 (blk off size:Nat)(w:World):CmpLays Tryz.prog 140 #[] encE 66 cfE blk off size w:=fun m os dk _ x y=>by
 refine(Ztr (encE x) (encE y) x.1.2.2 y.1.2.2 (sortWorldK encE 66 w blk off m dk os) (Zh4 _ x.2.1) (Zh4 _ y.2.1) x.2.2 y.2.2).mono ?_
 rintro e w' ⟨rfl,rfl⟩
 exact⟨rfl,0,_,by rw[alloc_eq_grow,alloc_eq_grow,grow_grow];rfl⟩
theorem Zl4 {d d':Array El}(hp:PermIn 0 d.size d d')(hs:SortedIn (ltOf cfE) 0 d.size d'){L R:List (Nat×List Int×Int)}(hL:d.toList.map (·.1)=L)(hR:L.Perm R)(hsR:R.Pairwise (fun x y=>x.2.2<y.2.2)):
  d'.toList.map (·.1)=R:=by
 obtain⟨h1,_,h3⟩:=hp
 have h4:d'.toList.Perm d.toList:=by
  have e1:d'.extract 0 d.size=d':=by rw[←h1];simp
  have e2:d.extract 0 d.size=d:=by simp
  rw[e1,e2] at h3;exact h3
 refine Zd8 _ _ ((h4.map _).trans (by rw[hL];exact hR)) ?_ hsR
 rw[List.pairwise_map,List.pairwise_iff_getElem]
 intro i j hi hj a2
 have:=hs i j (Nat.zero_le _) a2 (by simpa [h1] using hj)
 rw[Zel] at this
 have a1:i<d'.size:=by simpa using hi
 have a0:j<d'.size:=by simpa using hj
 rw[getElem!_pos d' i a1,getElem!_pos d' j a0] at this
 simp at this ⊢
 omega
theorem Zrd {D:Dk}{K:Nat}{w0 w:World}{v:Value}(h:RowAt w0 w v (D.pile D.arr.length))(hok:D.Ok K)(hK:K≤1099511627774):
  Calls Tryz.prog 139 #[v,.func (.func 140) #[] #[]] w fun e w'=>e=.returned (.tuple #[])∧RowS w0 w' w0.heap.size D.row v:=by
 have a9:D.row.filter (fun x=>decide (x.1<D.arr.length))=D.row:=by
  rw[List.filter_eq_self]
  intro x hx
  simpa using (hok.rblks x hx).2.1
 have a0:=Zfk D D.arr.length
 rw[a9] at a0
 have a8: ∀x∈D.pile D.arr.length,okEl x:=fun x hx=>by
  obtain⟨h1,_,h3,h4⟩:=hok.rblks x (a0.mem_iff.1 hx)
  have:=hok.sent.2
  exact⟨h1.1,by omega,by omega⟩
 have a1:=a0.length_eq
 generalize hpl:D.pile D.arr.length=L at *
 have a5:=h.cell
 rcases h.own.2 with ⟨hv,hn⟩ | ⟨gg,cap,b2,hv,hb,hh,b4,r⟩
 ·have hL:L=[]:=List.length_eq_zero_iff.1 hn
  subst hv
  refine(AnyF.slices_SortFunc_none Tryz.sortSent none 0 _ w).mono ?_
  rintro e w' ⟨rfl,rfl⟩
  refine⟨rfl,h.upd,h.cell,.inl ⟨rfl,?_⟩⟩
  rw[hL] at a1
  exact List.length_eq_zero_iff.1 a1.symm
 ·subst hv
  obtain⟨M,hM⟩:=Zlm L a8
  have b0:M.length=L.length:=by rw[←hM];simp
  obtain⟨d,hd⟩: ∃d:Array El,d=M.toArray:=⟨_,rfl⟩
  have a4:d.size=L.length:=by rw[hd];simp[b0]
  have a7:d.toList=M:=by rw[hd]
  have hH:HoldsK encE 66 w gg 0 d:=by
   refine Zj5 (B:=w0.heap.size) (cap:=cap) ?_
   rw[a4,a7,Zr4,hM]
   exact h.own
  have a3:gg≠w0.heap.size:=fun e=>h.ne (by rw[e];rfl)
  have b3:=hok.rowlen
  have a2:=AnyQ.slices_SortFunc Tryz.sortSent 66 (fun w=>by kernel_rfl) (fun w=>by kernel_rfl) encE Zbi Zll cfE swoE 140 #[] gg 0 cap d w Zh7 (Zr9 gg 0 d.size w) hH (Za hh) (by omega)
  rw[a4] at a2
  change Calls Tryz.prog 139 _ _ _ at a2
  refine a2.mono ?_
  rintro e w' ⟨rfl,d',n,os,hp,hs,rfl⟩
  rw[←a4] at hp hs
  have hu:=Zq8 encE 66 w gg 0 n d' os
  have a6:d'.size=d.size:=hp.1
  have hR:=Zl4 hp hs (by rw[a7,hM]) a0 hok.sorted
  have b1:HoldsK encE 66 (sortWorldK encE 66 w gg 0 n d' os) gg 0 d':=by
   refine holdsK_grow encE 66 _ os gg 0 d' ?_ (holdsK_putRowK encE 66 (Sort.ahead w n) gg 0 d d' (holdsK_ahead encE 66 w n gg 0 d hH) a6)
   have:=Za hh
   simpa [putRowK,putRow,mapBlock] using this
  refine⟨rfl,?_,?_,.inr ⟨gg,cap,?_,hb,Nat.lt_of_lt_of_le (Za hh) hu.size,a3,?_⟩⟩
  ·exact⟨hu.os.trans h.upd.os,hu.tape.trans h.upd.tape,hu.output.trans h.upd.output,Nat.le_trans h.upd.size hu.size,fun k hk _=>
    (hu.block k (Nat.lt_of_lt_of_le hk h.upd.size) (fun e=>by omega)).trans (h.upd.block k hk id)⟩
  ·exact(hu.block _ (Za h.cell) (fun e=>a3 e.symm)).trans h.cell
  ·rw[a1]
  ·intro i x hx
   have hi:i<d'.size:=by
    have:=(List.getElem?_eq_some_iff.1 hx).1
    rw[a6,a4,a1];exact this
   have:=Zij b1 hi Zbi
   have e:(d'[i]!).1=x:=by
    rw[←hR] at hx
    rw[getElem!_pos d' i hi]
    simp[hi] at hx
    exact hx
   rw[←e]
   exact this
end
end Go.Proofs.YtbimkhdiplnbfaaGreat
