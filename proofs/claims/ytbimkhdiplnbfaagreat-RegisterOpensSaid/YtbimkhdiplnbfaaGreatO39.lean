/- Walks: all sectors of a disk behind a crash (held). -/
import Derived.Test.YtbimkhdiplnbfaaGreatO1
import Derived.Test.YtbimkhdiplnbfaaGreatO2
import Derived.Test.YtbimkhdiplnbfaaGreatO5
import Derived.Test.YtbimkhdiplnbfaaGreatO18
import Derived.Test.YtbimkhdiplnbfaaGreatO26
import Derived.Test.YtbimkhdiplnbfaaGreatO37
import Derived.Test.YtbimkhdiplnbfaaGreatO38
open Go.Lib (hid)
set_option linter.unusedVariables false
set_option linter.unusedSimpArgs false
namespace Go.Proofs.YtbimkhdiplnbfaaGreat
set_option maxRecDepth 1000000
set_option maxHeartbeats 16000000
section
open Go.RowKit Go.Shelf
def heldF (D:Dk)(all:Bool):List (List Int):=(List.range D.arr.length).map fun i=>(D.crash (List.replicate D.row.length all)).shows i
theorem heldF_length (D:Dk)(all:Bool):(heldF D all).length=D.arr.length:=by simp[heldF]
theorem heldF_blk {D:Dk}{K:Nat}(h:D.Ok K)(all:Bool): ∀b∈heldF D all,b.length=64:=fun b hb=>by
 simp only[heldF,List.mem_map,List.mem_range] at hb
 obtain⟨i,hi,rfl⟩:=hb
 exact(shows_blk (h.crash _) (by simp[Dk.crash,Dk.arrive];exact hi)).1
theorem Tryz.info4q:(Tryz.prog.info? 4).map (fun i=>(i.zero,i.size,i.bytes))=some (some (.bool false),1,1):=by kernel_rfl
theorem Tryz.info48z:(Tryz.prog.info? 48).map (fun i=>(i.zero,i.size,i.bytes))=some (some (.agg (bcells zblk).toArray),64,64):=by kernel_rfl
theorem run_buildSlice201 (cs:List Value)(w:World)(hc:cs.length=64):
  (Instr.buildSlice 201 1 #[(0,.agg cs.toArray)]).run Tryz.prog w=.ok (.slice (some ⟨w.heap.size,0,none⟩) 1 1) (w.alloc (.cells cs.toArray 48)):=by
 have hf: ∀Z:Array Value,Z.size=64→List.foldl (fun(cs:Array Value) (x:Value×Nat)=>cs.setIfInBounds x.snd x.fst) Z cs.zipIdx=cs.toArray:=fun Z hz=>by
  apply Array.toList_inj.1
  have h:=splice_fold cs 0 0 Z (by simp[hz,hc])
  simp only[Nat.zero_add] at h
  rw[h]
  have e:Z.toList.drop 64=[]:=by rw[List.drop_eq_nil_iff];simp[hz]
  simp[hc,e]
 simp[Instr.buildSlice,go_sem]
 rw[hf _ (by simp)]
 simp[hc]
def FillAt (w:World)(kb n:Nat)(all:Bool)(k:Nat)(W:World):Prop:=(∃cs:Array Value,cs.size=n∧(∀i,i<k→cs[i]?=some (.bool all))∧(∀i,i<n→ ∃b,cs[i]?=some (.bool b))∧W.heap[kb]?=some (.cells cs 4 (0,0)))∧Upd (fun j=>j=kb) w W
theorem FillAt.bools {w W:World}{kb n:Nat}{all:Bool}(h:FillAt w kb n all n W):BoolsAt W (some ⟨kb,0,none⟩) (List.replicate n all):=fun i b hb=>by
 obtain⟨⟨cs,h1,h2,h3,h4⟩,h5⟩:=h
 have hi:i<n:=by have:=(List.getElem?_eq_some_iff.1 hb).1;simpa using this
 refine⟨kb,0,rfl,lt_of_heap h4,?_⟩
 rw[cell_of_heap h4,Nat.zero_add,h2 i hi]
 simp[hi] at hb
 rw[hb]
structure HeldAt (w:World) (p:Nat) (N K:Nat) (F:Nat→Prop) (S:Int→List Int) (L:List (List Int)) (k:Nat) (v:Value) (W:World):Prop where
 dsk: ∃D',Dsk W p D' F∧D'.Good N∧D'.S=S∧D'.Ok (K+k)
 own:W.ownsRow w.heap.size 48 64 v k ((L.take k).flatMap bcells)
 ne: ∀j,v.ownBlock=some j→ ¬F j
 upd:Upd (fun _=>False) w W
theorem held_any {p K:Nat}{D:Dk}{F:Nat→Prop}(all:Bool)(w:World)(hD:Dsk w p D F)(hok:D.Ok K)(hK:K≤1000000000):
  Calls Tryz.prog 122 #[.pointer (some ⟨p,0,none⟩),.bool all] w fun e w'=> ∃a c,e=.returned (.slice a D.arr.length c)∧w'.ownsRow w.heap.size 48 64 (.slice a D.arr.length c) D.arr.length ((heldF D all).flatMap bcells)∧Upd (fun _=>False) w w':=by
 have HC:=hid (copy_run w hD (hok.mono (by omega)))
 have HOK:=hid hok;have HK:=hid hK
 obtain⟨n,hn⟩: ∃n,n=D.row.length:=⟨_,rfl⟩
 obtain⟨N,hN⟩: ∃N,N=D.arr.length:=⟨_,rfl⟩
 have hnl:n≤1000000000:=by have:=hok.rowlen;omega
 have hNl:=hok.len
 have hmk: ∀W:World,(Instr.makeSlice 40 (.int .i64 n) (.int .i64 n)).run Tryz.prog W=.ok (.slice (some ⟨W.heap.size,0,none⟩) n n) (W.alloc (.cells (madeCells #[.bool false] n) 4)):=fun W=>run_make_row' (P:=Tryz.prog) 40 4 (.bool false) 1 Tryz.underlying40 Tryz.info4q rfl .i64 .i64 n (by omega) (by omega) W
 rw[←hN] at hNl ⊢
 have HN:=hid hN;have HNL:=hid hNl;have HNI:=hid hn;have HNN:=hid hnl
 clear hD hok hK hn hN hNl hnl
 go_enter Tryz.func122,Tryz.ntmps122
 go_wp2_with (go_at_call 38;fail)
 refine HC.out.mono ?_
 rintro e w1 ⟨rfl,g,c,hcp⟩
 obtain⟨F1,hD1,hF1,hu1⟩:=hcp.dsk
 have HD1:=hid hD1;have HF1:=hid hF1;have HU1:=hid hu1
 obtain⟨p1,hp1⟩: ∃p1,p1=w.heap.size:=⟨_,rfl⟩
 rw[←hp1] at HD1 ⊢
 have HP1:=hid hp1
 clear hD1 hF1 hu1 hcp HC hp1
 simp only[]
 go_wp2_with (go_at_call 68;fail)
 refine(pending_any w1 HD1.out (HOK.out.mono (by have:=HK.out;omega))).mono ?_
 rintro e w2 ⟨u,rfl,hrow,hu2⟩
 obtain⟨sa,sc,rfl⟩:=rowV hrow
 rw[←HNI.out]
 have HU2:=hid (HU1.out.trans hu2);have HD2:=hid (HD1.out.kept hu2 (fun _ _ e=>e))
 clear hrow hu2 HD1
 simp only[]
 go_upto_region 3 with fail
 obtain⟨w3,hw3⟩: ∃w3,w3=w2.alloc (.cells (madeCells #[.bool false] n) 4):=⟨_,rfl⟩
 rw[←hw3]
 obtain⟨kb,hkb⟩: ∃kb,kb=w2.heap.size:=⟨_,rfl⟩
 have hx3:w3.heap[kb]?=some (.cells (madeCells #[.bool false] n) 4 (0,0)):=by rw[hw3,hkb];exact alloc_at rfl
 have hu3:Upd (fun _=>False) w2 w3:=by rw[hw3];exact(Upd.refl _ w2).alloc _
 rw[←hkb]
 have hfill:FillAt w3 kb n all 0 w3:=⟨⟨_,by simp[madeCells],fun i hi=>by omega,fun i hi=>⟨false,by simp[madeCells,hi,Nat.mod_one]⟩,hx3⟩,Upd.refl _ _⟩
 have HFI:=hid hfill;have HU3:=hid (HU2.out.trans hu3);have HD3:=hid (HD2.out.kept hu3 (fun _ _ e=>e))
 have HKB:=hid (show¬F1 kb∧w.heap.size≤kb from⟨fun e=>by have:=HD2.out.lt _ e;omega,by have:=HU2.out.size;omega⟩)
 clear hw3 hx3 hu3 hfill hkb HU2 HD2
 go_upto_block 0 with fail
 go_upto_region 4 with fail
 go_loopg [20] n (fun gk i wr=> ∃k:Nat,k≤n∧gk=n - k∧i=.int .i64 k∧FillAt w3 kb n all k wr)
 case atStart=>exact⟨0,Nat.zero_le _,rfl,rfl,HFI.out⟩
 case round=>
  obtain⟨k,hk,rfl,rfl,hf⟩:=hrel
  have HF:=hid hf
  clear hf
  by_cases hkn:k<n
  ·have hkni:(k:Int)<n:=by omega
   obtain⟨⟨cs,h1,h2,h3,h4⟩,h5⟩:=HF.out
   obtain⟨b,hb⟩:=h3 k hkn
   have hc:wr.cell? ⟨kb,k,none⟩=some (.bool b):=by rw[cell_of_heap h4];exact hb
   have hfr:wr.frozen? ⟨kb,k,none⟩=false:=frozen_of_heap h4
   clear h1 h2 h3 h4 h5 hb
   have hcv2:IntKind.i64.wrap ((k:Int)+1)=(k:Int)+1:=by rw[IntKind.wrap_i64];have:=HNN.out;omega
   go_wp2
   go_roundg (n - (k+1))
   case measure=>omega
   case rel=>
    refine⟨k+1,by omega,rfl,by go_num,?_⟩
    obtain⟨⟨cs,h1,h2,h3,h4⟩,h5⟩:=HF.out
    refine⟨⟨cs.setIfInBounds k (.bool all),by simpa using h1,fun i hi=>?_,fun i hi=>?_,blk_set h4⟩,h5.trans (upd_own wr kb k _)⟩
    ·by_cases e:i=k
     ·subst e
      simp[h1,hkn]
     ·rw[Array.getElem?_setIfInBounds_ne (fun e2=>e e2.symm)]
      exact h2 i (by omega)
    ·by_cases e:i=k
     ·subst e
      exact⟨all,by simp[h1,hkn]⟩
     ·rw[Array.getElem?_setIfInBounds_ne (fun e2=>e e2.symm)]
      exact h3 i hi
  ·obtain rfl:n=k:=by omega
   have hbo:=HF.out.bools
   have hud:Upd (fun j=>j=kb) w3 wr:=HF.out.2
   have hd4:=HD3.out.kept hud (fun j hj e=>by subst e;exact HKB.out.1 hj)
   have hcr:=crash_any (kc:=n) wr (some ⟨kb,0,none⟩) (List.replicate n all) hbo (by rw[List.length_replicate];have:=HNN.out;omega) hd4 (HOK.out.mono (by have:=HK.out;omega))
   rw[List.length_replicate] at hcr
   have HCR:=hid hcr
   have HU4:=hid (show Upd (fun _=>False) w wr from HU3.out.step hud (fun j hj e=>by have:=HKB.out.2;omega))
   clear hbo hud hd4 hcr HD3 HFI
   go_wp2_with (go_at_call 16;fail)
   refine HCR.out.mono ?_
   rintro e w5 ⟨rfl,F2,hd5,hF2,hu5⟩
   have hu05:=HU4.out.step hu5 (fun j hj e=>by have:=HF1.out j e;omega)
   have hF2': ∀j,F2 j→w.heap.size≤j:=fun j hj=>by
    rcases hF2 j hj with e | e
    ·exact HF1.out j e
    ·have:=HU4.out.size;omega
   obtain⟨CD,hCD⟩: ∃CD,CD=D.crash (List.replicate n all):=⟨_,rfl⟩
   have hcg:CD.Good N:=by rw[hCD,HN.out];exact⟨rfl,rfl,rfl,by simp[Dk.crash,Dk.arrive]⟩
   have hco:CD.Ok K:=by rw[hCD];exact HOK.out.crash _
   rw[←hCD] at hd5
   have hch:heldF D all=(List.range N).map fun i=>CD.shows i:=by rw[hCD,HN.out,HNI.out];rfl
   have hlen5:=len_any w5 hd5
   rw[hcg.len] at hlen5
   have hst:HeldAt w p1 N K F2 CD.S (heldF D all) 0 (.slice none 0 0) w5:=⟨⟨CD,hd5,hcg,rfl,hco⟩,World.ownsRow_nil _ _ _ _,fun j hj=>by simp[Value.ownBlock] at hj,hu05⟩
   have HL5:=hid hlen5;have HF2:=hid hF2';have HST:=hid hst;have HCH:=hid hch;have HCO:=hid hco;have HCG:=hid hcg
   clear hd5 hF2 hu5 hu05 hF2' hcg hco hCD hch hlen5 hst HCR HF
   simp only[]
   go_wp2_with (go_at_call 105;fail)
   refine HL5.out.mono ?_
   rintro e w6 ⟨rfl,rfl⟩
   simp only[]
   go_upto_block 2 with fail
   go_upto_region 12 with fail
   go_loopg [8,34] N (fun gk v8 i wr=> ∃k:Nat,k≤N∧gk=N - k∧i=.int .i64 k∧(∃a c,v8=.slice a k c)∧HeldAt w p1 N K F2 CD.S (heldF D all) k v8 wr)
   case atStart=>exact⟨0,Nat.zero_le _,rfl,rfl,⟨none,0,rfl⟩,HST.out⟩
   case round=>
    obtain⟨k,hk,rfl,rfl,⟨va,vc,rfl⟩,hh⟩:=hrel
    have HH:=hid hh
    clear hh
    obtain⟨wo,rfl⟩: ∃wo:World,wo=wr:=⟨_,rfl⟩
    by_cases hkN:k<N
    ·have hkNi:(k:Int)<N:=by omega
     obtain⟨D',hd,hg,hs,hko⟩:=HH.out.dsk
     obtain⟨r1,r2,r3,r4⟩:=hg.callR (i:=(k:Int)) (by omega)
     obtain⟨x,hx⟩: ∃x,x=CD.shows k:=⟨_,rfl⟩
     have hrd:D'.reads (k:Int)=x:=by rw[r3,hs,hx];rfl
     have hxl:x.length=64:=by rw[hx];exact(shows_blk HCO.out (by have:=HCG.out.len;omega)).1
     have hct:=read_any (k:Int) wo hd (hko.mono (by have:=HK.out;have:=HNL.out;omega))
     rw[r1,hrd] at hct
     have hkx:(heldF D all)[k]?=some x:=by rw[HCH.out,hx];simp[hkN]
     have HCT:=hid hct;have HXL:=hid hxl;have HKX:=hid hkx
     have HDG:=hid (show(D'.callD (k:Int) false).Good N∧(D'.callD (k:Int) false).S=CD.S∧(D'.callD (k:Int) false).Ok (K+(k+1)) from⟨r2,r4.trans hs,by have:=hko.callD (k:Int) false;exact this.mono (by omega)⟩)
     have hcv2:IntKind.i64.wrap ((k:Int)+1)=(k:Int)+1:=by rw[IntKind.wrap_i64];have:=HNL.out;omega
     clear hd hg hs hko r1 r2 r3 r4 hrd hxl hct hkx hx
     go_wp2_with (go_at_call 17;fail)
     refine HCT.out.mono ?_
     rintro e w7 ⟨rfl,hd7,hu7⟩
     have HD7:=hid hd7
     have hu07:=HH.out.upd.step hu7 (fun j hj e=>by have:=HF2.out j e;omega)
     have how:=ownsRow_any HH.out.own hu7 (fun j hj e=>HH.out.ne j hj e)
     have HU7:=hid hu07;have HOW:=hid how
     clear hd7 hu7 hu07 how HCT
     have HBL:=hid (show(bcells x).length=64 by rw[bcells_length];exact HXL.out)
     have H1B:=hid (all_oneCell_toArray (bcells_one x));have HO1:=hid (bcells_one x)
     have HKB2:=hid (show(heldF D all).take (k+1)=(heldF D all).take k++[x] by rw[List.take_add_one,HKX.out];rfl)
     have HZB:=hid (show((bcells zblk).length=64) from rfl)
     have HFB:=hid (show((heldF D all).take (k+1)).flatMap bcells=((heldF D all).take k).flatMap bcells++bcells x by rw[HKB2.out];simp)
     clear HKB2
     generalize bcells x=B at *
     simp only[]
     iterate 13 go_step
     refine(?_:wpList _ _ _ _ _ (w7.alloc (.cells (bcells zblk).toArray 48)))
     have hblk:(w7.alloc (.cells (bcells zblk).toArray 48)).heap[w7.heap.size]?=some (.cells (bcells zblk).toArray 48 (0,0)):=alloc_at rfl
     have hth:(w7.alloc (.cells (bcells zblk).toArray 48)).there w7.heap.size 0 B.toArray.size:=by
      have:=there_block hblk
      rwa [show(bcells zblk).toArray.size=B.toArray.size by simp[HBL.out,HZB.out]] at this
     refine wpList_store_mid rfl 48 (.tmp 10) (.tmp 41) rfl w7.heap.size 0 B.toArray rfl rfl hth (by rw[Tryz.info56p];simp[HBL.out]) H1B.out ?_
     have hb2:=heap_setCells_whole (vs:=B) hblk (by simp[HBL.out,HZB.out])
     have hu2:Upd (fun _=>False) w7 ((w7.alloc (.cells (bcells zblk).toArray 48)).setCells w7.heap.size 0 B):=by
      have:=Upd.setCells (F:=fun j=>w7.heap.size≤j) (b:=w7.heap.size) (Nat.le_refl _) B 0 ((Upd.refl _ w7).alloc (.cells (bcells zblk).toArray 48))
      exact this.mono (fun j hj e=>by omega)
     have HU8:=hid (HU7.out.trans hu2);have HOW8:=hid (ownsRow_any HOW.out hu2 (fun _ _ e=>e));have HD8:=hid (HD7.out.kept hu2 (fun _ _ e=>e))
     obtain⟨b2,hb2e⟩: ∃b2,b2=w7.heap.size:=⟨_,rfl⟩
     simp only[]
     clear hth hblk hu2 HD7 HOW HU7
     generalize (w7.alloc (.cells (bcells zblk).toArray 48)).setCells w7.heap.size 0 B=W2 at *
     rw[←hb2e] at hb2 ⊢
     have HB2:=hid hb2
     clear hb2 hb2e
     go_upto_region 17 with fail
     iterate 4 go_step
     refine wpList_load_mid rfl 48 (.tmp 10) rfl b2 0 rfl B _ (rangeAt_block HB2.out) Tryz.underlying48 rfl (by rw[Tryz.info56p,HBL.out]) ?_
     refine wpList_exec rfl (run_exec_buildSlice (run_buildSlice201 B _ HBL.out) rfl (by simp[Act.eval,Act.put])) ?_
     obtain⟨i0,hi0,hz0,hz1,hz2⟩:=info_parts Tryz.info48z
     have hN9:=HNL.out
     have hln:(((heldF D all).take k).flatMap bcells).length=k * 64:=HOW8.out.1
     refine wpList_append_lies _ rfl (.tmp 45) (.tmp 47) 201 rfl w.heap.size 48 i0 (.agg (bcells zblk).toArray) 64 64 Tryz.underlying201 hi0 hz0 hz1 hz2 (by simp[Value.cells,HZB.out]) (by omega) (.slice va k vc) _ _ rfl (HOW8.out.alloc _) ⟨W2.heap.size,0,none⟩ 1 1 B rfl
      (by rw[HBL.out]) (World.news_of_block (cs:=B.toArray) (t:=48) (fr:=(0,0)) (heap_alloc_new _ _)) HO1.out (by omega) (by unfold maxLen;omega) (by omega) (by have:=HU8.out.size;simp;omega) (W2.heap.size+1) (by simp) ?_
     intro gg cap' w4 hown hgrow hat hlt4
     have hu4:Upd (fun j=>(Value.slice va k vc).ownBlock=some j) W2 w4:=((Upd.refl _ W2).alloc _).trans (Upd.of_grown hgrow (fun j hj=>hj))
     have hst:HeldAt w p1 N K F2 CD.S (heldF D all) (k+1) (.slice (some ⟨gg,0,none⟩) (k+1) cap') w4:=by
      refine⟨⟨_,HD8.out.kept hu4 (fun j hj e=>HH.out.ne j e hj),HDG.out.1,HDG.out.2.1,HDG.out.2.2⟩,?_,fun j hj e=>?_,HU8.out.step hu4 (fun j hj e=>?_)⟩
      ·rw[HFB.out];exact hown
      ·simp[Value.ownBlock] at hj
       subst hj
       rcases hat with q | q
       ·exact HH.out.ne _ q e
       ·have:=HD8.out.lt _ e;omega
      ·have:=(World.ownsRow.lt HOW8.out j e).1;omega
     have HST2:=hid hst
     clear hown hgrow hat hlt4 hu4 hst hi0 hz0 hz1 hz2 hN9 hln
     go_wp2
     go_roundg (N - (k+1))
     case measure=>omega
     case rel=>exact⟨k+1,by omega,rfl,by go_num,⟨_,_,rfl⟩,HST2.out⟩
    ·obtain rfl:N=k:=by omega
     go_wp2
     go_ret
     have how:=HH.out.own
     rw[List.take_of_length_le (by rw[heldF_length];have:=HN.out;omega)] at how
     exact⟨va,vc,rfl,how,HH.out.upd⟩
theorem rangeAt_rowB {w:World}{B0:Nat}{e:TypeId}{sz g n cap o len:Nat}{xs bs:List Value}(h:w.ownsRow B0 e sz (.slice (some ⟨g,0,none⟩) n cap) n xs)(hb:(xs.drop o).take len=bs):w.rangeAt g o bs:=by
 intro j v hv
 subst hb
 have hj:j<len:=by
  have:=(List.getElem?_eq_some_iff.1 hv).1
  simp at this;omega
 have:xs[o+j]?=some v:=by simpa [List.getElem?_take,List.getElem?_drop,hj] using hv
 have:=h.cells (g:=g) rfl (o+j) v this
 rwa [Addr.add_mid,Nat.zero_add] at this
theorem blocks_at: ∀(L:List (List Int)) (j:Nat) (x:List Int),L[j]?=some x→(∀b∈L,b.length=64)→((L.flatMap bcells).drop (j * 64)).take 64=bcells x
 | [],j,v,h,_=>by simp at h
 |y :: L,0,v,h,hl=>by
  simp at h;subst h
  have:=hl y (by simp)
  rw[List.flatMap_cons,Nat.zero_mul,List.drop_zero,List.take_append_of_le_length (by rw[bcells_length];omega),List.take_of_length_le (by rw[bcells_length];omega)]
 |y :: L,j+1,v,h,hl=>by
  have h1:=hl y (by simp)
  rw[List.flatMap_cons,List.drop_append,List.drop_eq_nil_of_le (by rw[bcells_length];omega),List.nil_append,bcells_length,h1,show(j+1) * 64 - 64=j * 64 by omega]
  exact blocks_at L j v (by simpa using h) (fun b hb=>hl b (List.mem_cons_of_mem _ hb))
theorem alike_same {p q K:Nat}{D:Dk}{F G:Nat→Prop}(w:World)(hD:Dsk w p D F)(hE:Dsk w q D G)(hok:D.Ok K)(hK:K≤1000000000):
  Calls Tryz.prog 45 #[.pointer (some ⟨p,0,none⟩),.pointer (some ⟨q,0,none⟩)] w fun e w'=>e=.returned (.bool true)∧Upd (fun _=>False) w w':=by
 have HD:=hid hD;have HE:=hid hE;have HOK:=hid hok;have HK:=hid hK
 have hpd:=fun W (h:Dsk W p D F)=>pending_any W h (hok.mono (by omega))
 have hpe:=fun W (h:Dsk W q D G)=>pending_any W h (hok.mono (by omega))
 have hhd:=fun W (h:Dsk W p D F) all=>held_any all W h hok hK
 have hhe:=fun W (h:Dsk W q D G) all=>held_any all W h hok hK
 have hdd:=dead_any w hD;have hde:=dead_any w hE;have hod:=ops_any w hD;have hoe:=ops_any w hE
 obtain⟨dd,hdd2⟩: ∃x,x=D.dead:=⟨_,rfl⟩
 obtain⟨oo,hoo⟩: ∃x,x=D.ops:=⟨_,rfl⟩
 obtain⟨n,hn⟩: ∃x,x=D.row.length:=⟨_,rfl⟩
 obtain⟨N,hN⟩: ∃x,x=D.arr.length:=⟨_,rfl⟩
 have hNl:=hok.len
 have hHL:=fun all=>heldF_length D all
 have hHB:=fun all=>heldF_blk hok all
 rw[←hdd2] at hdd hde
 rw[←hoo] at hod hoe
 simp only[←hn] at hpd hpe
 simp only[←hN] at hhd hhe hHL
 rw[←hN] at hNl
 have HPD:=hid hpd;have HPE:=hid hpe;have HHD:=hid hhd;have HHE:=hid hhe;have HDD:=hid hdd;have HDE:=hid hde;have HOD:=hid hod;have HOE:=hid hoe;have HNL:=hid hNl;have HHL:=hid hHL;have HHB:=hid hHB
 clear hD hE hok hK hpd hpe hhd hhe hdd hde hod hoe hdd2 hoo hn hN hNl hHL hHB
 go_enter Tryz.func45,Tryz.ntmps45
 go_wp2_with (go_at_call 66;fail)
 refine HDD.out.mono ?_
 rintro e w1 ⟨rfl,rfl⟩
 simp only[]
 go_wp2_with (go_at_call 66;fail)
 refine HDE.out.mono ?_
 rintro e w1 ⟨rfl,rfl⟩
 simp only[]
 go_wp2_with (go_at_call 65;fail)
 refine HOD.out.mono ?_
 rintro e w1 ⟨rfl,rfl⟩
 simp only[]
 go_wp2_with (go_at_call 65;fail)
 refine HOE.out.mono ?_
 rintro e w1 ⟨rfl,rfl⟩
 simp only[]
 go_wp2_with (go_at_call 68;fail)
 refine(HPD.out w HD.out).mono ?_
 rintro e w1 ⟨u,rfl,hrow,hu1⟩
 obtain⟨sa,sc,rfl⟩:=rowV hrow
 have HU1:=hid hu1
 clear hrow hu1
 simp only[]
 go_wp2_with (go_at_call 68;fail)
 refine(HPE.out w1 (HE.out.kept HU1.out (fun _ _ e=>e))).mono ?_
 rintro e w2 ⟨u,rfl,hrow,hu2⟩
 obtain⟨sa2,sc2,rfl⟩:=rowV hrow
 have HU2:=hid (HU1.out.trans hu2)
 clear hrow hu2 HU1
 simp only[]
 go_upto_region 3 with fail
 go_upto_block 0 with fail
 go_upto_region 4 with fail
 go_loopg [32] 2 (fun gk i wr=> ∃k:Nat,k≤2∧gk=2 - k∧i=.int .i64 k∧Upd (fun _=>False) w wr)
 case atStart=>exact⟨0,Nat.zero_le _,rfl,rfl,HU2.out⟩
 case round=>
  obtain⟨k,hk,rfl,rfl,hu⟩:=hrel
  have HU:=hid hu
  clear hu
  by_cases hk2:k<2
  ·have hk2i:(k:Int)<2:=by omega
   obtain⟨al,hal⟩: ∃al:Bool,∀W:World,(Instr.index 200 (.agg #[.bool false,.bool true]) (.int .i64 k)).run Tryz.prog W=.ok (.bool al) W:=by
    have:k=0∨k=1:=by omega
    rcases this with rfl | rfl
    ·exact⟨false,fun W=>by kernel_rfl⟩
    ·exact⟨true,fun W=>by kernel_rfl⟩
   go_wp2_with (go_at_call 122;fail)
   refine(HHD.out wr (HD.out.kept HU.out (fun _ _ e=>e)) al).mono ?_
   rintro e wa ⟨xa,xc,rfl,hx,hua⟩
   have HX:=hid hx;have HUA:=hid (HU.out.trans hua)
   clear hx hua
   simp only[]
   go_wp2_with (go_at_call 122;fail)
   refine(HHE.out wa (HE.out.kept HUA.out (fun _ _ e=>e)) al).mono ?_
   rintro e wb ⟨ya,yc,rfl,hy,hub⟩
   have HY:=hid hy;have HUB:=hid (HUA.out.trans hub);have HXB:=hid (ownsRow_any HX.out hub (fun _ _ e=>e))
   clear hy hub HX HUA
   have hN0: ¬(N:Int)=0:=by have:=HNL.out;omega
   have hN1:((N:Int) == 0)=false:=by simpa using hN0
   obtain⟨gx,rfl⟩: ∃gx,xa=some ⟨gx,0,none⟩:=by
    rcases HXB.out.2 with ⟨h1,_⟩ | ⟨g',cap',cur,h1,_⟩
    ·injection h1 with _ h1 _
     have:=HNL.out
     omega
    ·injection h1 with h1 _ _
     exact⟨g',h1⟩
   obtain⟨gy,rfl⟩: ∃gy,ya=some ⟨gy,0,none⟩:=by
    rcases HY.out.2 with ⟨h1,_⟩ | ⟨g',cap',cur,h1,_⟩
    ·injection h1 with _ h1 _
     have:=HNL.out
     omega
    ·injection h1 with h1 _ _
     exact⟨g',h1⟩
   simp only[]
   go_upto_region 9 with fail
   go_upto_block 2 with fail
   go_upto_region 10 with fail
   obtain⟨wo,rfl⟩: ∃wo:World,wo=wb:=⟨_,rfl⟩
   go_loopg [53] N (fun gk i wr=> ∃j:Nat,j≤N∧gk=N - j∧i=.int .i64 j∧Upd (fun _=>False) wo wr)
   case atStart=>exact⟨0,Nat.zero_le _,rfl,rfl,Upd.refl _ _⟩
   case round=>
    obtain⟨j,hj,rfl,rfl,huj⟩:=hrel
    have HUJ:=hid huj
    clear huj
    by_cases hjN:j<N
    ·have hjNi:(j:Int)<N:=by omega
     obtain⟨x,hx⟩: ∃x,(heldF D al)[j]?=some x:=⟨_,List.getElem?_eq_getElem (by rw[HHL.out];exact hjN)⟩
     have hbk:=blocks_at _ j x hx (HHB.out al)
     have hxl:=HHB.out al x (List.mem_of_getElem? hx)
     have hrx:=rangeAt_rowB (ownsRow_any HXB.out HUJ.out (fun _ _ e=>e)) hbk
     have hry:=rangeAt_rowB (ownsRow_any HY.out HUJ.out (fun _ _ e=>e)) hbk
     have hne: ∀W:World,(binOp .neq 48 (.agg (bcells x).toArray) (.agg (bcells x).toArray)).run Tryz.prog W=.ok (.bool false) W:=fun W=>by
      rw[neq_bytes W hxl hxl];simp
     have HNE:=hid hne;have HBL:=hid (show(bcells x).length=64 by rw[bcells_length];exact hxl)
     have HRX:=hid hrx;have HRY:=hid hry
     clear hx hbk hxl hrx hry hne
     generalize bcells x=B at *
     go_upto_region 12 with fail
     have hA:wr.drew.rangeAt gx (j * 64) B∧wr.drew.rangeAt gy (j * 64) B:=⟨HRX.out,HRY.out⟩
     refine wp_region_G 8 (fun W=>W.rangeAt gx (j * 64) B∧W.rangeAt gy (j * 64) B) [false,false,false,false,false,false,false,false,false] rfl (by kernel_rfl) ?_
     refine tqZ 0 (.slice (some ⟨gx,0,none⟩) N xc) [3,2] hA (fun w5 q1=>?_) ?_
     ·go_simp
     simp only[pZ,nZ,bZ,List.set]
     refine tqZ 1 (.int .i64 j) [3,2] hA (fun w5 q1=>?_) ?_
     ·go_simp
     simp only[pZ,nZ,bZ,List.set]
     refine tqZ 2 (.pointer (some ⟨gx,j * 64,none⟩)) [3] hA (fun w5 q1=>?_) ?_
     ·go_simp
     simp only[pZ,nZ,bZ,List.set]
     refine tqZ 3 (.agg B.toArray) [] hA (fun w5 q1=>?_) ?_
     ·exact run_load_mid' rfl rfl B q1.1 Tryz.underlying48 rfl (by rw[Tryz.info56p,HBL.out])
     simp only[pZ,nZ,bZ,List.set]
     refine tqZ 4 (.slice (some ⟨gy,0,none⟩) N yc) [7,6] hA (fun w5 q1=>?_) ?_
     ·go_simp
     simp only[pZ,nZ,bZ,List.set]
     refine tqZ 5 (.int .i64 j) [7,6] hA (fun w5 q1=>?_) ?_
     ·go_simp
     simp only[pZ,nZ,bZ,List.set]
     refine tqZ 6 (.pointer (some ⟨gy,j * 64,none⟩)) [7] hA (fun w5 q1=>?_) ?_
     ·go_simp
     simp only[pZ,nZ,bZ,List.set]
     refine tqZ 7 (.agg B.toArray) [] hA (fun w5 q1=>?_) ?_
     ·exact run_load_mid' rfl rfl B q1.2 Tryz.underlying48 rfl (by rw[Tryz.info56p,HBL.out])
     simp only[pZ,nZ,bZ,List.set]
     refine wpG_tail_lit (k:=8) rfl rfl (by kernel_rfl) ?_
     simp only[List.drop]
     refine wpList_exec rfl (run_exec_neq rfl rfl rfl (HNE.out _)) ?_
     have hcv2:IntKind.i64.wrap ((j:Int)+1)=(j:Int)+1:=by rw[IntKind.wrap_i64];have:=HNL.out;omega
     have HUK:=hid HUJ.out.drew
     clear hA HRX HRY
     go_wp2
     go_roundg (N - (j+1))
     case measure=>omega
     case rel=>exact⟨j+1,by omega,rfl,by go_num,HUK.out⟩
    ·obtain rfl:N=j:=by omega
     have hcv2:IntKind.i64.wrap ((k:Int)+1)=(k:Int)+1:=by rw[IntKind.wrap_i64];omega
     go_wp2
     go_roundg (2 - (k+1))
     case measure=>omega
     case rel=>exact⟨k+1,by omega,rfl,by go_num,HUB.out.trans HUJ.out⟩
  ·obtain rfl:k=2:=by omega
   go_wp2
   go_ret
   exact⟨rfl,HU.out⟩
end
end Go.Proofs.YtbimkhdiplnbfaaGreat
