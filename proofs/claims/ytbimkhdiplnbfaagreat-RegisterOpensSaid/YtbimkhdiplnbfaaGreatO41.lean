/- append([]bool{}, l...): booleans in a row of one's own. -/
import Derived.Test.YtbimkhdiplnbfaaGreatO25
import Derived.Test.YtbimkhdiplnbfaaGreatO28
import Derived.Test.YtbimkhdiplnbfaaGreatO30
import Derived.Test.YtbimkhdiplnbfaaGreatO33
import Derived.Test.YtbimkhdiplnbfaaGreatO38
import Derived.Test.YtbimkhdiplnbfaaGreatO39
import Derived.Maps.AppendAt
open Go.Lib (hid)
set_option linter.unusedVariables false
set_option linter.unusedSimpArgs false
namespace Go.Proofs.YtbimkhdiplnbfaaGreat
set_option maxRecDepth 1000000
set_option maxHeartbeats 16000000
section
open Go.RowKit Go.Shelf
theorem told_vals {w wt:World}{TC:Nat→Prop}{a:Option Addr}{n c:Nat}{l:KV}(h1:ValRow wt w.heap.size TC (.slice a n c) l)(h2: ∀k,TC k→w.heap.size≤k)(h3:RowC wt TC):
  ∃C',ValsAt wt C' a l∧(∀j,C' j→w.heap.size≤j∧j<wt.heap.size)∧ ∀g o,a=some ⟨g,o,none⟩→C' g:=by
 refine⟨fun j=>TC j∨(Value.slice a n c).ownBlock=some j,fun i p hi=>?_,fun j hj=>?_,fun g o e=>.inr (by rw[e];rfl)⟩
 ·obtain⟨g,v,e,c1,c2,hb⟩:=h1.valsAt i p hi
  exact⟨g,v,e,c1,c2,hb.mono (fun k hk=>.inl hk)⟩
 ·rcases hj with hj | hj
  ·exact⟨h2 j hj,h3.lt j hj⟩
  ·obtain⟨L,_,h4,_⟩:=h1
   exact World.ownsRow.lt h4 j hj
def RowsL (w:World)(a:Option Addr)(L:List (List Int)):Prop:= ∀i b,L[i]?=some b→ ∃g o ba bc,a=some ⟨g,o,none⟩∧BytesIn w (.slice ba b.length bc) b∧Bytes b∧b.length≤bc∧bc≤140737488351232∧w.cell? ⟨g,o+i,none⟩=some (.slice ba b.length bc)
theorem rows_list {w:World}{a:Option Addr}: ∀{n:Nat},BytesRows w a n→ ∃L,L.length=n∧RowsL w a L
 | 0,_=>⟨[],rfl,fun i b hb=>by simp at hb⟩
 |n+1,h=>by
  obtain⟨L,h1,h2⟩:=rows_list (n:=n) (fun i hi=>h i (by omega))
  obtain⟨b,o,bs,ba,bc,g1,g2,g3,g4,g5,g6⟩:=h n (by omega)
  refine⟨L++[bs],by simp[h1],fun i c hc=>?_⟩
  rcases Nat.lt_or_ge i L.length with hi | hi
  ·rw[List.getElem?_append_left hi] at hc
   exact h2 i c hc
  ·have hin:i=n:=by
    have:=(List.getElem?_eq_some_iff.1 hc).1
    simp at this
    omega
   subst hin
   rw[List.getElem?_append_right (by omega),h1,Nat.sub_self] at hc
   simp only[List.getElem?_cons_zero,Option.some.injEq] at hc
   subst hc
   exact⟨b,o,ba,bc,g1,g2,g3,g4,g5,g6⟩
theorem index99_0 (p q:Option Addr)(w:World):(Instr.index 99 (.agg #[.pointer p,.pointer q]) (.int .i64 0)).run Tryz.prog w=.ok (.pointer p) w:=by
 obtain⟨i,hi,hs⟩:=Option.map_eq_some_iff.1 (show(Tryz.prog.info? 25).map (·.size)=some 1 by kernel_rfl)
 simp[Instr.index,run_underlying Tryz.underlying99,typeInfo,sizeOf,hi,hs,go_sem]
theorem index99_1 (p q:Option Addr)(w:World):(Instr.index 99 (.agg #[.pointer p,.pointer q]) (.int .i64 1)).run Tryz.prog w=.ok (.pointer q) w:=by
 obtain⟨i,hi,hs⟩:=Option.map_eq_some_iff.1 (show(Tryz.prog.info? 25).map (·.size)=some 1 by kernel_rfl)
 simp[Instr.index,run_underlying Tryz.underlying99,typeInfo,sizeOf,hi,hs,part,isAgg,run_underlying Tryz.underlying25,go_sem]
noncomputable def finN (bs:List Int)(L:List (List Int))(k:Nat):Lg×Dk:=bldN (bs.take 5000) (((L.take k).take 8).map fun b=>b.take 1000)
theorem finN_zero (bs:List Int)(L:List (List Int)):finN bs L 0=cpN fmN (bs.take 5000):=by simp[finN,bldN]
theorem finN_past (bs:List Int)(L:List (List Int)){k:Nat}(hk:8≤k):finN bs L (k+1)=finN bs L k:=by
 unfold finN
 rw[List.take_take,List.take_take,Nat.min_eq_left (by omega),Nat.min_eq_left (by omega)]
theorem finN_next (bs:List Int){L:List (List Int)}{k:Nat}{b:List Int}(hk:k<8)(hb:L[k]?=some b):finN bs L (k+1)=apN (finN bs L k) (b.take 1000):=by
 obtain⟨h1,h2⟩:=List.getElem?_eq_some_iff.1 hb
 unfold finN
 rw[List.take_take,List.take_take,Nat.min_eq_right (by omega),Nat.min_eq_right (by omega),List.take_succ_eq_append_getElem h1,List.map_append,h2]
 exact bldN_snoc _ _ _
theorem finN_h {bs:List Int}(hB:Bytes bs)(L:List (List Int))(k:Nat):(finN bs L k).1.h=⟨2,200,1,2⟩∧(finN bs L k).1.parts.length≤9:=by
 obtain⟨h1,h2⟩:=bldN_h (p0:=bs.take 5000) (fun x hx=>hB x (List.mem_of_mem_take hx)) (((L.take k).take 8).map fun b=>b.take 1000)
 refine⟨h1,Nat.le_trans h2 ?_⟩
 rw[List.length_map,List.length_take]
 omega
structure WlsAt (w0:World) (bs:List Int) (L:List (List Int)) (q x:Nat) (wr:World) (Fx:Nat→Prop) (k:Nat) (W:World):Prop where
 out: ∃G F:Nat→Prop,WalG W q x (finN bs L k).1 (finN bs L k).2 G F 402 (22000+2000 * min k 8)∧(∀j,G j→wr.heap.size≤j)∧ ∀j,F j→Fx j∨wr.heap.size≤j
 upd:Upd Fx wr W
structure OpAt (w0:World) (d f:Nat) (X:Lg×Dk) (k:Nat) (W:World):Prop where
 out: ∃Fa Fb:Nat→Prop,Dsk W d (if 0<k then X.2 else Dk.new 402) Fa∧Dsk W f (if 1<k then X.2 else Dk.new 402) Fb∧(∀j,Fa j→ ¬Fb j)∧ ∀j,Fa j∨Fb j→w0.heap.size≤j
 ok:0<k→X.2.Ok 40000
 upd:Upd (fun _=>False) w0 W
theorem opens_run {ya la:Option Addr}{yc lc:Nat}{bs:List Int}{L:List (List Int)}(w00:World)(hy:BytesIn w00 (.slice ya bs.length yc) bs)(hB:Bytes bs)(hyl:bs.length≤yc)(hyc:yc≤140737488351232)(hr:RowsL w00 la L)(hl:L.length≤lc)(hc:lc≤maxLen):
  Calls Tryz.prog 9 #[.slice ya bs.length yc,.slice la L.length lc] w00 fun e w'=>e=.returned (.bool true)∧Upd (fun _=>False) w00 w':=by
 have HY:=hid hy;have HB:=hid hB;have HYL:=hid hyl;have HYC:=hid hyc;have HR:=hid hr;have HL:=hid hl;have HLC:=hid hc
 clear hy hB hyl hyc hr hl hc
 go_enter Tryz.func9,Tryz.ntmps9
 go_wp2_with (go_at_call 18;fail)
 refine(wakes_any w00).mono ?_
 rintro e w1 ⟨rfl,hu1⟩
 have HU1:=hid hu1
 clear hu1
 simp only[]
 go_wp2_with (go_at_call 13;fail)
 refine(new_good_disk 402 w1 (by omega)).mono ?_
 rintro e w2 ⟨F1,rfl,h1,h2,h3,h4,h5⟩
 obtain⟨d,hd⟩: ∃d,d=w1.heap.size+1:=⟨_,rfl⟩
 rw[←hd] at h1 ⊢
 have HD1:=hid h1;have HF1:=hid h2;have HU2:=hid (HU1.out.trans h3);have HG:=hid h4;have HOK:=hid h5
 have HF1L:=hid h1.lt
 clear h1 h2 h3 h4 h5 hd
 simp only[]
 go_wp2_with (go_at_call 13;fail)
 refine(new_good_disk 402 w2 (by omega)).mono ?_
 rintro e w3 ⟨F2,rfl,h1,h2,h3,_,_⟩
 obtain⟨f,hf⟩: ∃d,d=w2.heap.size+1:=⟨_,rfl⟩
 rw[←hf] at h1 ⊢
 have HD2:=hid h1;have HF2:=hid h2;have HU3:=hid (HU2.out.trans h3)
 have HD13:=hid (HD1.out.kept h3 (fun _ _ e=>e))
 have HAP:=hid (show(∀k,F1 k→ ¬F2 k)∧ ∀k,F1 k→w00.heap.size≤k from⟨fun k h e=>by have:=HF1L.out k h;have:=h2 k e;omega,fun k h=>by have:=HF1.out k h;have:=HU1.out.size;omega⟩)
 have HF2B:=hid (show∀k,F2 k→w00.heap.size≤k from fun k h=>by have:=h2 k h;have:=HU2.out.size;omega)
 clear h1 h2 h3 hf HD1
 simp only[]
 go_upto_block 0 with fail
 go_upto_region 6 with fail
 obtain⟨X,hX⟩: ∃X,X=finN bs L L.length:=⟨_,rfl⟩
 have HX:=hid hX
 have hst:OpAt w00 d f X 0 w3:=⟨⟨F1,F2,HD13.out,HD2.out,HAP.out.1,fun j hj=>hj.elim (HAP.out.2 j) (HF2B.out j)⟩,fun h=>by omega,HU3.out⟩
 have HST:=hid hst
 clear hst hX
 go_loopg [34] 2 (fun gk i wr=> ∃k:Nat,k≤2∧gk=2 - k∧i=.int .i64 k∧OpAt w00 d f X k wr)
 case atStart=>exact⟨0,by omega,rfl,rfl,HST.out⟩
 case round=>
  obtain⟨k,hk,rfl,rfl,⟨Fa,Fb,hda,hdb,hab,hbase⟩,hok,hur⟩:=hrel
  have HAB:=hid hab;have HBASE:=hid hbase;have HUR:=hid hur;have HOKX:=hid hok
  clear hab hbase hur hok
  obtain⟨wo,rfl⟩: ∃wo:World,wo=wr:=⟨_,rfl⟩
  rcases(show k=0∨k=1∨k=2 by omega) with rfl | rfl | rfl
  ·have hdx:Dsk wo d (Dk.new 402) Fa:=by simpa using hda
   have HDO:=hid hdb
   clear hda hdb
   have HDX:=hid hdx
   clear hdx
   rw[show(((0:Nat)):Int)=0 from rfl]
   have hix:=index99_0 (some ⟨d,0,none⟩) (some ⟨f,0,none⟩) wo
   go_upto_region 8 with fail
   clear hix
   have hfm:=format_good (area:=200) (N:=402) (K:=0) wo HDX.out HG.out HOK.out (by omega) (by omega) (by omega)
   simp only[Int.cast_ofNat_Int] at hfm
   have HFM:=hid hfm
   clear hfm
   go_wp2_with (go_at_call 41;fail)
   refine HFM.out.mono ?_
   rintro e w4 ⟨q,G4,F4,rfl,hw4,hg4,hf4,hu4⟩
   have HW4:=hid (show WalG w4 q d fmN.1 fmN.2 G4 F4 402 20000 from hw4);have HG4:=hid hg4;have HF4:=hid hf4;have HU4:=hid hu4
   clear hw4 hg4 hf4 hu4 HFM
   simp only[]
   obtain⟨m,hm,hm1,hm2⟩: ∃m:Nat,min (bs.length:Int) 5000=m∧m≤bs.length∧m≤5000:=⟨min bs.length 5000,by omega,by omega,by omega⟩
   go_upto_region 9 with fail
   obtain⟨hsl,hbm⟩:=HY.out.head HYL.out hm1
   go_wp2_with (go_at_call 42;fail)
   have htk:bs.take m=bs.take 5000:=by
    rcases Nat.le_total bs.length 5000 with h | h
    ·rw[List.take_of_length_le h,List.take_of_length_le (by omega)]
    ·rw[show m=5000 by omega]
   rw[htk] at hbm
   have hlm:(bs.take 5000).length=m:=by simp;omega
   have hbt:Bytes (bs.take 5000):=fun x hx=>HB.out x (List.mem_of_mem_take hx)
   have hbm4:=hbm.kept (w':=w4) ((HUR.out.step HU4.out (fun j hj e=>by have:=HBASE.out j (.inl e);omega)))
   have HHM:=hid hbm;have HBT:=hid hbt;have HLM:=hid hlm;have HM2:=hid hm2
   have HUR4:=hid (show Upd (fun _=>False) w00 w4 from HUR.out.step HU4.out (fun j hj e=>by have:=HBASE.out j (.inl e);omega))
   clear hm hm1 hm2 hsl hbm hbt hlm htk
   refine(cp_step (s:=fmN) (b:=bs.take 5000) w4 HW4.out (by omega) HBT.out (by rw[HLM.out];have:=HM2.out;omega) (by rw[HLM.out];have:=HM2.out;show((secsN m:Nat):Int)≤200;unfold secsN;omega) (by decide) (by decide) hbm4 (fun hne a n c e=>?_)).mono ?_
   ·have hal:a.block<w00.heap.size:=by
     rcases HHM.out with ⟨e2,_⟩ | ⟨a',c',e2,_,_,hcell⟩
     ·rw[e] at e2;cases e2
     ·rw[e] at e2
      injection e2 with e2
      injection e2 with e2
      subst e2
      exact BytesIn.lt hcell hne
    have hwr:=HUR.out.size
    refine⟨fun hF=>?_,fun e3=>?_⟩
    ·rcases HF4.out _ hF with h | h
     ·have:=HBASE.out _ (.inl h);omega
     ·omega
    ·have:=HG4.out q HW4.out.wal.1.mem;omega
   rintro e w5 ⟨rfl,G5,F5,hw5,hg5,hf5,hu5⟩
   have HW5:=hid hw5
   have HG5:=hid (show∀k,G5 k→wo.heap.size≤k from fun k h=>by
    have:=HU4.out.size
    rcases hg5 k h with h | h
    ·exact HG4.out k h
    ·omega)
   have HF5:=hid (show∀k,F5 k→Fa k∨wo.heap.size≤k from fun k h=>by
    have:=HU4.out.size
    rcases hf5 k h with h | h
    ·exact HF4.out k h
    ·omega)
   have HU5:=hid (show Upd Fa wo w5 from HU4.out.step hu5 (fun k hk e=>by
    rcases e with e | e
    ·have:=HG4.out k e;omega
    ·rcases HF4.out k e with h | h
     ·exact h
     ·omega))
   clear hw5 hg5 hf5 hu5 HW4 HG4 HF4 HU4 HHM hbm4
   simp only[]
   go_upto_block 2 with fail
   go_upto_region 12 with fail
   have hin:WlsAt w00 bs L q d wo Fa 0 w5:=⟨⟨G5,F5,by rw[finN_zero];exact HW5.out,HG5.out,HF5.out⟩,HU5.out⟩
   have HIN:=hid hin
   clear hin
   go_loopg [56] L.length (fun gk i W=> ∃k:Nat,k≤L.length∧gk=L.length - k∧i=.int .i64 k∧WlsAt w00 bs L q d wo Fa k W)
   case atStart=>exact⟨0,by omega,rfl,rfl,HIN.out⟩
   case round=>
    obtain⟨k,hk,rfl,rfl,⟨⟨G6,F6,hw6,hg6,hf6⟩,hu6⟩⟩:=hrel
    obtain⟨W6,rfl⟩: ∃W6:World,W6=wr:=⟨_,rfl⟩
    have HU06:=hid (show Upd (fun _=>False) w00 W6 from HUR.out.step hu6 (fun j hj e=>by have:=HBASE.out j (.inl e);omega))
    have HW6:=hid hw6;have HG6:=hid hg6;have HF6:=hid hf6;have HU6:=hid hu6
    clear hw6 hg6 hf6 hu6
    by_cases hkn:k<L.length
    ·have hkni:(k:Int)<L.length:=by omega
     obtain⟨b,hbk⟩: ∃b,L[k]?=some b:=⟨_,List.getElem?_eq_getElem hkn⟩
     obtain⟨g,o,ba,bc,rfl,hbi,hby,hbl,hbc,hcell⟩:=HR.out k b hbk
     have q0:=cell_keptF HU06.out (fun e=>e) hcell
     have HBK:=hid hbk;have HBI:=hid hbi;have HBY:=hid hby;have HBL:=hid hbl
     clear hbk hbi hby hbl hbc hcell
     have hcv2:IntKind.i64.wrap ((k:Int)+1)=(k:Int)+1:=by rw[IntKind.wrap_i64];have:=HL.out;have:=HLC.out;unfold maxLen at this;omega
     by_cases hk8:k<8
     ·have hk8i:(k:Int)<8:=by omega
      have hmb: ∃m:Nat,min (b.length:Int) 1000=m∧m≤b.length∧m≤1000:=⟨min b.length 1000,by omega,by omega,by omega⟩
      obtain⟨m,hm,hm1,hm2⟩:=hmb
      obtain⟨hsl,hbm⟩:=HBI.out.head HBL.out hm1
      go_wp2_with (go_at_call 43;fail)
      have htk:b.take m=b.take 1000:=by
       rcases Nat.le_total b.length 1000 with h | h
       ·rw[List.take_of_length_le h,List.take_of_length_le (by omega)]
       ·rw[show m=1000 by omega]
      rw[htk] at hbm
      have hlm:(b.take 1000).length=m:=by simp;omega
      have hbt:Bytes (b.take 1000):=fun x hx=>HBY.out x (List.mem_of_mem_take hx)
      have hbm6:=hbm.kept HU06.out
      obtain⟨hh1,hh2⟩:=finN_h HB.out L k
      refine(append_step (s:=finN bs L k) (b:=b.take 1000) W6 HW6.out (by omega) (by omega) hbt (by omega) (by rw[hh1];show(2:Int)+_≤_;omega) hbm6 (fun hne a n c e=>?_)).mono ?_
      ·have hal:a.block<w00.heap.size:=by
        rcases hbm with ⟨e2,_⟩ | ⟨a',c',e2,_,_,hcell⟩
        ·rw[e] at e2;cases e2
        ·rw[e] at e2
         injection e2 with e2
         injection e2 with e2
         subst e2
         exact BytesIn.lt hcell hne
       have hwr:=HUR.out.size
       refine⟨fun hF=>?_,fun e3=>?_⟩
       ·rcases HF6.out _ hF with h | h
        ·have:=HBASE.out _ (.inl h);omega
        ·omega
       ·have:=HG6.out q HW6.out.wal.1.mem;omega
      rintro e w7 ⟨E7,rfl,G7,F7,hw7,hg7,hf7,hu7⟩
      have hws:=HU6.out.size
      have h77:WlsAt w00 bs L q d wo Fa (k+1) w7:=by
       refine⟨⟨G7,F7,?_,fun j h=>?_,fun j h=>?_⟩,HU6.out.step hu7 (fun j hj e=>?_)⟩
       ·rw[finN_next bs hk8 HBK.out,show min (k+1) 8=min k 8+1 by omega]
        exact hw7
       ·rcases hg7 j h with h | h
        ·exact HG6.out j h
        ·omega
       ·rcases hf7 j h with h | h
        ·exact HF6.out j h
        ·exact .inr (by omega)
       ·rcases e with e | e
        ·have:=HG6.out j e;omega
        ·rcases HF6.out j e with h | h
         ·exact h
         ·omega
      have H77:=hid h77
      clear hm hm1 hm2 hsl hbm htk hlm hbt hbm6 hh1 hh2 hw7 hg7 hf7 hu7 hws h77 q0
      simp only[]
      go_wp2
      go_roundg (L.length - (k+1))
      case measure=>omega
      case rel=>exact⟨k+1,by omega,rfl,congrArg _ (by omega),H77.out⟩
     ·have hk8i: ¬(k:Int)<8:=by omega
      go_wp2
      go_roundg (L.length - (k+1))
      case measure=>omega
      case rel=>
       have hw6:=HW6.out
       refine⟨k+1,by omega,rfl,congrArg _ (by omega),⟨⟨G6,F6,?_,HG6.out,HF6.out⟩,HU6.out⟩⟩
       rw[finN_past bs L (by omega),show min (k+1) 8=min k 8 by omega]
       exact hw6
    ·obtain rfl:k=L.length:=by omega
     go_wp2
     have hw6:=HW6.out
     rw[←HX.out] at hw6
     have hsd:=hw6.wal.2.1
     have hso:=HDO.out.kept HU6.out (fun j hj e=>HAB.out j e hj)
     have hwr:=HUR.out.size
     go_roundg (2 - 1)
     case measure=>omega
     case rel=>
      refine⟨1,by omega,rfl,rfl,⟨F6,Fb,by simpa using hsd,by simpa using hso,fun j h1 h2=>by
       rcases HF6.out j h1 with h | h
       ·exact HAB.out j h h2
       ·have:=HDO.out.lt j h2;omega,fun j hj=>?_⟩,fun _=>Dk.Ok.mono hw6.dok (by omega),HU06.out⟩
      rcases hj with hj | hj
      ·rcases HF6.out j hj with h | h
       ·exact HBASE.out j (.inl h)
       ·omega
      ·exact HBASE.out j (.inr hj)
  ·have hdx:Dsk wo f (Dk.new 402) Fb:=by simpa using hdb
   have HDO:=hid hda
   clear hda hdb
   have HDX:=hid hdx
   clear hdx
   rw[show(((1:Nat)):Int)=1 from rfl]
   have hix:=index99_1 (some ⟨d,0,none⟩) (some ⟨f,0,none⟩) wo
   go_upto_region 8 with fail
   clear hix
   have hfm:=format_good (area:=200) (N:=402) (K:=0) wo HDX.out HG.out HOK.out (by omega) (by omega) (by omega)
   simp only[Int.cast_ofNat_Int] at hfm
   have HFM:=hid hfm
   clear hfm
   go_wp2_with (go_at_call 41;fail)
   refine HFM.out.mono ?_
   rintro e w4 ⟨q,G4,F4,rfl,hw4,hg4,hf4,hu4⟩
   have HW4:=hid (show WalG w4 q f fmN.1 fmN.2 G4 F4 402 20000 from hw4);have HG4:=hid hg4;have HF4:=hid hf4;have HU4:=hid hu4
   clear hw4 hg4 hf4 hu4 HFM
   simp only[]
   obtain⟨m,hm,hm1,hm2⟩: ∃m:Nat,min (bs.length:Int) 5000=m∧m≤bs.length∧m≤5000:=⟨min bs.length 5000,by omega,by omega,by omega⟩
   go_upto_region 9 with fail
   obtain⟨hsl,hbm⟩:=HY.out.head HYL.out hm1
   go_wp2_with (go_at_call 42;fail)
   have htk:bs.take m=bs.take 5000:=by
    rcases Nat.le_total bs.length 5000 with h | h
    ·rw[List.take_of_length_le h,List.take_of_length_le (by omega)]
    ·rw[show m=5000 by omega]
   rw[htk] at hbm
   have hlm:(bs.take 5000).length=m:=by simp;omega
   have hbt:Bytes (bs.take 5000):=fun x hx=>HB.out x (List.mem_of_mem_take hx)
   have hbm4:=hbm.kept (w':=w4) ((HUR.out.step HU4.out (fun j hj e=>by have:=HBASE.out j (.inr e);omega)))
   have HHM:=hid hbm;have HBT:=hid hbt;have HLM:=hid hlm;have HM2:=hid hm2
   have HUR4:=hid (show Upd (fun _=>False) w00 w4 from HUR.out.step HU4.out (fun j hj e=>by have:=HBASE.out j (.inr e);omega))
   clear hm hm1 hm2 hsl hbm hbt hlm htk
   refine(cp_step (s:=fmN) (b:=bs.take 5000) w4 HW4.out (by omega) HBT.out (by rw[HLM.out];have:=HM2.out;omega) (by rw[HLM.out];have:=HM2.out;show((secsN m:Nat):Int)≤200;unfold secsN;omega) (by decide) (by decide) hbm4 (fun hne a n c e=>?_)).mono ?_
   ·have hal:a.block<w00.heap.size:=by
     rcases HHM.out with ⟨e2,_⟩ | ⟨a',c',e2,_,_,hcell⟩
     ·rw[e] at e2;cases e2
     ·rw[e] at e2
      injection e2 with e2
      injection e2 with e2
      subst e2
      exact BytesIn.lt hcell hne
    have hwr:=HUR.out.size
    refine⟨fun hF=>?_,fun e3=>?_⟩
    ·rcases HF4.out _ hF with h | h
     ·have:=HBASE.out _ (.inr h);omega
     ·omega
    ·have:=HG4.out q HW4.out.wal.1.mem;omega
   rintro e w5 ⟨rfl,G5,F5,hw5,hg5,hf5,hu5⟩
   have HW5:=hid hw5
   have HG5:=hid (show∀k,G5 k→wo.heap.size≤k from fun k h=>by
    have:=HU4.out.size
    rcases hg5 k h with h | h
    ·exact HG4.out k h
    ·omega)
   have HF5:=hid (show∀k,F5 k→Fb k∨wo.heap.size≤k from fun k h=>by
    have:=HU4.out.size
    rcases hf5 k h with h | h
    ·exact HF4.out k h
    ·omega)
   have HU5:=hid (show Upd Fb wo w5 from HU4.out.step hu5 (fun k hk e=>by
    rcases e with e | e
    ·have:=HG4.out k e;omega
    ·rcases HF4.out k e with h | h
     ·exact h
     ·omega))
   clear hw5 hg5 hf5 hu5 HW4 HG4 HF4 HU4 HHM hbm4
   simp only[]
   go_upto_block 2 with fail
   go_upto_region 12 with fail
   have hin:WlsAt w00 bs L q f wo Fb 0 w5:=⟨⟨G5,F5,by rw[finN_zero];exact HW5.out,HG5.out,HF5.out⟩,HU5.out⟩
   have HIN:=hid hin
   clear hin
   go_loopg [56] L.length (fun gk i W=> ∃k:Nat,k≤L.length∧gk=L.length - k∧i=.int .i64 k∧WlsAt w00 bs L q f wo Fb k W)
   case atStart=>exact⟨0,by omega,rfl,rfl,HIN.out⟩
   case round=>
    obtain⟨k,hk,rfl,rfl,⟨⟨G6,F6,hw6,hg6,hf6⟩,hu6⟩⟩:=hrel
    obtain⟨W6,rfl⟩: ∃W6:World,W6=wr:=⟨_,rfl⟩
    have HU06:=hid (show Upd (fun _=>False) w00 W6 from HUR.out.step hu6 (fun j hj e=>by have:=HBASE.out j (.inr e);omega))
    have HW6:=hid hw6;have HG6:=hid hg6;have HF6:=hid hf6;have HU6:=hid hu6
    clear hw6 hg6 hf6 hu6
    by_cases hkn:k<L.length
    ·have hkni:(k:Int)<L.length:=by omega
     obtain⟨b,hbk⟩: ∃b,L[k]?=some b:=⟨_,List.getElem?_eq_getElem hkn⟩
     obtain⟨g,o,ba,bc,rfl,hbi,hby,hbl,hbc,hcell⟩:=HR.out k b hbk
     have q0:=cell_keptF HU06.out (fun e=>e) hcell
     have HBK:=hid hbk;have HBI:=hid hbi;have HBY:=hid hby;have HBL:=hid hbl
     clear hbk hbi hby hbl hbc hcell
     have hcv2:IntKind.i64.wrap ((k:Int)+1)=(k:Int)+1:=by rw[IntKind.wrap_i64];have:=HL.out;have:=HLC.out;unfold maxLen at this;omega
     by_cases hk8:k<8
     ·have hk8i:(k:Int)<8:=by omega
      have hmb: ∃m:Nat,min (b.length:Int) 1000=m∧m≤b.length∧m≤1000:=⟨min b.length 1000,by omega,by omega,by omega⟩
      obtain⟨m,hm,hm1,hm2⟩:=hmb
      obtain⟨hsl,hbm⟩:=HBI.out.head HBL.out hm1
      go_wp2_with (go_at_call 43;fail)
      have htk:b.take m=b.take 1000:=by
       rcases Nat.le_total b.length 1000 with h | h
       ·rw[List.take_of_length_le h,List.take_of_length_le (by omega)]
       ·rw[show m=1000 by omega]
      rw[htk] at hbm
      have hlm:(b.take 1000).length=m:=by simp;omega
      have hbt:Bytes (b.take 1000):=fun x hx=>HBY.out x (List.mem_of_mem_take hx)
      have hbm6:=hbm.kept HU06.out
      obtain⟨hh1,hh2⟩:=finN_h HB.out L k
      refine(append_step (s:=finN bs L k) (b:=b.take 1000) W6 HW6.out (by omega) (by omega) hbt (by omega) (by rw[hh1];show(2:Int)+_≤_;omega) hbm6 (fun hne a n c e=>?_)).mono ?_
      ·have hal:a.block<w00.heap.size:=by
        rcases hbm with ⟨e2,_⟩ | ⟨a',c',e2,_,_,hcell⟩
        ·rw[e] at e2;cases e2
        ·rw[e] at e2
         injection e2 with e2
         injection e2 with e2
         subst e2
         exact BytesIn.lt hcell hne
       have hwr:=HUR.out.size
       refine⟨fun hF=>?_,fun e3=>?_⟩
       ·rcases HF6.out _ hF with h | h
        ·have:=HBASE.out _ (.inr h);omega
        ·omega
       ·have:=HG6.out q HW6.out.wal.1.mem;omega
      rintro e w7 ⟨E7,rfl,G7,F7,hw7,hg7,hf7,hu7⟩
      have hws:=HU6.out.size
      have h77:WlsAt w00 bs L q f wo Fb (k+1) w7:=by
       refine⟨⟨G7,F7,?_,fun j h=>?_,fun j h=>?_⟩,HU6.out.step hu7 (fun j hj e=>?_)⟩
       ·rw[finN_next bs hk8 HBK.out,show min (k+1) 8=min k 8+1 by omega]
        exact hw7
       ·rcases hg7 j h with h | h
        ·exact HG6.out j h
        ·omega
       ·rcases hf7 j h with h | h
        ·exact HF6.out j h
        ·exact .inr (by omega)
       ·rcases e with e | e
        ·have:=HG6.out j e;omega
        ·rcases HF6.out j e with h | h
         ·exact h
         ·omega
      have H77:=hid h77
      clear hm hm1 hm2 hsl hbm htk hlm hbt hbm6 hh1 hh2 hw7 hg7 hf7 hu7 hws h77 q0
      simp only[]
      go_wp2
      go_roundg (L.length - (k+1))
      case measure=>omega
      case rel=>exact⟨k+1,by omega,rfl,congrArg _ (by omega),H77.out⟩
     ·have hk8i: ¬(k:Int)<8:=by omega
      go_wp2
      go_roundg (L.length - (k+1))
      case measure=>omega
      case rel=>
       have hw6:=HW6.out
       refine⟨k+1,by omega,rfl,congrArg _ (by omega),⟨⟨G6,F6,?_,HG6.out,HF6.out⟩,HU6.out⟩⟩
       rw[finN_past bs L (by omega),show min (k+1) 8=min k 8 by omega]
       exact hw6
    ·obtain rfl:k=L.length:=by omega
     go_wp2
     have hw6:=HW6.out
     rw[←HX.out] at hw6
     have hsd:=hw6.wal.2.1
     have hso:=HDO.out.kept HU6.out (fun j hj e=>HAB.out j hj e)
     have hwr:=HUR.out.size
     go_roundg (2 - 2)
     case measure=>omega
     case rel=>
      refine⟨2,by omega,rfl,rfl,⟨Fa,F6,by simpa using hso,by simpa using hsd,fun j h1 h2=>by
       rcases HF6.out j h2 with h | h
       ·exact HAB.out j h1 h
       ·have:=HDO.out.lt j h1;omega,fun j hj=>?_⟩,fun _=>Dk.Ok.mono hw6.dok (by omega),HU06.out⟩
      rcases hj with hj | hj
      ·exact HBASE.out j (.inl hj)
      ·rcases HF6.out j hj with h | h
       ·exact HBASE.out j (.inr h)
       ·omega
  ·have hd2:Dsk wo d X.2 Fa:=by simpa using hda
   have hf2:Dsk wo f X.2 Fb:=by simpa using hdb
   have hokx:=HOKX.out (by omega)
   have HD2X:=hid hd2;have HF2X:=hid hf2;have HOKD:=hid hokx
   clear hda hdb hd2 hf2
   rw[show((2:Nat):Int)=2 from rfl]
   go_wp2_with (go_at_call 35;fail)
   have hro:=ropen_any wo HD2X.out hokx (by omega)
   have h1:=openD_err (D:=X.2)
   obtain⟨R,hR⟩: ∃R,R=openD X.2:=⟨_,rfl⟩
   rw[←hR] at hro h1
   have HRR:=hid hR
   obtain⟨o,E,D'⟩:=R
   clear hokx hR
   refine hro.mono ?_
   rintro e w5 ⟨F5,k1,k2,k3,k4,kR⟩
   have HK1:=hid k1;have HK2:=hid k2;have HK3:=hid k3;have HK4:=hid k4
   have hfk:Dsk w5 f X.2 Fb:=HF2X.out.kept k3 (fun j hj e=>HAB.out j e hj)
   have hlo:=lopen_any w5 hfk HOKD.out (by omega)
   rw[←HRR.out] at hlo
   have HLO:=hid hlo
   have HU5:=hid (show Upd (fun _=>False) w00 w5 from HUR.out.step k3 (fun j hj e=>by have:=HBASE.out j (.inl e);omega))
   clear k1 k2 k3 k4 hfk hlo hro HD2X
   cases o with
   |none=>
    have hE:E≠0:=h1 rfl
    simp only at kR
    subst kR
    have hE0:(E == 0)=false:=by simpa using hE
    have HE:=hid hE
    clear h1 hE
    simp only[]
    go_wp2_with (go_at_call 44;fail)
    refine HLO.out.mono ?_
    rintro e w6 ⟨F6,q1,q2,q3,q4,rfl⟩
    have hdk:Dsk w6 d D' F5:=HK1.out.kept q3 (fun j hj e=>by
     rcases HK2.out j hj with h | h
     ·exact HAB.out j h e
     ·have:=HF2X.out.lt j e;omega)
    have hal:=alike_same w6 hdk q1 HK4.out (by omega)
    have HALK:=hid hal
    have HU6:=hid (show Upd (fun _=>False) w00 w6 from HU5.out.step q3 (fun j hj e=>by have:=HBASE.out j (.inr e);omega))
    clear q1 q2 q3 q4 hdk hal HLO
    simp only[]
    go_wp2_with (go_at_call 45;fail)
    refine HALK.out.mono ?_
    rintro e w7 ⟨rfl,hu7⟩
    have HU7:=hid (HU6.out.trans hu7)
    clear hu7 HALK HU6
    simp only[]
    go_wp2
    go_ret
    exact⟨rfl,HU7.out⟩
   |some Y=>
    simp only at kR
    obtain⟨_,_,p0,txs,hparts,hk⟩:=kR
    have HPT:=hid hparts
    have HFB:=hid HF2X.out.lt
    clear hparts h1
    rcases hk with ⟨hfo,rfl⟩ | ⟨hfo,hrf⟩
    ·have HFO:=hid hfo
     clear hfo
     simp only[]
     go_wp2_with (go_at_call 44;fail)
     refine HLO.out.mono ?_
     rintro e w6 ⟨F6,q1,q2,q3,q4,_,_,p0',txs',hp',q5⟩
     obtain⟨rfl,rfl⟩:p0=p0'∧txs=txs':=by
      have h9:=HPT.out
      rw[h9] at hp'
      injection hp' with a b
      exact⟨a,b⟩
     rcases q5 with ⟨_,rfl⟩ | ⟨hfo2,_⟩
     ·have hdk:Dsk w6 d D' F5:=HK1.out.kept q3 (fun j hj e=>by
       rcases HK2.out j hj with h | h
       ·exact HAB.out j h e
       ·have:=HFB.out j e;omega)
      have hal:=alike_same w6 hdk q1 HK4.out (by omega)
      have HALK:=hid hal
      have HU6:=hid (show Upd (fun _=>False) w00 w6 from HU5.out.step q3 (fun j hj e=>by have:=HBASE.out j (.inr e);omega))
      clear q1 q2 q3 q4 hdk hal HLO hp'
      simp only[]
      go_wp2_with (go_at_call 45;fail)
      refine HALK.out.mono ?_
      rintro e w7 ⟨rfl,hu7⟩
      have HU7:=hid (HU6.out.trans hu7)
      clear hu7 HALK HU6
      simp only[]
      go_wp2
      go_ret
      exact⟨rfl,HU7.out⟩
     ·have h9:=HFO.out
      rw[hfo2] at h9
      cases h9
    ·obtain⟨r,rq,rb,rn,rC,rG,rfl,hrm,hfine,_,_,_,hr5,hb5,hC5⟩:=hrf
     have HFO:=hid hfo
     obtain⟨s0,hs0⟩: ∃s,s=(foundN p0 txs).1:=⟨_,rfl⟩
     obtain⟨ar,har⟩: ∃ar,ar=areaN (Y.h.area - Y.used) Y.parts:=⟨_,rfl⟩
     obtain⟨ev,l⟩:=s0
     rw[←hs0,←har] at hrm
     rw[←hs0] at hfine
     have HS0:=hid hs0;have HAR:=hid har;have HFI:=hid (show l.Fine from hfine)
     have HRG:=hid hrm.reg;have HMP:=hid hrm.map
     have HNR:=hid (show∀j,Fb j→j≠r∧j≠rb∧ ¬rC j from fun j hj=>by
      have:=HFB.out j hj
      have hw:=HK3.out.size
      exact⟨by omega,by omega,fun e=>by have:=hC5 j e;omega⟩)
     clear hs0 har hrm hfine hfo hr5 hb5 hC5
     simp only[]
     go_wp2_with (go_at_call 44;fail)
     refine HLO.out.mono ?_
     rintro e w6 ⟨F6,q1,q2,q3,q4,_,_,p0',txs',hp',q5⟩
     obtain⟨rfl,rfl⟩:p0=p0'∧txs=txs':=by
      have h9:=HPT.out
      rw[h9] at hp'
      injection hp' with a b
      exact⟨a,b⟩
     rcases q5 with ⟨hfo2,_⟩ | ⟨_,m,mq,mC,mT,mG,rfl,hmod,hm6,_⟩
     ·have h9:=HFO.out
      rw[hfo2] at h9
      cases h9
     ·have hdk:Dsk w6 d D' F5:=HK1.out.kept q3 (fun j hj e=>by
       rcases HK2.out j hj with h | h
       ·exact HAB.out j h e
       ·have:=HFB.out j e;omega)
      have hal:=alike_same w6 hdk q1 HK4.out (by omega)
      have HALK:=hid hal
      have HU6:=hid (show Upd (fun _=>False) w00 w6 from HU5.out.step q3 (fun j hj e=>by have:=HBASE.out j (.inr e);omega))
      rw[←HS0.out,←HAR.out] at hmod
      have HR6:=hid ((q3.block r (lt_of_heap HRG.out) (fun e=>(HNR.out r e).1 rfl)).trans HRG.out)
      have HM6:=hid (HMP.out.kept q3 (fun e=>(HNR.out rb e).2.1 rfl) (fun k hk e=>(HNR.out k e).2.2 hk))
      have HMOD:=hid hmod
      clear q1 q2 q3 q4 hdk hal HLO hp' hmod hm6 HNR HRG HMP
      simp only[]
      go_wp2_with (go_at_call 45;fail)
      refine HALK.out.mono ?_
      rintro e w7 ⟨rfl,hu7⟩
      have HU7:=hid (HU6.out.trans hu7);have HU67:=hid hu7
      clear hu7 HALK HU6
      simp only[]
      go_wp2_with (go_at_call 30;fail)
      refine(told_any w7 ((HU67.out.block _ (lt_of_heap HR6.out) (fun e=>e)).trans HR6.out) (HM6.out.kept0 HU67.out) HFI.out).mono ?_
      rintro e w8 ⟨ta,tc,TC,rfl,ht1,ht2,ht3,ht4⟩
      obtain⟨C',hv1,hv2,hv3⟩:=told_vals ht1 ht2 ht3
      have HV1:=hid hv1;have HU68:=hid (HU67.out.trans ht4);have HU8:=hid (HU7.out.trans ht4)
      clear ht1 ht2 ht3 ht4 hv1 hv2 hv3
      simp only[]
      go_upto_region 25 with fail
      obtain⟨w9,hw9⟩: ∃w9,w9=w8.alloc (.cells #[.int .u64 ev,.slice ta l.length tc] 62):=⟨_,rfl⟩
      rw[←hw9]
      have hu9:Upd (fun _=>False) w8 w9:=by rw[hw9];exact(Upd.refl _ w8).alloc _
      have hx9:w9.heap[w8.heap.size]?=some (.cells #[.int .u64 ev,.slice ta l.length tc] 62 (0,0)):=by rw[hw9];exact alloc_at rfl
      obtain⟨tb,htb⟩: ∃tb,tb=w8.heap.size:=⟨_,rfl⟩
      rw[←htb] at hx9 ⊢
      have HX9:=hid hx9
      have hu69:=HU68.out.trans hu9
      have HR9:=hid ((hu69.block _ (lt_of_heap HR6.out) (fun e=>e)).trans HR6.out)
      obtain⟨ma,mc,hmc,hmv,_⟩:=HMOD.out.cells
      have HM9:=hid ((hu69.block _ (lt_of_heap hmc) (fun e=>e)).trans hmc)
      have HMV:=hid (hmv.kept0 hu69);have HV9:=hid (HV1.out.kept0 hu9);have HU9:=hid (HU8.out.trans hu9)
      clear hw9 hu9 hx9 htb hu69 hmc hmv
      have hA:Upd (fun _=>False) w9 w9.drew:=(Upd.refl _ w9).drew
      refine wp_region_G 18 (fun W=>Upd (fun _=>False) w9 W) [false,false,false,false,false,false,false,false,false,false,false,false,false,false,false,false,false,false,false] rfl (by kernel_rfl) ?_
      generalize w9.drew=wd at hA ⊢
      refine tqZ 0 (.bool true) [] hA (fun w5 q1=>?_) ?_
      ·go_simp
      simp only[pZ,nZ,bZ,List.set]
      refine tqZ 1 (.bool true) [] hA (fun w5 q1=>?_) ?_
      ·go_simp
      simp only[pZ,nZ,bZ,List.set]
      refine tqZ 2 (.agg #[.int .u64 ev,.slice ta l.length tc]) [] hA (fun w5 q1=>?_) ?_
      ·obtain⟨c0,c1⟩:=cells2_of ((q1.block _ (lt_of_heap HX9.out) (fun e=>e)).trans HX9.out)
       go_simp
      simp only[pZ,nZ,bZ,List.set]
      refine tqZ 3 (.pointer (some ⟨m,0,none⟩)) [] hA (fun w5 q1=>?_) ?_
      ·go_simp
      simp only[pZ,nZ,bZ,List.set]
      refine tqZ 4 (.pointer (some ⟨m,0,none⟩)) [] hA (fun w5 q1=>?_) ?_
      ·go_simp
      simp only[pZ,nZ,bZ,List.set]
      refine tqZ 5 (.pointer (some ⟨m,1,none⟩)) [] hA (fun w5 q1=>?_) ?_
      ·go_simp
      simp only[pZ,nZ,bZ,List.set]
      refine tqZ 6 (.agg #[.int .u64 ev,.slice ma l.length mc]) [] hA (fun w5 q1=>?_) ?_
      ·obtain⟨c0,c1,c2,c3⟩:=cells4_of ((q1.block _ (lt_of_heap HM9.out) (fun e=>e)).trans HM9.out)
       go_simp
      simp only[pZ,nZ,bZ,List.set]
      refine wpG_doIf (i:=7) rfl (by kernel_rfl) rfl (fun K hK=>?_)
      have HKK:=hid hK
      clear hK
      go_step
      refine(same_reg (e1:=ev) (e2:=ev) (c:=tc) (d:=mc) wd (HV9.out.kept0 hA) (HMV.out.kept0 hA) (by have:=HFI.out.len;omega) (fun p hp=>(HFI.out.each p hp).2.2.2) (fun p hp=>(HFI.out.each p hp).2.2.2)).mono ?_
      rintro e wd1 ⟨rfl,hu8⟩
      have hA1:=hA.trans hu8
      have hdt:decide (ev=ev∧l=l)=true:=by simp
      rw[hdt]
      clear hu8 hdt
      simp only[]
      refine HKK.out _ _ hA1 ?_
      clear HKK
      simp only[pZ,nZ,bZ,List.set]
      refine tqZ 8 (.bool true) [] hA1 (fun w5 q1=>?_) ?_
      ·go_simp
      simp only[pZ,nZ,bZ,List.set]
      refine tqZ 9 (.bool true) [] hA1 (fun w5 q1=>?_) ?_
      ·go_simp
      simp only[pZ,nZ,bZ,List.set]
      refine tqZ 10 (.pointer (some ⟨r,0,none⟩)) [] hA1 (fun w5 q1=>?_) ?_
      ·go_simp
      simp only[pZ,nZ,bZ,List.set]
      refine tqZ 12 (.pointer (some ⟨m,0,none⟩)) [] hA1 (fun w5 q1=>?_) ?_
      ·go_simp
      simp only[pZ,nZ,bZ,List.set]
      refine tqZ 13 (.pointer (some ⟨m,0,none⟩)) [] hA1 (fun w5 q1=>?_) ?_
      ·go_simp
      simp only[pZ,nZ,bZ,List.set]
      refine tqZ 14 (.pointer (some ⟨m,3,none⟩)) [] hA1 (fun w5 q1=>?_) ?_
      ·go_simp
      simp only[pZ,nZ,bZ,List.set]
      refine tqZ 15 (.int .i64 ar) [] hA1 (fun w5 q1=>?_) ?_
      ·obtain⟨c0,c1,c2,c3⟩:=cells4_of ((q1.block _ (lt_of_heap HM9.out) (fun e=>e)).trans HM9.out)
       go_simp
      simp only[pZ,nZ,bZ,List.set]
      refine wpG_doIf (i:=11) rfl (by kernel_rfl) rfl (fun K hK=>?_)
      have HKK:=hid hK
      clear hK
      go_step
      refine(area_any wd1 (((hA1.block _ (lt_of_heap HR9.out) (fun e=>e)).trans HR9.out))).mono ?_
      rintro e wd2 ⟨rfl,rfl⟩
      simp only[]
      refine HKK.out _ _ hA1 ?_
      clear HKK
      simp only[pZ,nZ,bZ,List.set]
      refine tqZ 16 (.bool true) [] hA1 (fun w5 q1=>?_) ?_
      ·go_simp
      simp only[pZ,nZ,bZ,List.set]
      refine tqZ 17 (.bool true) [] hA1 (fun w5 q1=>?_) ?_
      ·go_simp
      simp only[pZ,nZ,bZ,List.set]
      refine wpG_tail_lit (k:=18) rfl rfl (by kernel_rfl) ?_
      simp only[List.drop]
      go_wp2
      go_ret
      exact⟨rfl,HU9.out.trans hA1⟩
theorem opens_rows {ya la:Option Addr}{yc ln lc:Nat}{bs:List Int}(w:World)(hy:BytesIn w (.slice ya bs.length yc) bs)(hB:Bytes bs)(hyl:bs.length≤yc)(hyc:yc≤140737488351232)(hr:BytesRows w la ln)(hl:ln≤lc)(hc:lc≤maxLen):
  Calls Tryz.prog 9 #[.slice ya bs.length yc,.slice la ln lc] w fun e w'=>e=.returned (.bool true)∧Upd (fun _=>False) w w':=by
 obtain⟨L,rfl,h⟩:=rows_list hr
 exact opens_run w hy hB hyl hyc h hl hc
end
end Go.Proofs.YtbimkhdiplnbfaaGreat
