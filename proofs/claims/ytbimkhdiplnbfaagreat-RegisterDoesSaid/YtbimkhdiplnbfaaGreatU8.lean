/- Walks. -/
import Derived.Test.YtbimkhdiplnbfaaGreatU6
import Derived.Test.YtbimkhdiplnbfaaGreatU7
set_option linter.unusedVariables false
set_option linter.unusedSimpArgs false
namespace Go.Proofs.YtbimkhdiplnbfaaGreat
set_option maxRecDepth 1000000
set_option maxHeartbeats 16000000
variable {bs:List Int} {B:Nat} {v:Value} {w:World}
section
open Go.RowKit
def secsI (n:Int):Int:=if n<0∨40000<n then 0 else(n+51) / 48
theorem Yf (n:Int)(w:World):Calls Tryz.prog 113 #[.int .i64 n] w fun e w'=>e=.returned (.int .i64 (secsI n))∧w=w':=by
 have hs:secsI n=if n<0∨40000<n then 0 else(n+51) / 48:=rfl
 by_cases h1:n<0
 ·have e:secsI n=0:=by rw[hs,if_pos (.inl h1)]
  rw[e]
  go_enter Tryz.func113,Tryz.ntmps113
  go_wp2
  go_ret
  exact⟨rfl,rfl⟩
 ·by_cases h2:40000<n
  ·have e:secsI n=0:=by rw[hs,if_pos (.inr h2)]
   rw[e]
   have h3:n > 40000:=h2
   go_enter Tryz.func113,Tryz.ntmps113
   go_wp2
   go_ret
   exact⟨rfl,rfl⟩
  ·have e:secsI n=(n+51) / 48:=by rw[hs,if_neg (by omega)]
   have e2:(wrap64 (4+n+48) - 1).tdiv 48=(n+51) / 48:=by rw[IntWalk.wrap64_in _ (by omega),Int.tdiv_eq_ediv_of_nonneg (by omega)];congr 1;omega
   have e3:(4+n+48 - 1).tdiv 48=(n+51) / 48:=by rw[Int.tdiv_eq_ediv_of_nonneg (by omega)];congr 1;omega
   rw[e]
   have h3: ¬n > 40000:=h2
   have h4:0≤n:=by omega
   have h5:n≤40000:=by omega
   clear hs e
   go_enter Tryz.func113,Tryz.ntmps113
   go_wp2
   go_ret
   exact⟨rfl,rfl⟩
theorem Zjv (g c:Nat)(w:World):(Instr.arrayAt 48 (.slice (some ⟨g,0,none⟩) 64 c)).run Tryz.prog w=.ok (.pointer (some ⟨g,0,none⟩)) w:=by
 simp[Instr.arrayAt,run_underlying Tryz.underlying48]
theorem Zaa (h:bs.length<60):(Yl bs).length=64:=by simp[Yl,layF_length];omega
theorem Bytes.append {a b:List Int}(ha:Bytes a)(hb:Bytes b):Bytes (a++b):=fun x hx=>(List.mem_append.1 hx).elim (ha x) (hb x)
theorem Bytes.zeros (m:Nat):Bytes (List.replicate m 0):=fun x hx=>by simp at hx;omega
theorem Zhj (bs:List Int):0≤sumF bs∧sumF bs≤4294967295:=by
 have:=Zeh bs
 unfold sumF;omega
theorem Zgh {g n c:Nat}(h:OwnB w B (.slice (some ⟨g,0,none⟩) n c) bs):w.rangeAt g 0 (bcells bs):=by
 intro j v hv
 have:=World.ownsRow.cells h (g:=g) rfl j v hv
 rwa [Addr.add_mid] at this
theorem OwnB.slice_of (h:OwnB w B v bs)(hne:bs≠[]): ∃g c,v=.slice (some ⟨g,0,none⟩) bs.length c:=by
 rcases h.2 with ⟨_,h2⟩ | ⟨g,a0,a1,h1,_⟩
 ·exact absurd (List.length_eq_zero_iff.1 h2) hne
 ·exact⟨g,a0,h1⟩
theorem OwnB.slice' (h:OwnB w B v bs): ∃sa c,v=.slice sa bs.length c:=by
 rcases h.2 with ⟨h1,h2⟩ | ⟨g,a0,a1,h1,_⟩
 ·exact⟨none,0,by rw[h1,h2]⟩
 ·exact⟨_,a0,h1⟩
theorem Znr (w:World)(hl:bs.length<60)(hb:Bytes bs)(hB:B≤w.heap.size)(ho:OwnB w B v bs):
  Calls Tryz.prog 191 #[v] w fun e w'=>e=.returned (.agg (bcells (Yl bs)).toArray)∧Upd (fun k=>v.ownBlock=some k) w w':=by
 obtain⟨sa,sc,rfl⟩:=ho.slice'
 have b3:=World.ownsRow.lt ho
 have hi:(Tryz.prog.info? 48).map (·.size)=some (bcells (Yl bs)).length:=by rw[Tryz.info56p];simp[bcells,Zaa hl]
 have c7:=V (all_oneCell_toArray (Z6 (Yl bs)))
 have HL:RowKit.Hid ((bcells (Yl bs)).length=64):=V (by simp[bcells,Zaa hl])
 have HI:=V hi
 clear hi
 obtain⟨w0,c5,a6,a8⟩:=nb w (.cells (bcells zblk).toArray 48)
 have b4:OwnB w0 B (.slice sa bs.length sc) bs:=ho.keptF a6 n3Z
 obtain⟨v',w1,hr,h1,h2,h3⟩:=Zb1 (ty:=39) (m:=60 - bs.length) b4 (by omega) (by omega) (by have:=a6.size;omega)
 rw[show((60 - bs.length:Nat):Int)=60 - (bs.length:Int) by omega] at hr
 have b5:Upd (fun k=>(Value.slice sa bs.length sc).ownBlock=some k) w w1:=(a6.mono (fun _ _ e=>e.elim)).trans (Upd.of_grown h2 (fun k hk=>hk))
 have c4:w1.heap[w.heap.size]?=some (.cells (bcells zblk).toArray 48 (0,0)):=(h2.block _ (Za a8) (fun e=>by have:=(b3 _ e.symm).2;omega)).trans a8
 have a0:(bs++List.replicate (60 - bs.length) (0:Int)).length=60:=by simp;omega
 have a9:Bytes (bs++List.replicate (60 - bs.length) (0:Int)):=hb.append (Bytes.zeros _)
 obtain⟨cs,b1⟩: ∃cs,cs=bs++List.replicate (60 - bs.length) (0:Int):=⟨_,rfl⟩
 have a3:Yl bs=cs++layF (sumF cs) 32:=by rw[b1];rfl
 rw[←b1] at a0 a9 h1
 obtain⟨g1,c1,rfl⟩:=h1.slice_of (by intro e;rw[e] at a0;simp at a0)
 have HR:=V hr;have HO:=V h1;have HU:=V b5;have HB:=V c4;have HS:=V a3;have b6:=V a9;have a7:=V a0;have c0:=V c5
 clear ho b4 hr h1 h2 h3 a6 b5 a8 c4 b1 a3 a0 a9 b3 c5
 go_enter Tryz.func191,Tryz.ntmps191
 go_upto_region 1 with fail
 iterate 13 go_step
 refine Lib.wpList_append_run (w.alloc (.cells (bcells zblk).toArray 48)) rfl (.tmp 3) (.tmp 6) 39 3 rfl _ _ rfl rfl _ _ (by rw[←c0.o];exact HR.o) ?_
 clear HR c0
 go_wp2_with (go_at_call 190;fail)
 refine(Zmw w1 (by have:=a7.o;omega) HO.o.bytesIn b6.o).mono ?_
 rintro e w2 ⟨rfl,b8⟩
 have b0:RowKit.Hid (U0 w1 w2):=V b8
 clear b8
 simp only[]
 go_wp2_with (go_at_call 189;fail)
 refine(Zak w2 (by have:=a7.o;omega) (HO.o.bytesIn.kept b0.o) (Zhj cs)).mono ?_
 rintro e w3 ⟨u3,rfl,a5,b7⟩
 rw[←HS.o] at a5
 obtain⟨g3,c3,rfl⟩:=a5.slice_of (by intro e;have:=Zaa hl;rw[e] at this;simp at this)
 have a2:=Zaa hl
 have c2:=Zgh a5
 rw[a2]
 have a1:U0 w1 w3:=b0.o.trans b7
 have b2:=kb a1 HB.o
 have a4:Upd (fun k=>(Value.slice sa bs.length sc).ownBlock=some k) w w3:=HU.o.trans (a1.mono (fun _ _ e=>e.elim))
 have hz:(bcells zblk).toArray.size=64:=by simp[bcells,zblk]
 have b9:w3.there w.heap.size 0 (bcells (Yl bs)).toArray.size:=by
  have:=Zq b2
  rwa [show(bcells zblk).toArray.size=(bcells (Yl bs)).toArray.size by rw[hz];simp[HL.o]] at this
 have hw:=Zi (vs:=bcells (Yl bs)) b2 (by rw[hz,HL.o])
 have c8:=V b9;have HW:=V hw;have d0:=V a4;have c6:=V c2
 have d1:=Zjv g3 c3 w3
 clear a5 b7 a2 c2 a1 b2 a4 hz b9 hw HU HO HB HS b6 a7 b0
 simp only[]
 iterate 4 go_step
 refine wpList_load_mid rfl 48 (.tmp 12) rfl g3 0 rfl (bcells (Yl bs)) _ c6.o Tryz.underlying48 rfl HI.o ?_
 refine wpList_store_mid rfl 48 (.tmp 2) (.tmp 13) rfl w.heap.size 0 (bcells (Yl bs)).toArray rfl rfl c8.o (by rw[HI.o];simp) c7.o ?_
 go_wp2
 have c9:=run_loadVar_mid (P:=Tryz.prog) (w3.setCells w.heap.size 0 (bcells (Yl bs))) w.heap.size 0 48 (bcells (Yl bs)) _ (Zh HW.o) Tryz.underlying48 rfl HI.o
 refine bodyPost_ret (Yt Tryz.results191 rfl c9) rfl ⟨rfl,?_⟩
 exact(Upd.setCells (F:=fun k=>(Value.slice sa bs.length sc).ownBlock=some k∨w.heap.size≤k) (.inr (Nat.le_refl _)) (bcells (Yl bs)) 0 (d0.o.mono (fun _ _ e=>.inl e))).mono (fun j hj e=>e.elim id (fun e=>by omega))
end
end Go.Proofs.YtbimkhdiplnbfaaGreat
