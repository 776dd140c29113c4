/- Walks. -/
import Derived.Test.YtbimkhdiplnbfaaGreatU8
import Derived.Lib.SmallJoins
set_option linter.unusedVariables false
set_option linter.unusedSimpArgs false
namespace Go.Proofs.YtbimkhdiplnbfaaGreat
set_option maxRecDepth 1000000
set_option maxHeartbeats 16000000
section
open Go.RowKit Go.Joins
def Hd.val (h:Hd):Value:=.agg #[.int .i64 h.turn,.int .i64 h.area,.int .i64 h.place,.int .i64 h.number]
def Hd.nums (h:Hd):List Int:=[h.turn,h.area,h.place,h.number]
def headP (h:Hd)(k:Nat):List Int:=lettersF++(h.nums.take k).flatMap (layF · 32)
theorem Zac (h:Hd){k:Nat}(hk:k≤4):(headP h k).length=8+4 * k:=by
 have:k=0∨k=1∨k=2∨k=3∨k=4:=by omega
 rcases this with rfl | rfl | rfl | rfl | rfl<;> simp[headP,lettersF,Hd.nums,layF_length]
theorem Yg (x:Int)(b:Nat):Bytes (layF x b):=Zjg
theorem Zgn (h:Hd)(k:Nat):Bytes (headP h k):=by
 refine Bytes.append ?_ ?_
 ·intro x hx;simp[lettersF] at hx;omega
 ·intro x hx
  rw[List.mem_flatMap] at hx
  obtain⟨y,_,hy⟩:=hx
  exact Zjg x hy
theorem Zeq (h:Hd):Yl (headP h 4)=headF h:=by simp[headP,headF,Hd.nums,List.append_assoc]
theorem Zc0 (h:Hd){k:Nat}{x:Int}(hx:h.nums[k]?=some x):headP h (k+1)=headP h k++layF x 32:=by
 unfold headP
 rw[List.take_add_one,hx]
 simp
structure Hd.U32 (h:Hd):Prop where
 turn:0≤h.turn∧h.turn≤4294967295
 area:0≤h.area∧h.area≤4294967295
 place:0≤h.place∧h.place≤4294967295
 number:0≤h.number∧h.number≤4294967295
theorem Zg1 {P:Program}{o:Oper}{a:Act}{w w':World}{x:Operand}{v u:Value}{s t:TypeId}(ho:o.op=.convert s t x)(hx:a.eval x=v)(hr:(convert s t v).run P w=.ok u w'):(execOp a.eval o).run P w=.ok (.value u) w':=by
 unfold execOp
 simp only[ho,hx,Sem.run_bind,hr,Result.andThen_ok,Sem.run_pure]
theorem Zjt (h:Hd)(w:World)(hr:h.U32):Calls Tryz.prog 164 #[h.val] w fun e w'=>e=.returned (.agg (bcells (headF h)).toArray)∧U0 w w':=by
 have a4:(Yl (headP h 4)).length=64:=Zaa (by rw[Zac h (Nat.le_refl 4)];omega)
 rw[Zeq] at a4
 have hi:(Tryz.prog.info? 48).map (·.size)=some (bcells (headF h)).length:=by rw[Tryz.info56p];simp[bcells,a4]
 have b8:=V (all_oneCell_toArray (Z6 (headF h)))
 have HL:RowKit.Hid ((bcells (headF h)).length=64):=V (by simp[bcells,a4])
 have HI:=V hi
 have HR:RowKit.Hid (∀x∈h.nums,0≤x∧x≤4294967295):=V (fun x hx=>by
  simp only[Hd.nums,List.mem_cons,List.not_mem_nil,or_false] at hx
  rcases hx with rfl | rfl | rfl | rfl
  ·exact hr.turn
  ·exact hr.area
  ·exact hr.place
  ·exact hr.number)
 have t1:=hr.turn;have t2:=hr.area;have t3:=hr.place;have t4:=hr.number
 have q1:IntKind.u32.wrap h.turn=h.turn:=by rw[IntKind.wrap_u32];omega
 have q2:IntKind.u32.wrap h.area=h.area:=by rw[IntKind.wrap_u32];omega
 have q3:IntKind.u32.wrap h.place=h.place:=by rw[IntKind.wrap_u32];omega
 have q4:IntKind.u32.wrap h.number=h.number:=by rw[IntKind.wrap_u32];omega
 have i0: ∀W,(Instr.index 270 (.agg #[.int .i64 h.turn,.int .i64 h.area,.int .i64 h.place,.int .i64 h.number]) (.int .i64 0)).run Tryz.prog W=.ok (.int .i64 h.turn) W:=fun W=>by kernel_rfl
 have i1: ∀W,(Instr.index 270 (.agg #[.int .i64 h.turn,.int .i64 h.area,.int .i64 h.place,.int .i64 h.number]) (.int .i64 1)).run Tryz.prog W=.ok (.int .i64 h.area) W:=fun W=>by kernel_rfl
 have i2: ∀W,(Instr.index 270 (.agg #[.int .i64 h.turn,.int .i64 h.area,.int .i64 h.place,.int .i64 h.number]) (.int .i64 2)).run Tryz.prog W=.ok (.int .i64 h.place) W:=fun W=>by kernel_rfl
 have i3: ∀W,(Instr.index 270 (.agg #[.int .i64 h.turn,.int .i64 h.area,.int .i64 h.place,.int .i64 h.number]) (.int .i64 3)).run Tryz.prog W=.ok (.int .i64 h.number) W:=fun W=>by kernel_rfl
 obtain⟨hv,b1⟩: ∃hv,hv=bcells (headF h):=⟨_,rfl⟩
 rw[←b1] at b8 HL HI ⊢
 have c2:=V b1
 clear a4 hi hr b1
 unfold Hd.val
 go_enter Tryz.func164,Tryz.ntmps164
 go_upto_region 1 with fail
 iterate 4 go_step
 obtain⟨w0,a0⟩: ∃w0,w0=(w.alloc (.cells #[.int .i64 h.turn,.int .i64 h.area,.int .i64 h.place,.int .i64 h.number] 184)).alloc (.cells (bcells zblk).toArray 48):=⟨_,rfl⟩
 have a7:w0.heap.size=w.heap.size+1+1:=by rw[a0];simp
 have kc:=run_convert_bytes_const_at (P:=Tryz.prog) w0 39 5 (bcells lettersF).toArray 8 8 (w.heap.size+1+1) a7.symm Tryz.underlying39 Tryz.underlying5
 refine Yv rfl (Zg1 rfl rfl (by rw[a0] at kc;exact kc)) ?_
 rw[show((w.alloc (.cells #[.int .i64 h.turn,.int .i64 h.area,.int .i64 h.place,.int .i64 h.number] 184)).alloc (.cells (bcells zblk).toArray 48))=w0 from a0.symm]
 obtain⟨w1,a3⟩: ∃w1,w1=w0.alloc (.cells (bcells lettersF).toArray 5 ((bcells lettersF).toArray.size,(bcells lettersF).toArray.size+1)):=⟨_,rfl⟩
 rw[←a3]
 have b5:U0 w w1:=by rw[a3,a0];exact(((Upd.refl _ w).alloc _).alloc _).alloc _
 have c0:w1.heap[w.heap.size+1]?=some (.cells (bcells zblk).toArray 48 (0,0)):=by rw[a3,Zm (by omega),a0];exact Zc (by simp)
 have a6:w1.heap[w.heap.size]?=some (.cells #[.int .i64 h.turn,.int .i64 h.area,.int .i64 h.place,.int .i64 h.number] 184 (0,0)):=by rw[a3,Zm (by omega),a0];exact(Zm (by simp)).trans (Zc rfl)
 have b9:BytesIn w1 (.slice (some ⟨w.heap.size+1+1,0,none⟩) 8 8) (headP h 0):=by
  have e:headP h 0=lettersF:=by simp[headP]
  rw[e]
  refine .inr ⟨⟨w.heap.size+1+1,0,none⟩,8,rfl,Nat.le_refl _,by unfold maxLen;omega,fun i u hi=>?_⟩
  rw[Addr.add_mid,Nat.zero_add,a3,cell_alloc_mark_at w0 _ _ _ _ i a7.symm]
  simpa using hi
 have b4:=V b5;have b3:=V c0;have b2:=V b9;have c6:=V a6
 obtain⟨d0,d1,d2,d3⟩:w1.cell? ⟨w.heap.size,0,none⟩=some (.int .i64 h.turn)∧w1.cell? ⟨w.heap.size,1,none⟩=some (.int .i64 h.area)∧w1.cell? ⟨w.heap.size,2,none⟩=some (.int .i64 h.place)∧w1.cell? ⟨w.heap.size,3,none⟩=some (.int .i64 h.number):=by simp[World.cell?,a6]
 clear kc b5 c0 b9 a6 a3 a0 a7
 go_upto_region 3 with fail
 clear d0 d1 d2 d3
 go_loopg [3,17] 4 (fun gk out i wr=> ∃k:Nat,k≤4∧gk=4 - k∧i=.int .i64 k∧BytesIn wr out (headP h k)∧(0<k→OwnB wr w1.heap.size out (headP h k))∧U0 w1 wr)
 case atStart=>exact⟨0,Nat.zero_le _,rfl,rfl,b2.o,fun e=>by omega,Upd.refl _ _⟩
 case round=>
  obtain⟨k,hk,rfl,rfl,ho,c1,hu⟩:=hrel
  have HO:=V ho;have b7:=V c1;have HU:=V hu
  clear ho c1 hu b2
  by_cases c7:k<4
  ·have a5:k=0∨k=1∨k=2∨k=3:=by omega
   rcases a5 with rfl | rfl | rfl | rfl
   ·go_wp2_with (go_at_call 189;fail)
    refine(Zak (x:=h.turn) wr (by rw[Zac h (by omega)];omega) HO.o t1).mono ?_
    rintro e w4 ⟨u4,rfl,g1,g2⟩
    rw[←Zc0 h (k:=0) (x:=h.turn) rfl] at g1
    have G1:RowKit.Hid (OwnB w4 w1.heap.size u4 (headP h (0+1))):=V (g1.mono HU.o.size)
    have a2:=V (HU.o.trans g2)
    clear g1 g2
    simp only[]
    go_wp2
    go_roundg (4 - (0+1))
    case measure=>omega
    case rel=>exact⟨0+1,by omega,rfl,rfl,G1.out.bytesIn,fun _=>G1.out,a2.o⟩
   ·go_wp2_with (go_at_call 189;fail)
    refine(Zak (x:=h.area) wr (by rw[Zac h (by omega)];omega) HO.o t2).mono ?_
    rintro e w4 ⟨u4,rfl,g1,g2⟩
    rw[←Zc0 h (k:=1) (x:=h.area) rfl] at g1
    have G1:RowKit.Hid (OwnB w4 w1.heap.size u4 (headP h (1+1))):=V (g1.mono HU.o.size)
    have a2:=V (HU.o.trans g2)
    clear g1 g2
    simp only[]
    go_wp2
    go_roundg (4 - (1+1))
    case measure=>omega
    case rel=>exact⟨1+1,by omega,rfl,rfl,G1.out.bytesIn,fun _=>G1.out,a2.o⟩
   ·go_wp2_with (go_at_call 189;fail)
    refine(Zak (x:=h.place) wr (by rw[Zac h (by omega)];omega) HO.o t3).mono ?_
    rintro e w4 ⟨u4,rfl,g1,g2⟩
    rw[←Zc0 h (k:=2) (x:=h.place) rfl] at g1
    have G1:RowKit.Hid (OwnB w4 w1.heap.size u4 (headP h (2+1))):=V (g1.mono HU.o.size)
    have a2:=V (HU.o.trans g2)
    clear g1 g2
    simp only[]
    go_wp2
    go_roundg (4 - (2+1))
    case measure=>omega
    case rel=>exact⟨2+1,by omega,rfl,rfl,G1.out.bytesIn,fun _=>G1.out,a2.o⟩
   ·go_wp2_with (go_at_call 189;fail)
    refine(Zak (x:=h.number) wr (by rw[Zac h (by omega)];omega) HO.o t4).mono ?_
    rintro e w4 ⟨u4,rfl,g1,g2⟩
    rw[←Zc0 h (k:=3) (x:=h.number) rfl] at g1
    have G1:RowKit.Hid (OwnB w4 w1.heap.size u4 (headP h (3+1))):=V (g1.mono HU.o.size)
    have a2:=V (HU.o.trans g2)
    clear g1 g2
    simp only[]
    go_wp2
    go_roundg (4 - (3+1))
    case measure=>omega
    case rel=>exact⟨3+1,by omega,rfl,rfl,G1.out.bytesIn,fun _=>G1.out,a2.o⟩
  ·obtain rfl:k=4:=by omega
   go_wp2_with (go_at_call 191;fail)
   refine(Znr wr (by rw[Zac h (Nat.le_refl 4)];omega) (Zgn h 4) HU.o.size (b7.o (by omega))).mono ?_
   rintro e w5 ⟨rfl,a9⟩
   rw[Zeq,←c2.o]
   have hz:(bcells zblk).toArray.size=64:=by simp[bcells,zblk]
   have a1: ∀kk,u3.ownBlock=some kk→w1.heap.size≤kk:=fun kk hkk=>(World.ownsRow.lt (b7.o (by omega)) kk hkk).1
   have a8:=Za b3.o
   have b0:=(a9.block _ (Nat.lt_of_lt_of_le a8 HU.o.size) (fun e=>by have:=a1 _ e;omega)).trans ((HU.o.block _ a8 id).trans b3.o)
   have b6:w5.there (w.heap.size+1) 0 hv.toArray.size:=by
    have:=Zq b0
    rwa [show(bcells zblk).toArray.size=hv.toArray.size by rw[hz];simp[HL.o]] at this
   have hw:=Zi (vs:=hv) b0 (by rw[hz,HL.o])
   have c3:RowKit.Hid (U0 w w5):=V (((b4.o.trans HU.o).step a9 (fun k hk e=>by have:=a1 _ e;have:=b4.o.size;omega)))
   have c4:=V b6;have HW:=V hw
   clear a9 hz a1 a8 b0 b6 hw i0 i1 i2 i3
   simp only[]
   iterate 1 go_step
   refine wpList_store_mid rfl 48 (.tmp 2) (.tmp 26) rfl (w.heap.size+1) 0 hv.toArray rfl rfl c4.o (by rw[HI.o];simp) b8.o ?_
   go_wp2
   have c5:=run_loadVar_mid (P:=Tryz.prog) (w5.setCells (w.heap.size+1) 0 hv) (w.heap.size+1) 0 48 hv _ (Zh HW.o) Tryz.underlying48 rfl HI.o
   refine bodyPost_ret (Yt Tryz.results164 rfl c5) rfl ⟨rfl,?_⟩
   exact(Upd.setCells (F:=fun k=>w.heap.size≤k) (Nat.le_succ _) hv 0 (c3.o.mono (fun _ _ e=>e.elim))).mono (fun j hj e=>by omega)
end
end Go.Proofs.YtbimkhdiplnbfaaGreat
