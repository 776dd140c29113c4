/- Walks. -/
import Derived.Test.YtbimkhdiplnbfaaGreatU10
import Derived.Deep.CutBlock
set_option linter.unusedVariables false
set_option linter.unusedSimpArgs false
namespace Go.Proofs.YtbimkhdiplnbfaaGreat
set_option maxRecDepth 1000000
set_option maxHeartbeats 16000000
variable {b:List Int} {fr k tn:Nat} {v:Value} {w:World}
section
open Go.RowKit
theorem Zcp {n:Nat}(h:n≤40000):secsI (n:Int)=(secsN n:Int):=by
 unfold secsI secsN
 rw[if_neg (by omega)];omega
theorem BytesIn.slice' {bs:List Int}(h:BytesIn w v bs): ∃sa c,v=.slice sa bs.length c:=by
 rcases h with ⟨rfl,rfl⟩ | ⟨a,c,rfl,_⟩
 ·exact⟨none,0,rfl⟩
 ·exact⟨_,c,rfl⟩
theorem Zmi {n:Nat}(h:n≤40000)(snap:Bool):0≤Zal n snap∧Zal n snap≤65535:=by
 unfold Zal secsN;split<;> omega
theorem Zqo {bs:List Int}(hb:BytesIn w v bs)(h1:fr≤tn)(h2:tn≤bs.length):
  ∃v',(Instr.sliceAt 39 v (some (.int .i64 fr)) (some (.int .i64 tn)) none).run Tryz.prog w=.ok v' w∧BytesIn w v' ((bs.drop fr).take (tn - fr)):=by
 have ht:Tryz.prog.underlying 39=some (.slice (Tryz.prog.elem 39)):=by kernel_rfl
 have hz:(sizeOf (Tryz.prog.elem 39)).run Tryz.prog w=.ok 1 w:=by kernel_rfl
 have a0:((bs.drop fr).take (tn - fr)).length=tn - fr:=by simp;omega
 rw[run_sliceAt_slice w 39 v _ _ _ ht]
 rcases hb with ⟨rfl,rfl⟩ | ⟨a,c,rfl,g1,g2,g3⟩
 ·obtain rfl:tn=0:=by simpa using h2
  obtain rfl:fr=0:=by omega
  refine⟨.slice none 0 0,?_,.inl ⟨rfl,by simp⟩⟩
  rw[run_slice_lh w 39 none 0 0 ht .i64 .i64 _ _ (by omega) (by omega) (by omega),hz]
  rfl
 ·refine⟨sliced (some a) fr tn c 1,?_,.inr ⟨if c=fr then a else a.add fr,c - fr,?_,?_,?_,?_⟩⟩
  ·rw[run_slice_lh w 39 (some a) bs.length c ht .i64 .i64 _ _ (by omega) (by omega) (by omega),hz]
   simp
  ·rw[a0];unfold sliced;simp;split<;> rfl
  ·rw[a0];omega
  ·omega
  ·intro i u hi
   have a1:i<tn - fr:=by
    have:=(List.getElem?_eq_some_iff.1 hi).1
    simp[bcells] at this;omega
   rw[if_neg (by omega),Addr.add_add]
   refine g3 (fr+i) u ?_
   rw[←hi]
   simp[bcells,a1]
theorem Zig {P:Program}{o:Oper}{a:Act}{w':World}{x lo hi:Operand}{vl vh u:Value}{t:TypeId}(ho:o.op=.slice t x (some lo) (some hi) none)(hx:a.eval x=v)(hl:a.eval lo=vl)(hh:a.eval hi=vh)(hr:(Instr.sliceAt t v (some vl) (some vh) none).run P w=.ok u w'):(execOp a.eval o).run P w=.ok (.value u) w':=by
 unfold execOp
 simp only[ho,Option.map_some,Option.map_none,hx,hl,hh,Sem.run_bind,hr,Result.andThen_ok,Sem.run_pure]
theorem Ztv (h1:fr=48 * k - 4)(h2:tn=min (48 * k+44) b.length):allF b k=((if k=0 then layF b.length 32 else [])++(b.drop fr).take (tn - fr))++List.replicate (48 - ((if k=0 then layF b.length 32 else [])++(b.drop fr).take (tn - fr)).length) 0:=by
 subst h1;subst h2;rfl
theorem Zjw (h1:fr=48 * k - 4)(h2:tn=min (48 * k+44) b.length)(_h3:fr≤tn):((if k=0 then layF b.length 32 else [])++(b.drop fr).take (tn - fr)).length≤48:=by
 have e:(if k=0 then layF b.length 32 else([]:List Int)).length=if k=0 then 4 else 0:=by split<;> simp[layF_length]
 rw[List.length_append,e]
 simp only[List.length_take,List.length_drop]
 split<;> omega
theorem Zh8 (h:Bytes b)(fr n:Nat):Bytes ((b.drop fr).take n):=fun x hx=>h x (List.mem_of_mem_drop (List.mem_of_mem_take hx))
theorem Zir {turn number many:Int}{snap:Bool}{lead al:List Int}(hm:many=Zal b.length snap)(hl:lead=((layF turn 32++layF number 32)++layF k 16)++layF many 16)(ha:al=allF b k):cutF turn number snap b k=(lead++layF (sumF (lead++al)) 32)++al:=by
 subst hm;subst hl;subst ha;rfl
theorem Zne {turn number:Int}{snap:Bool}(w:World)(ht:0≤turn∧turn≤4294967295)(hn:0≤number∧number≤4294967295)(hbi:BytesIn w v b)(hby:Bytes b)(hl:b.length≤40000)(hk:k<secsN b.length):
  Calls Tryz.prog 162 #[.int .i64 turn,.int .i64 number,.bool snap,v,.int .i64 k] w fun e w'=>e=.returned (.agg (bcells (cutF turn number snap b k)).toArray)∧U0 w w':=by
 obtain⟨sa,sc,rfl⟩:=hbi.slice'
 have f9:=V hbi;have i0:=V hby
 have b3:=Zcp hl
 have j3:48 * k≤b.length+3:=by unfold secsN at hk;omega
 have j5:k≤834:=by unfold secsN at hk;omega
 have e8:secsN b.length<1000:=by unfold secsN;omega
 have h8:=Zmi hl snap
 have q1:IntKind.u32.wrap turn=turn:=by rw[IntKind.wrap_u32];omega
 have q2:IntKind.u32.wrap number=number:=by rw[IntKind.wrap_u32];omega
 have q3:IntKind.u32.wrap (b.length:Int)=b.length:=by rw[IntKind.wrap_u32];omega
 have q4:IntKind.u16.wrap (k:Int)=k:=by rw[IntKind.wrap_u16];omega
 have q5:IntKind.u16.wrap (Zal b.length snap)=Zal b.length snap:=by rw[IntKind.wrap_u16];omega
 clear hbi hby
 go_enter Tryz.func162,Tryz.ntmps162
 go_upto_region 1 with fail
 obtain⟨w0,b6⟩: ∃w0,w0=w.alloc (.cells (bcells zblk).toArray 48):=⟨_,rfl⟩
 refine(?_:Code.wp _ _ _ _ (w.alloc (.cells (bcells zblk).toArray 48)))
 rw[←b6]
 have f4:RowKit.Hid (U0 w w0):=V (by rw[b6];exact(Upd.refl _ w).alloc _)
 have i6:RowKit.Hid (w0.heap[w.heap.size]?=some (.cells (bcells zblk).toArray 48 (0,0))):=V (by rw[b6];exact Zc rfl)
 have b0:=V (f9.o.kept f4.o)
 clear b6
 go_wp2_with (go_at_call 113;fail)
 refine(Yf _ _).mono ?_
 rintro e w1 ⟨rfl,rfl⟩
 rw[b3]
 simp only[]
 go_upto_if 19 with fail
 go_cut [11] from 16 to 73 (fun m wr=>m=.int .i64 (Zal b.length snap)∧w0=wr)
 case first=>
  cases snap with
  |false=>
   go_wp2
   go_meet
   case rel=>exact⟨by simp[Zal],rfl⟩
  |true=>
   have j1:=Zs3 e8
   go_wp2
   go_meet
   case rel=>exact⟨by simp[Zal],rfl⟩
 case rest=>
  obtain⟨rfl,rfl⟩:=hcut
  obtain⟨a7,a4⟩: ∃a7,a7=Zal b.length snap:=⟨_,rfl⟩
  rw[←a4] at h8 q5 ⊢
  have d3:=V a4
  clear a4 b3 e8
  go_wp2_with (go_at_call 189;fail)
  refine(Zak (v:=.slice none 0 0) (bs:=[]) (x:=b.length) w0 (by simp) (.inl ⟨rfl,rfl⟩) (by omega)).mono ?_
  rintro e w1 ⟨u1,rfl,h3,h5⟩
  have e9:=V h3;have c3:=V h5
  clear h3 h5
  simp only[]
  go_upto_if 27 with fail
  go_cut [12] from 16 to 73 (fun out wr=>OwnB wr w0.heap.size out (if k=0 then layF b.length 32 else [])∧U0 w0 wr)
  case first=>
   rcases Nat.eq_zero_or_pos k with rfl | j0
   ·go_wp2
    go_meet
    case rel=>exact⟨by simpa using e9.o,c3.o⟩
   ·have j2:(k:Int) > 0:=by omega
    go_wp2
    go_meet
    case rel=>
     refine⟨?_,c3.o⟩
     rw[if_neg (by omega)]
     exact World.ownsRow_nil _ _ _ _
  case rest=>
   obtain⟨g3,e0⟩:=hcut
   have c6:=V g3;have b4:=V e0
   clear g3 e0 e9 c3
   go_upto_region 8 with fail
   obtain⟨fr,d1⟩: ∃fr:Nat,fr=48 * k - 4:=⟨_,rfl⟩
   rw[show(if 48 * (k:Int) - 4<0 then 0 else 48 * (k:Int) - 4)=(fr:Int) by rw[d1];split<;> omega]
   obtain⟨tn,e2⟩: ∃tn:Nat,tn=min (48 * k+44) b.length:=⟨_,rfl⟩
   have d7:fr≤tn:=by omega
   have i2:tn≤b.length:=by omega
   have c5:=V d1;have b9:=V e2
   clear d1 e2
   go_cut [12] from 16 to 73 (fun out wr=>OwnB wr w0.heap.size out ((if k=0 then layF b.length 32 else [])++(b.drop fr).take (tn - fr))∧U0 w0 wr)
   case first=>
    iterate 31 go_step
    rw[show(if(b.length:Int)<48 * (k:Int)+48 - 4 then(b.length:Int) else 48 * (k:Int)+48 - 4)=(tn:Int) by rw[b9.o];split<;> omega]
    obtain⟨vs,f1,d9⟩:=Zqo (b0.o.kept b4.o) d7 i2
    refine Yv rfl (Zig rfl rfl rfl rfl f1) ?_
    have b2:=Zjw c5.o b9.o d7
    rw[List.length_append] at b2
    refine Y7 rfl (.tmp 32) (.tmp 42) rfl rfl c6.o rfl d9 (by omega) b4.o.size ?_
    intro v' w4 g1 g2
    have G1:=V g1
    have i3:RowKit.Hid (U0 w0 w4):=V (b4.o.step g2 (fun j hj e=>by have:=(World.ownsRow.lt c6.o j e).1;omega))
    clear g1 g2 f1 d9 b2
    go_wp2
    go_meet
    case rel=>exact⟨G1.out,i3.o⟩
   case rest=>
    obtain⟨b8,h1⟩:=hcut
    have b2:=Zjw c5.o b9.o d7
    have a8:=Ztv (b:=b) c5.o b9.o
    have c0:Bytes ((if k=0 then layF b.length 32 else [])++(b.drop fr).take (tn - fr)):=Bytes.append (by split;exact Yg _ _;exact fun x hx=>by simp at hx) (Zh8 i0.o _ _)
    obtain⟨pm,e7⟩: ∃pm,pm=(if k=0 then layF b.length 32 else [])++(b.drop fr).take (tn - fr):=⟨_,rfl⟩
    rw[←e7] at b8 b2 a8 c0
    obtain⟨sb,cb,rfl⟩:=b8.slice'
    have d5:=V b8;have c9:=V h1;have b7:=V a8;have h2:=V c0
    clear b8 h1 a8 c0 e7 c6 b4 b0 f9
    go_upto_region 9 with fail
    iterate 13 go_step
    refine Zlz rfl (.tmp 44) (.tmp 47) (m:=48 - pm.length) rfl rfl d5.o rfl (by omega) (by omega) c9.o.size ?_
    intro v5 w5 g1 g2
    rw[←b7.o] at g1
    have a6:(allF b k).length=48:=by rw[b7.o];simp;omega
    have a9:Bytes (allF b k):=by rw[b7.o];exact h2.o.append (Bytes.zeros _)
    obtain⟨al,a8⟩: ∃al,al=allF b k:=⟨_,rfl⟩
    rw[←a8] at g1 a6 a9
    have G5:=V g1;have HA:=V a8;have a5:=V a6;have e3:=V a9
    have f2:RowKit.Hid (U0 w0 w5):=V (c9.o.step g2 (fun j hj e=>by have:=(World.ownsRow.lt d5.o j e).1;omega))
    clear g1 g2 a8 a6 a9 d5 c9 b7 h2 b2
    go_wp2_with (go_at_call 189;fail)
    refine(Zak (v:=.slice none 0 0) (bs:=[]) (x:=turn) w5 (by simp) (.inl ⟨rfl,rfl⟩) ht).mono ?_
    rintro e w6 ⟨u6,rfl,g6,k6⟩
    have G6:=V g6;have d8:=V (f2.o.trans k6);have f5:=V k6
    clear g6 k6
    simp only[]
    go_wp2_with (go_at_call 189;fail)
    refine(Zak (x:=number) w6 (by simp[layF_length]) G6.out.bytesIn hn).mono ?_
    rintro e w7 ⟨u7,rfl,g7,k7⟩
    have G7:=V g7;have e1:=V (d8.o.trans k7);have f0:=V (f5.o.trans k7)
    clear g7 k7 G6 d8 f5
    simp only[]
    go_wp2_with (go_at_call 147;fail)
    refine(Zfi (x:=(k:Int)) w7 (by simp[layF_length]) G7.out.bytesIn (by omega)).mono ?_
    rintro e w8 ⟨u8,rfl,g8,k8⟩
    have G8:=V g8;have h6:=V (e1.o.trans k8);have h4:=V (f0.o.trans k8)
    clear g8 k8 G7 e1 f0
    simp only[]
    go_wp2_with (go_at_call 147;fail)
    refine(Zfi (x:=a7) w8 (by simp[layF_length]) G8.out.bytesIn h8).mono ?_
    rintro e w9 ⟨u9,rfl,g9,k9⟩
    simp only[List.nil_append] at g9
    obtain⟨a3,a0⟩: ∃a3,a3=((layF turn 32++layF number 32)++layF k 16)++layF a7 16:=⟨_,rfl⟩
    rw[←a0] at g9
    have b1:a3.length=12:=by rw[a0];simp[layF_length]
    have h9:Bytes a3:=by rw[a0];exact((((Yg _ _).append (Yg _ _)).append (Yg _ _)).append (Yg _ _))
    have G9:=V g9;have d6:=V (h6.o.trans k9);have c8:=V (h4.o.trans k9);have d4:=V a0;have a1:=V b1;have f3:=V h9
    clear g9 k9 G8 h6 h4 a0 b1 h9
    simp only[]
    go_wp2_with (go_at_call 99;fail)
    refine(Y4 w9 (by have:=a1.o;omega) G9.out.bytesIn).mono ?_
    rintro e wa ⟨ua,rfl,ga,_,ka⟩
    have GA:=V ga;have f8:=V (d6.o.trans ka);have c7:=V (c8.o.trans ka);have c2:=V ka
    clear ga ka
    simp only[]
    iterate 4 go_step
    refine Y7 rfl (.tmp 63) (.tmp 64) rfl rfl GA.out rfl (G5.out.bytesIn.kept c7.o) (by have:=a1.o;have:=a5.o;omega) c2.o.size ?_
    intro vb wb gb kb
    have GB:=V gb
    have f6:RowKit.Hid (U0 w0 wb):=V (f8.o.step kb (fun j hj e=>by have:=(World.ownsRow.lt GA.out j e).1;have:=d6.o.size;omega))
    have h0:RowKit.Hid (U0 w5 wb):=V (c7.o.step kb (fun j hj e=>by have:=(World.ownsRow.lt GA.out j e).1;have:=c8.o.size;omega))
    have g5:RowKit.Hid (U0 w9 wb):=V (c2.o.step kb (fun j hj e=>by have:=(World.ownsRow.lt GA.out j e).1;omega))
    clear gb kb GA f8 c7 c2
    go_wp2_with (go_at_call 190;fail)
    refine(Zmw wb (by have:=a1.o;have:=a5.o;rw[List.length_append];omega) GB.out.bytesIn (f3.o.append e3.o)).mono ?_
    rintro e i8 ⟨rfl,kc⟩
    have d2:=V (f6.o.trans kc);have f7:=V (h0.o.trans kc);have e4:=V (g5.o.trans kc)
    clear kc GB f6 h0 g5
    simp only[]
    go_wp2_with (go_at_call 189;fail)
    refine(Zak (x:=sumF (a3++al)) i8 (by have:=a1.o;omega) (G9.out.bytesIn.kept e4.o) (Zhj _)).mono ?_
    rintro e wd ⟨ud,rfl,gd,kd⟩
    have GD:=V gd;have e5:=V (d2.o.trans kd);have g0:=V (f7.o.trans kd);have g4:=V kd
    clear gd kd f7 e4
    simp only[]
    iterate 4 go_step
    refine Y7 rfl (.tmp 69) (.tmp 70) rfl rfl GD.out rfl (G5.out.bytesIn.kept g0.o) (by have:=a1.o;have:=a5.o;rw[List.length_append,layF_length];omega) g4.o.size ?_
    intro vf wf gf kf
    have e6:RowKit.Hid (U0 w0 wf):=V (e5.o.step kf (fun j hj e=>by have:=(World.ownsRow.lt GD.out j e).1;have:=d2.o.size;omega))
    rw[←Zir d3.o d4.o HA.o] at gf
    have a2:(cutF turn number snap b k).length=64:=by
     rw[Zir d3.o d4.o HA.o]
     have:=a1.o;have:=a5.o
     simp[layF_length];omega
    obtain⟨cu,d0⟩: ∃cu,cu=cutF turn number snap b k:=⟨_,rfl⟩
    rw[←d0] at gf a2
    obtain⟨g1,c1,rfl⟩:=gf.slice_of (by intro e;rw[e] at a2;simp at a2)
    have c4:=kb e6.o i6.o
    have hz:(bcells zblk).toArray.size=64:=by simp[bcells,zblk]
    have b5:(bcells cu).length=64:=by simp[bcells,a2]
    have h7:wf.there w.heap.size 0 (bcells cu).toArray.size:=by
     have:=Zq c4
     rwa [show(bcells zblk).toArray.size=(bcells cu).toArray.size by rw[hz];simp[b5]] at this
    have hw:=Zi (vs:=bcells cu) c4 (by rw[hz,b5])
    have hi:(Tryz.prog.info? 48).map (·.size)=some (bcells cu).length:=by rw[Tryz.info56p,b5]
    have i9:=V h7;have HW:=V hw;have i7:=V (Zgh gf);have HI:=V hi;have i1:=V d0
    have i4:=V (all_oneCell_toArray (Z6 cu))
    have j4:=Zjv g1 c1 wf
    rw[a2]
    clear gf kf d0 a2 c4 hz b5 h7 hw hi GD e5 g0 d2 g4 G9 d6 c8 G5 f2 HA a5 e3 d4 a1 f3 d3
    iterate 3 go_step
    refine wpList_load_mid rfl 48 (.tmp 72) rfl g1 0 rfl (bcells cu) _ i7.o Tryz.underlying48 rfl HI.o ?_
    refine wpList_store_mid rfl 48 (.tmp 10) (.tmp 73) rfl w.heap.size 0 (bcells cu).toArray rfl rfl i9.o (by rw[HI.o];simp) i4.o ?_
    go_wp2
    have i5:=run_loadVar_mid (P:=Tryz.prog) (wf.setCells w.heap.size 0 (bcells cu)) w.heap.size 0 48 (bcells cu) _ (Zh HW.o) Tryz.underlying48 rfl HI.o
    refine bodyPost_ret (Yt Tryz.results162 rfl i5) rfl ⟨by rw[i1.o],?_⟩
    exact(Upd.setCells (F:=fun k=>w.heap.size≤k) (Nat.le_refl _) (bcells cu) 0 ((f4.o.trans e6.o).mono (fun _ _ e=>e.elim))).mono (fun j hj e=>by omega)
end
end Go.Proofs.YtbimkhdiplnbfaaGreat
